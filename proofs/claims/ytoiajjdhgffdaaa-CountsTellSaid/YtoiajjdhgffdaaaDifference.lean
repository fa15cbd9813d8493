/-
  reference: difference: between what two numbers differ in truths.
-/
import Derived.Test.YtoiajjdhgffdaaaIsOne
namespace Go.Proofs.Ytoiajjdhgffdaaa
set_option linter.unusedVariables false
open Go Go.RowKit
set_option maxHeartbeats 2000000
set_option maxRecDepth 100000
/-- What was found out of all truths in which the second number is below n. -/
structure Dif (t : CT) (i c j d : Nat) (n o1 o2 : Int) : Prop where
  all : ∀ y, Sat t (-1) y → y j d < n → o1 ≤ y i c - y j d ∧ y i c - y j d ≤ o2
  lo : o1 = 41 ∨ ∃ y, Sat t (-1) y ∧ y i c - y j d = o1
  hi : o2 = -41 ∨ ∃ y, Sat t (-1) y ∧ y i c - y j d = o2
theorem box_n {t : CT} {j d : Nat} {n : Int} {y : Nat → Nat → Int} (h : Sat t (-1) y) (e : y j d = n) : InBox t.T.toNat (t.C.toNat + 1) (upd2 f0 j d n) (upd2 (f40 t.C) j d n) y := by
  intro a b ha hb
  unfold upd2
  by_cases q : a = j ∧ b = d
  · rw [if_pos q, if_pos q, q.1, q.2, e]; exact ⟨Int.le_refl _, Int.le_refl _⟩
  · rw [if_neg q, if_neg q]; exact free_in h a b ha hb
theorem box_eq {t : CT} {j d : Nat} {n : Int} {y : Nat → Nat → Int} (hj : j < t.T.toNat) (hd : d < t.C.toNat + 1) (h : InBox t.T.toNat (t.C.toNat + 1) (upd2 f0 j d n) (upd2 (f40 t.C) j d n) y) : y j d = n := by
  have := h j d hj hd
  rw [upd2_same, upd2_same] at this
  omega
theorem box_ok {t : CT} {j d : Nat} {n : Int} (h0 : 0 ≤ n) (h40 : n ≤ 40) (hC : d = t.C.toNat → n = 0) : BoxOk t.C.toNat (upd2 f0 j d n) (upd2 (f40 t.C) j d n) := by
  have h := free_ok (C := t.C)
  refine ⟨fun a b => ?_, fun a b => ?_, fun a => ?_⟩
  · unfold upd2; split
    · omega
    · exact h.l a b
  · unfold upd2; split
    · omega
    · exact h.h a b
  · unfold upd2
    by_cases q : a = j ∧ t.C.toNat = d
    · rw [if_pos q, if_pos q, hC q.2.symm]; exact ⟨rfl, rfl⟩
    · rw [if_neg q, if_neg q]; exact h.e a
theorem Dif.none {t : CT} {i c j d : Nat} {n o1 o2 : Int} {lo hi : Nat → Nat → Int} (hj : j < t.T.toNat) (hd : d < t.C.toNat + 1) (h : Dif t i c j d n o1 o2)
    (hs : Settled t (upd2 f0 j d n) (upd2 (f40 t.C) j d n) lo hi false) : Dif t i c j d (n + 1) o1 o2 := by
  rcases hs with ⟨q, _⟩ | ⟨_, hs⟩
  · cases q
  · refine ⟨fun y hy hn => ?_, h.lo, h.hi⟩
    by_cases e : y j d = n
    · exact absurd ⟨y, hy, box_n hy e⟩ hs
    · exact h.all y hy (by omega)
theorem Dif.some {t : CT} {i c j d : Nat} {n o1 o2 p1 p2 : Int} {lo hi : Nat → Nat → Int} (hi' : i < t.T.toNat) (hc : c < t.C.toNat + 1) (hj : j < t.T.toNat) (hd : d < t.C.toNat + 1) (h : Dif t i c j d n o1 o2)
    (hs : Settled t (upd2 f0 j d n) (upd2 (f40 t.C) j d n) lo hi true) (a1 : p1 ≤ o1 ∧ p1 ≤ lo i c - n ∧ (p1 = o1 ∨ p1 = lo i c - n)) (a2 : o2 ≤ p2 ∧ hi i c - n ≤ p2 ∧ (p2 = o2 ∨ p2 = hi i c - n)) : Dif t i c j d (n + 1) p1 p2 := by
  rcases hs with ⟨_, s1, s2, b1, b2, hk⟩ | ⟨q, _⟩
  · have e1 := box_eq hj hd b1
    have e2 := box_eq hj hd b2
    refine ⟨fun y hy hn => ?_, ?_, ?_⟩
    · by_cases e : y j d = n
      · have := hk y hy (box_n hy e) i c hi' hc
        omega
      · have := h.all y hy (by omega)
        omega
    · rcases a1.2.2 with q | q
      · rw [q]; exact h.lo
      · right; exact ⟨lo, s1, by rw [e1, q]⟩
    · rcases a2.2.2 with q | q
      · rw [q]; exact h.hi
      · right; exact ⟨hi, s2, by rw [e2, q]⟩
  · cases q
theorem Dif.done {t : CT} {i c j d : Nat} {n o1 o2 : Int} (hi' : i < t.T.toNat) (hc : c < t.C.toNat + 1) (hj : j < t.T.toNat) (hd : d < t.C.toNat + 1) (h : Dif t i c j d n o1 o2) (hone : ∃ y, Sat t (-1) y) (hn : ∀ y, Sat t (-1) y → y j d < n) :
    IsMin t (-1) (fun y => y i c - y j d) o1 ∧ IsMax t (-1) (fun y => y i c - y j d) o2 := by
  obtain ⟨y, hy⟩ := hone
  have h1 := h.all y hy (hn y hy)
  have u1 := hy.bounds i hi' c (by omega)
  have u2 := hy.bounds j hj d (by omega)
  constructor
  · refine ⟨fun z hz => (h.all z hz (hn z hz)).1, ?_⟩
    rcases h.lo with q | q
    · omega
    · exact q
  · refine ⟨fun z hz => (h.all z hz (hn z hz)).2, ?_⟩
    rcases h.hi with q | q
    · omega
    · exact q
theorem set2_cells {w : World} {p : Nat} {a b x y : Value} (h0 : w.cell? ⟨p, 0, none⟩ = some a) (h1 : w.cell? ⟨p, 1, none⟩ = some b) :
    ((w.setCell ⟨p, 0, none⟩ x).setCell ⟨p, 1, none⟩ y).cell? ⟨p, 0, none⟩ = some x ∧ ((w.setCell ⟨p, 0, none⟩ x).setCell ⟨p, 1, none⟩ y).cell? ⟨p, 1, none⟩ = some y := by
  have e : ∀ (w : World) (a b : Nat) (u : Value), a ≠ b → (w.setCell ⟨p, a, none⟩ u).cell? ⟨p, b, none⟩ = w.cell? ⟨p, b, none⟩ := fun w a b u h => World.cell?_setCell_other _ _ _ _ (by intro q; injection q; omega)
  constructor
  · rw [e _ 1 0 _ (by decide), World.cell?_setCell_same _ _ _ (by rw [h0])]
  · rw [World.cell?_setCell_same _ _ _ (by rw [e _ 0 1 _ (by decide), h1])]
theorem difference_any (t : CT) (v : Value) (i c j d : Nat) (w : World) (hv : TrapAt w v t) (hf : Fit t) (h9 : t.ws.length ≤ 9) (hone : ∃ y, Sat t (-1) y) (hi' : i < t.T.toNat) (hc' : c < t.C.toNat + 1) (hj : j < t.T.toNat) (hd : d < t.C.toNat + 1)
    {vi vc vj vd : Int} (ei : vi = i) (ec : vc = c) (ej : vj = j) (ed : vd = d) :
    Calls Try.prog 86 #[v, .int .i64 vi, .int .i64 vc, .int .i64 vj, .int .i64 vd] w fun e w' => ∃ m1 m2, e = .returned (.agg #[.int .i64 m1, .int .i64 m2]) ∧ (IsMin t (-1) (fun y => y i c - y j d) m1 ∧ IsMax t (-1) (fun y => y i c - y j d) m2) ∧ Bel w w' := by
  subst ei ec ej ed
  have HVAL := Lib.hid hf
  obtain ⟨f1, f2, f3, f4, _, _⟩ := hf
  have HONE := Lib.hid hone
  have HV := Lib.hid hv
  obtain ⟨ov, wv, rfl, ⟨a, cc, b, off, rv, rfl, _⟩, ⟨wa, wc, wb, woff, rfl, _⟩⟩ := hv
  clear hone
  go_enter Try.func86, Try.ntmps86
  go_wp2_with fail
  generalize hWa : (w.alloc _).alloc _ = Wa
  have sa : w.heap.size + 2 ≤ Wa.heap.size := by rw [← hWa]; simp
  have hBa : Bel w Wa := by rw [← hWa]; exact (by repeat (first | assumption | exact Bel.refl _ | refine Bel.drew ?_ | refine Bel.drewN ?_ _ | refine Bel.alloc ?_ _ | refine Bel.setCell ?_ (by simp <;> omega) _ | refine Bel.trans ?_ (by assumption)))
  have x0 : Wa.cell? ⟨w.heap.size, 0, none⟩ = some (.int .i64 t.C) := by rw [← hWa]; exact (row_facts ((heap_alloc_old _ _ (by simp)).trans (new_row rfl))).1 0
  have x1 : Wa.cell? ⟨w.heap.size, 1, none⟩ = some (.int .i64 t.T) := by rw [← hWa]; exact (row_facts ((heap_alloc_old _ _ (by simp)).trans (new_row rfl))).1 1
  have x2 : Wa.cell? ⟨w.heap.size, 2, none⟩ = some (.slice a t.op.length cc) := by rw [← hWa]; exact (row_facts ((heap_alloc_old _ _ (by simp)).trans (new_row rfl))).1 2
  have x3 : Wa.cell? ⟨w.heap.size, 3, none⟩ = some (.slice wa t.ws.length wc) := by rw [← hWa]; exact (row_facts ((heap_alloc_old _ _ (by simp)).trans (new_row rfl))).1 3
  have r0 : Wa.cell? ⟨w.heap.size + 1, 0, none⟩ = some (.int .i64 0) := by rw [← hWa]; exact (row_facts (new_row (by simp))).1 0
  have r1 : Wa.cell? ⟨w.heap.size + 1, 1, none⟩ = some (.int .i64 0) := by rw [← hWa]; exact (row_facts (new_row (by simp))).1 1
  have rf : ∀ o, Wa.frozen? ⟨w.heap.size + 1, o, none⟩ = false := by rw [← hWa]; exact (row_facts (new_row (by simp))).2
  have HX := Lib.hid (And.intro x0 (And.intro x1 (And.intro x2 x3)))
  have HR := Lib.hid (And.intro r0 (And.intro r1 rf))
  have HBa := Lib.hid hBa
  clear hWa r0 r1 rf hBa x0 x1 x2 x3
  refine (free_any t _ _ (HV.out.bel HBa.out) f1 f2 f3 f4).mono ?_
  rintro e w1 ⟨s, rfl, hb, ob, cap, rb, rfl, hSp⟩
  have HSP := Lib.hid hSp
  have HB1 := Lib.hid hb
  have x0 := hb.cell HX.out.1
  have x1 := hb.cell HX.out.2.1
  have x2 := hb.cell HX.out.2.2.1
  have x3 := hb.cell HX.out.2.2.2
  clear hb hSp
  go_wp2_with fail
  refine (settle_any t _ _ _ _ ob cap rb f0 (f40 t.C) (HV.out.bel HBa.out) HB1.out (Nat.le_refl _) HVAL.out h9 HSP.out free_ok).mono ?_
  rintro e w2 ⟨bb, lo, hi, rfl, hM, hst⟩
  obtain ⟨s1, s2, hkeep⟩ : Sat t (-1) lo ∧ Sat t (-1) hi ∧ ∀ y, Sat t (-1) y → InBox t.T.toNat (t.C.toNat + 1) lo hi y := by
    rcases hst with ⟨_, s1, s2, _, _, hk⟩ | ⟨_, hk⟩
    · exact ⟨s1, s2, fun y hy => hk y hy (free_in hy)⟩
    · obtain ⟨y, hy⟩ := HONE.out; exact absurd ⟨y, hy, free_in hy⟩ hk
  have HN := Lib.hid (show ∀ n : Int, lo j d ≤ n → n ≤ hi j d → (0 ≤ n ∧ n ≤ 40) ∧ (d = t.C.toNat → n = 0) from fun n h1 h2 => by
    have := s1.bounds j hj d (by omega)
    have := s2.bounds j hj d (by omega)
    refine ⟨by omega, fun q => ?_⟩
    have := s1.last j hj
    have := s2.last j hj
    rw [← q] at *
    omega)
  have HK := Lib.hid (show ∀ y, Sat t (-1) y → lo j d ≤ y j d ∧ y j d ≤ hi j d from fun y hy => hkeep y hy j d hj hd)
  have HL := Lib.hid (show lo j d ≤ hi j d from by have := hkeep lo s1 j d hj hd; omega)
  have HM := Lib.hid hM
  have HBW := Lib.hid (HBa.out.trans hM.bel)
  have hixo := idxSpans (c := cap) (n := t.T.toNat) (b := ob) (off := 0) (a := some ⟨ob, 0, none⟩) (fun _ => rfl)
  have hixi := fun (q : Nat) => idxSpan (c := t.C.toNat + 1) (n := t.C.toNat + 1) (b := rb q) (off := 0) (a := some ⟨rb q, 0, none⟩) (fun _ => rfl)
  have o1 := hM.sp.out j hj
  have c1 := (hM.sp.row j hj).lo d hd
  have c2 := (hM.sp.row j hj).hi d hd
  have l1 := cell_lt o1
  have l2 := cell_lt c1
  have z2 := hM.bel.szle
  have lx : w.heap.size < w2.heap.size := by omega
  have hjT : (j : Int) < ((t.T.toNat : Nat) : Int) := by omega
  have hdC : (d : Int) < ((t.C.toNat + 1 : Nat) : Int) := by omega
  clear x0 x1 x2 x3 hM hst s1 s2 hkeep sa z2
  have x0 := HM.out.bel.cell HX.out.1
  have x1 := HM.out.bel.cell HX.out.2.1
  have x2 := HM.out.bel.cell HX.out.2.2.1
  have x3 := HM.out.bel.cell HX.out.2.2.2
  generalize hlo : lo j d = L at *
  generalize hhi : hi j d = U at *
  have HLO := Lib.hid hlo
  have HHI := Lib.hid hhi
  clear hlo hhi
  go_wp2
  go_loopw [13] (fun s13 wr => ∃ n o1 o2 : Int, s13 = .int .i64 n ∧ (L ≤ n ∧ n ≤ U + 1) ∧ (-41 ≤ o1 ∧ o1 ≤ 41 ∧ -41 ≤ o2 ∧ o2 ≤ 41) ∧ Bel w2 wr ∧ wr.cell? ⟨w2.heap.size, 0, none⟩ = some (.int .i64 o1) ∧ wr.cell? ⟨w2.heap.size, 1, none⟩ = some (.int .i64 o2) ∧
    (∀ o, wr.frozen? ⟨w2.heap.size, o, none⟩ = false) ∧ Dif t i c j d n o1 o2) (fun s13 _ => (U + 1 - intOf s13).toNat)
  case atStart =>
    exact ⟨L, 41, -41, rfl, ⟨Int.le_refl _, by have := HL.out; omega⟩, by omega, (Bel.refl _).alloc _, (row_facts (new_row rfl)).1 0, (row_facts (new_row rfl)).1 1, (row_facts (new_row rfl)).2, ⟨fun y hy hn => by have := HK.out y hy; omega, .inl rfl, .inl rfl⟩⟩
  case round =>
    clear o1 c1 c2 l1 l2 x0 x1 x2 x3
    obtain ⟨n, u1, u2, rfl, hLU, hu, hBr, p0, p1, pf, hD⟩ := hrel
    have o1 := hBr.cell (HM.out.sp.out j hj)
    have c1 := hBr.cell ((HM.out.sp.row j hj).lo d hd)
    have c2 := hBr.cell ((HM.out.sp.row j hj).hi d hd)
    rw [HLO.out] at c1
    rw [HHI.out] at c2
    have l1 := cell_lt o1
    have l2 := cell_lt c1
    have x0 := hBr.cell (HM.out.bel.cell HX.out.1)
    have x1 := hBr.cell (HM.out.bel.cell HX.out.2.1)
    have x2 := hBr.cell (HM.out.bel.cell HX.out.2.2.1)
    have x3 := hBr.cell (HM.out.bel.cell HX.out.2.2.2)
    have lr := hBr.szle
    have lx0 := cell_lt x0
    have HD := Lib.hid hD
    have HBR := Lib.hid hBr
    have LP := Lib.hid (cell_lt p0)
    clear hD hBr
    by_cases hlt : n ≤ U
    · obtain ⟨⟨n0, n40⟩, nC⟩ := HN.out n hLU.1 hlt
      have NC := Lib.hid nC
      have hwn : IntKind.i64.wrap (n + 1) = n + 1 := IntWalk.i64_in _ (by omega)
      have HPF := Lib.hid pf
      clear nC pf
      go_wp2_with fail
      refine (free_any t _ _ (HV.out.bel (HBW.out.trans HBR.out)) f1 f2 f3 f4).mono ?_
      rintro e w3 ⟨s, rfl, hb, ob3, cap3, rb3, rfl, hSp3⟩
      have hixo3 := idxSpans (c := cap3) (n := t.T.toNat) (b := ob3) (off := 0) (a := some ⟨ob3, 0, none⟩) (fun _ => rfl)
      have hixi3 := fun (q : Nat) => idxSpan (c := t.C.toNat + 1) (n := t.C.toNat + 1) (b := rb3 q) (off := 0) (a := some ⟨rb3 q, 0, none⟩) (fun _ => rfl)
      have o3 := hSp3.out j hj
      have d1 := (hSp3.row j hj).lo d hd
      have d2 := (hSp3.row j hj).hi d hd
      have df1 := (hSp3.row j hj).fz (d * 2)
      have df2 := (hSp3.row j hj).fz (d * 2 + 1)
      have HF := Lib.hid (hSp3.putF hb (Nat.le_refl _) hj hd n n)
      have hne : rb3 j ≠ w.heap.size := by have := (hSp3.far j hj).1; omega
      have hne2 : w.heap.size ≠ rb3 j := fun q => hne q.symm
      replace x0 := hb.cell x0
      replace x1 := hb.cell x1
      replace x2 := hb.cell x2
      replace x3 := hb.cell x3
      clear hb hSp3 o1 c1 c2 l1 l2
      go_wp2_with fail
      refine (settle_any t _ _ _ _ ob3 cap3 rb3 (upd2 f0 j d n) (upd2 (f40 t.C) j d n) (HV.out.bel (HBW.out.trans HBR.out)) HF.out.2.1 (Nat.le_refl _) HVAL.out h9 HF.out.1 (box_ok n0 n40 NC.out)).mono ?_
      rintro e w4 ⟨bb4, lo4, hi4, rfl, hM4, hst4⟩
      have HM4 := Lib.hid hM4
      have HST4 := Lib.hid hst4
      replace p0 := hM4.bel.cell p0
      replace p1 := hM4.bel.cell p1
      have pf : ∀ o, w4.frozen? ⟨w2.heap.size, o, none⟩ = false := fun o => by rw [hM4.bel.frozens _ (by exact LP.out)]; exact HPF.out o
      have HB4 := Lib.hid (HBR.out.trans hM4.bel)
      clear hM4 hst4 o3 d1 d2 df1 df2 x0 x1 x2 x3 HF hne hne2 lr lx0
      cases bb4 with
      | false =>
        have HDN := Lib.hid (HD.out.none hj hd HST4.out)
        go_wp2
        go_roundw
        case rel => exact ⟨n + 1, u1, u2, by go_num, by omega, hu, HB4.out, p0, p1, pf, HDN.out⟩
        case measure => simp [intOf]; omega
      | true =>
        have e3 := HM4.out.sp.out i hi'
        have g1 := (HM4.out.sp.row i hi').lo c hc'
        have g2 := (HM4.out.sp.row i hi').hi c hc'
        obtain ⟨b1, b2⟩ : (0 ≤ lo4 i c ∧ lo4 i c ≤ 40) ∧ 0 ≤ hi4 i c ∧ hi4 i c ≤ 40 := by
          rcases HST4.out with ⟨_, s1, s2, _⟩ | ⟨q, _⟩
          · exact ⟨s1.bounds i hi' c (by omega), s2.bounds i hi' c (by omega)⟩
          · cases q
        have HDS := Lib.hid (fun p1 p2 => HD.out.some (p1 := p1) (p2 := p2) hi' hc' hj hd HST4.out)
        generalize lo4 i c = A at *
        generalize hi4 i c = B at *
        have hw1 : IntKind.i64.wrap (A - n) = A - n := IntWalk.i64_in _ (by omega)
        have hw2 : IntKind.i64.wrap (B - n) = B - n := IntWalk.i64_in _ (by omega)
        have hiT : (i : Int) < ((t.T.toNat : Nat) : Int) := by omega
        have hcC : (c : Int) < ((t.C.toNat + 1 : Nat) : Int) := by omega
        have l3 := cell_lt e3
        have l4 := cell_lt g1
        have l5 := cell_lt p0
        go_wp2
        refine wp_region_mixTB (Plan.seq [0, 1, 2, 3, 4, 5, 6, 7, 8, 9, 10, 11, 12, 13, 14, 15, 16, 17, 18, 19, 20, 21, 22, 23, 24, 25, 26] .nil) (by kernel_rfl) (by kernel_rfl) (fun hcur => ?_)
        simp only [Plan.seq, Plan.fill, List.getD_cons_zero, List.getD_cons_succ, Nat.reduceLT, ↓reduceIte]
        apply mix_pure _ rfl
        · intro w' hw'
          have hcr := hw'.cells
          go_simp
          rfl
        intro K hK
        go_simp
        refine hK _ ?_
        clear hK K
        apply mix_pure _ rfl
        · intro w' hw'
          have hcr := hw'.cells
          go_simp
          rfl
        intro K hK
        go_simp
        refine hK _ ?_
        clear hK K
        apply mix_pure _ rfl
        · intro w' hw'
          have hcr := hw'.cells
          go_simp
          rfl
        intro K hK
        go_simp
        refine hK _ ?_
        clear hK K
        apply mix_pure _ rfl
        · intro w' hw'
          have hcr := hw'.cells
          go_simp
          rfl
        intro K hK
        go_simp
        refine hK _ ?_
        clear hK K
        apply mix_pure _ rfl
        · intro w' hw'
          have hcr := hw'.cells
          go_simp
          rfl
        intro K hK
        go_simp
        refine hK _ ?_
        clear hK K
        apply mix_pure _ rfl
        · intro w' hw'
          have hcr := hw'.cells
          go_simp
          rfl
        intro K hK
        go_simp
        refine hK _ ?_
        clear hK K
        apply mix_pure _ rfl
        · intro w' hw'
          have hcr := hw'.cells
          go_simp
          rfl
        intro K hK
        go_simp
        refine hK _ ?_
        clear hK K
        apply mix_pure _ rfl
        · intro w' hw'
          have hcr := hw'.cells
          go_simp
          rfl
        intro K hK
        go_simp
        refine hK _ ?_
        clear hK K
        apply mix_pure _ rfl
        · intro w' hw'
          have hcr := hw'.cells
          go_simp
          rfl
        intro K hK
        go_simp
        refine hK _ ?_
        clear hK K
        apply mix_pure _ rfl
        · intro w' hw'
          have hcr := hw'.cells
          go_simp
          rfl
        intro K hK
        go_simp
        refine hK _ ?_
        clear hK K
        apply mix_pure _ rfl
        · intro w' hw'
          have hcr := hw'.cells
          go_simp
          rfl
        intro K hK
        go_simp
        refine hK _ ?_
        clear hK K
        apply mix_pure _ rfl
        · intro w' hw'
          have hcr := hw'.cells
          go_simp
          first | (rw [IntWalk.i64_in]; all_goals first | omega | rfl) | rfl
        intro K hK
        go_simp
        refine hK _ ?_
        clear hK K
        apply mix_pure _ rfl
        · intro w' hw'
          have hcr := hw'.cells
          go_simp
          rfl
        intro K hK
        go_simp
        refine hK _ ?_
        clear hK K
        apply mix_pure _ rfl
        · intro w' hw'
          have hcr := hw'.cells
          go_simp
          rfl
        intro K hK
        go_simp
        refine hK _ ?_
        clear hK K
        apply mix_pure _ rfl
        · intro w' hw'
          have hcr := hw'.cells
          go_simp
          rfl
        intro K hK
        go_simp
        refine hK _ ?_
        clear hK K
        apply mix_pure _ rfl
        · intro w' hw'
          have hcr := hw'.cells
          go_simp
          rfl
        intro K hK
        go_simp
        refine hK _ ?_
        clear hK K
        apply mix_pure _ rfl
        · intro w' hw'
          have hcr := hw'.cells
          go_simp
          rfl
        intro K hK
        go_simp
        refine hK _ ?_
        clear hK K
        apply mix_pure _ rfl
        · intro w' hw'
          have hcr := hw'.cells
          go_simp
          rfl
        intro K hK
        go_simp
        refine hK _ ?_
        clear hK K
        apply mix_pure _ rfl
        · intro w' hw'
          have hcr := hw'.cells
          go_simp
          rfl
        intro K hK
        go_simp
        refine hK _ ?_
        clear hK K
        apply mix_pure _ rfl
        · intro w' hw'
          have hcr := hw'.cells
          go_simp
          rfl
        intro K hK
        go_simp
        refine hK _ ?_
        clear hK K
        apply mix_pure _ rfl
        · intro w' hw'
          have hcr := hw'.cells
          go_simp
          rfl
        intro K hK
        go_simp
        refine hK _ ?_
        clear hK K
        apply mix_pure _ rfl
        · intro w' hw'
          have hcr := hw'.cells
          go_simp
          rfl
        intro K hK
        go_simp
        refine hK _ ?_
        clear hK K
        apply mix_pure _ rfl
        · intro w' hw'
          have hcr := hw'.cells
          go_simp
          rfl
        intro K hK
        go_simp
        refine hK _ ?_
        clear hK K
        apply mix_pure _ rfl
        · intro w' hw'
          have hcr := hw'.cells
          go_simp
          rfl
        intro K hK
        go_simp
        refine hK _ ?_
        clear hK K
        apply mix_pure _ rfl
        · intro w' hw'
          have hcr := hw'.cells
          go_simp
          first | (rw [IntWalk.i64_in]; all_goals first | omega | rfl) | rfl
        intro K hK
        go_simp
        refine hK _ ?_
        clear hK K
        apply mix_pure _ rfl
        · intro w' hw'
          have hcr := hw'.cells
          go_simp
          rfl
        intro K hK
        go_simp
        refine hK _ ?_
        clear hK K
        apply mix_pure _ rfl
        · intro w' hw'
          have hcr := hw'.cells
          go_simp
          rfl
        intro K hK
        go_simp
        refine hK _ ?_
        clear hK K
        refine mix_tailK rfl (fun K hK => ?_)
        have p0 := hcur.cell p0
        have p1 := hcur.cell p1
        have pf : ∀ o, World.frozen? _ ⟨w2.heap.size, o, none⟩ = false := fun o => (hcur.frozens _ l5).trans (pf o)
        have hBx := HB4.out.trans hcur
        go_simp
        refine hK _ _ ?_
        clear hK K
        have P0 := Lib.hid p0
        have P1 := Lib.hid p1
        have PF := Lib.hid pf
        have HBX := Lib.hid hBx
        clear p0 p1 pf hBx hcur e3 g1 g2 l3 l4 l5
        go_wp2
        go_roundw
        case rel =>
          refine ⟨n + 1, _, _, by go_num, by omega, ?_, (HBX.out.setCell (Nat.le_refl _) _).setCell (Nat.le_refl _) _, (set2_cells P0.out P1.out).1, (set2_cells P0.out P1.out).2, fun o => (show World.frozen? ((w4.setCell ⟨w2.heap.size, 0, none⟩ _).setCell ⟨w2.heap.size, 1, none⟩ _) ⟨w2.heap.size, o, none⟩ = false by rw [World.frozen?_setCell, World.frozen?_setCell]; exact PF.out o), HDS.out _ _ ?_ ?_⟩
          · refine ⟨?_, ?_, ?_, ?_⟩ <;> (first | omega | (split <;> omega))
          · refine ⟨?_, ?_, ?_⟩ <;> (first | omega | (split <;> omega))
          · refine ⟨?_, ?_, ?_⟩ <;> (first | omega | (split <;> omega))
        case measure => simp [intOf]; omega
    · have HFIN := Lib.hid (HD.out.done hi' hc' hj hd HONE.out (fun y hy => by have := HK.out y hy; omega))
      have r0 := HBR.out.cell (HM.out.bel.cell HR.out.1)
      have r1 := HBR.out.cell (HM.out.bel.cell HR.out.2.1)
      have rf : ∀ o, wr.frozen? ⟨w.heap.size + 1, o, none⟩ = false := fun o => (HBR.out.frozens ⟨w.heap.size + 1, o, none⟩ (by have := cell_lt (HM.out.bel.cell HR.out.1); exact this)).trans ((HM.out.bel.frozens ⟨w.heap.size + 1, o, none⟩ (by have := cell_lt HR.out.1; exact this)).trans (HR.out.2.2 o))
      have HBF := Lib.hid (HBW.out.trans HBR.out)
      go_wp2
      exact bodyPost_ret (v := .agg #[.int .i64 u1, .int .i64 u2]) (by simp [results, Try.results86, go_sem, *]) rfl ⟨u1, u2, rfl, HFIN.out, (HBF.out.setCell (by simp) _).setCell (by simp) _⟩
end Go.Proofs.Ytoiajjdhgffdaaa

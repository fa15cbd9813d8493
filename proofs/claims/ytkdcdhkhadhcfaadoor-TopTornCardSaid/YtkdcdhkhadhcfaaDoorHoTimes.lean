/-
  mesh: when each hole is mended by an order.
-/
import Derived.Test.YtkdcdhkhadhcfaaDoorHoMem
import Derived.Deep.DeepCutAuto
namespace Go.Proofs.YtkdcdhkhadhcfaaDoor
set_option linter.unusedVariables false
open Go Go.RowKit
set_option maxHeartbeats 8000000
set_option maxRecDepth 100000
theorem run_make_ints (n : Nat) (hn : n ≤ 1000000) (w : World) :
    (Instr.makeSlice 33 (.int .i64 (n : Int)) (.int .i64 (n : Int))).run Tryd.prog w = .ok (.slice (some ⟨w.heap.size, 0, none⟩) n n) (w.alloc (.cells (List.replicate n (Value.int .i64 0)).toArray 3)) := by
  obtain ⟨i1, hi1, hz1, hs1, hb1⟩ := info_parts mkInt
  have h := run_makeSlice (P := Tryd.prog) w 33 3 i1 (.int .i64 0) Tryd.underlying33 hi1 hz1 .i64 .i64 n n (by omega) (by omega) (by rw [hs1]; simp; omega) (by rw [hb1]; omega) (by omega)
  rw [h, hs1]
  have e : (madeCells (Value.int .i64 0).cells ((n : Int).toNat * 1)) = (List.replicate n (Value.int .i64 0)).toArray := by
    rw [Nat.mul_one, Int.toNat_natCast, ← toList_madeCells_one, Array.toArray_toList]; rfl
  rw [e, Int.toNat_natCast]
theorem map_rep (n : Nat) : List.replicate n (Value.int .i64 0) = (List.replicate n (0 : Int)).map (Value.int .i64) := by simp
/-- The times stay small. -/
def Small (n : MNet) (B : Int) (s : List Int × List Int) : Prop := (∀ x, x ∈ s.1 → 0 ≤ x ∧ x ≤ B) ∧ ∀ x, x ∈ s.2 → 0 ≤ x ∧ x ≤ B
theorem at0_in {l : List Int} {B : Int} (h : ∀ x, x ∈ l → 0 ≤ x ∧ x ≤ B) (hB : 0 ≤ B) (i : Nat) : 0 ≤ at0 l i ∧ at0 l i ≤ B := by
  rcases Nat.lt_or_ge i l.length with q | q
  · exact h _ (getD_mem l i 0 q)
  · unfold at0; rw [List.getD_eq_getElem?_getD, List.getElem?_eq_none q]; simp; exact hB
theorem begTo_in {ps : List HPr} {h : Int} {out : List Int} {b0 B : Int} (ho : ∀ x, x ∈ out → 0 ≤ x ∧ x ≤ B) (hB : 0 ≤ B) (h0 : 0 ≤ b0 ∧ b0 ≤ B) : ∀ k, 0 ≤ begTo ps h out b0 k ∧ begTo ps h out b0 k ≤ B
  | 0 => h0
  | k + 1 => by
    have ih := begTo_in (ps := ps) (h := h) ho hB h0 k
    have h2 := at0_in ho hB (atP ps k).a.toNat
    unfold begTo
    split
    · omega
    · exact ih
theorem endOf_in {n : MNet} {h : Int} {s : List Int × List Int} {B : Int} (hs : Small n B s) (hB : 20 ≤ B) (hf : 0 ≤ (atH n.holes h.toNat).frm ∧ (atH n.holes h.toNat).frm ≤ 20) (hr : 1 ≤ (atH n.holes h.toNat).hrs ∧ (atH n.holes h.toNat).hrs ≤ 9) :
    0 ≤ endOf n h s.1 s.2 ∧ endOf n h s.1 s.2 ≤ B + 9 := by
  have h1 := at0_in hs.1 (by omega) (ownTo s.1 s.1.length)
  have h2 := begTo_in (ps := n.prs) (h := h) (b0 := max (at0 s.1 (ownTo s.1 s.1.length)) (atH n.holes h.toNat).frm) hs.2 (by omega) (by omega) n.prs.length
  unfold endOf
  omega
def HolesIn (n : MNet) : Prop := ∀ i, i < n.holes.length → 0 ≤ (atH n.holes i).frm ∧ (atH n.holes i).frm ≤ 20 ∧ 1 ≤ (atH n.holes i).hrs ∧ (atH n.holes i).hrs ≤ 9
def OrdIn (n : MNet) (o : List Int) : Prop := ∀ k, k < o.length → 0 ≤ at0 o k ∧ at0 o k < n.holes.length
theorem stFr_small {n : MNet} {o : List Int} (hh : HolesIn n) (ho : OrdIn n o) : ∀ k, k ≤ o.length → Small n (20 + 9 * k) (stFr n o k)
  | 0, _ => by
    refine ⟨fun x hx => ?_, fun x hx => ?_⟩
    · have := List.eq_of_mem_replicate hx; omega
    · have := List.eq_of_mem_replicate hx; omega
  | k + 1, hk => by
    have ih := stFr_small hh ho k (by omega)
    have o1 := ho k (by omega)
    have h1 := hh (at0 o k).toNat (by omega)
    have h2 := endOf_in ih (by omega) ⟨h1.1, h1.2.1⟩ ⟨h1.2.2.1, h1.2.2.2⟩
    refine ⟨fun x hx => ?_, fun x hx => ?_⟩
    · rcases List.mem_or_eq_of_mem_set hx with q | q
      · have := ih.1 x q; omega
      · rw [q]; omega
    · rcases List.mem_or_eq_of_mem_set hx with q | q
      · have := ih.2 x q; omega
      · rw [q]; omega
/-- The call's two rows. -/
structure TmAt (w : World) (men : Int) (hv pv : Value) (fb ob : Nat) (s : List Int × List Int) (wx : World) : Prop where
  bel : Bel w wx
  fr : Bx wx fb (s.1.map (Value.int .i64))
  out : Bx wx ob (s.2.map (Value.int .i64))
  ne : fb ≠ ob
  f1 : w.heap.size < fb
  o1 : w.heap.size < ob
  p0 : wx.cell? ⟨w.heap.size, 0, none⟩ = some (.int .i64 men)
  p1 : wx.cell? ⟨w.heap.size, 1, none⟩ = some hv
  p2 : wx.cell? ⟨w.heap.size, 2, none⟩ = some pv
theorem TmAt.go {w : World} {men : Int} {hv pv : Value} {fb ob : Nat} {s : List Int × List Int} {wx wy : World} (h : TmAt w men hv pv fb ob s wx) (k : Bel wx wy) : TmAt w men hv pv fb ob s wy :=
  ⟨h.bel.trans k, h.fr.bel k, h.out.bel k, h.ne, h.f1, h.o1, k.cell h.p0, k.cell h.p1, k.cell h.p2⟩
theorem TmAt.set {w : World} {men : Int} {hv pv : Value} {fb ob : Nat} {f o : List Int} {wx : World} (h : TmAt w men hv pv fb ob (f, o) wx) {i j : Nat} (hi : i < o.length) (hj : j < f.length) (x : Int) :
    TmAt w men hv pv fb ob (f.set j x, o.set i x) ((wx.setCell ⟨ob, i, none⟩ (.int .i64 x)).setCell ⟨fb, j, none⟩ (.int .i64 x)) := by
  have o1 := h.o1
  have f1 := h.f1
  have b1 := (h.bel.setCell (p := ⟨ob, i, none⟩) (by show _ ≤ ob; omega) (.int .i64 x)).setCell (p := ⟨fb, j, none⟩) (by show _ ≤ fb; omega) (.int .i64 x)
  refine ⟨b1, ?_, ?_, h.ne, h.f1, h.o1, ?_, ?_, ?_⟩
  · have := (h.fr.other (fun e => h.ne e.symm) (i := i) (.int .i64 x)).set (i := j) (by simpa using hj) (.int .i64 x)
    simpa [List.map_set] using this
  · have := (h.out.set (i := i) (by simpa using hi) (.int .i64 x)).other h.ne (i := j) (.int .i64 x)
    simpa [List.map_set] using this
  all_goals
    rw [World.cell?_setCell_other _ _ _ _ (by intro q; injection q with q; omega), World.cell?_setCell_other _ _ _ _ (by intro q; injection q with q; omega)]
  · exact h.p0
  · exact h.p1
  · exact h.p2
theorem bx_at {w : World} {p : Nat} {l : List Int} (h : Bx w p (l.map (Value.int .i64))) (i : Nat) (hi : i < l.length) : w.cell? ⟨p, 0 + i, none⟩ = some (.int .i64 (at0 l i)) := by
  rw [Nat.zero_add]
  refine h.c i _ ?_
  rw [List.getElem?_map, List.getElem?_eq_getElem hi]
  unfold at0
  simp [List.getD, hi]
theorem bx_at0 {w : World} {p : Nat} {l : List Int} (h : Bx w p (l.map (Value.int .i64))) (i : Nat) (hi : i < l.length) : w.cell? ⟨p, i, none⟩ = some (.int .i64 (at0 l i)) := by
  have := bx_at h i hi
  rwa [Nat.zero_add] at this
theorem bx_ints {w : World} {p : Nat} {l : List Int} (h : Bx w p (l.map (Value.int .i64))) (hl : l.length ≤ 1000000) : IntsAt w (.slice (some ⟨p, 0, none⟩) l.length l.length) l :=
  ⟨_, _, p, 0, rfl, fun _ => rfl, ⟨by omega, Nat.le_refl _⟩, fun i hi => bx_at h i hi⟩
theorem tm_new {w : World} {M G : Nat} {hv pv : Value} {T : TypeId} (b : Bool) :
    TmAt w M hv pv (w.heap.size + 1 + (if b then 0 else 1)) (w.heap.size + 1 + (if b then 1 else 0)) (List.replicate M 0, List.replicate G 0)
      (((w.alloc (.cells #[.int .i64 (M : Int), hv, pv] T)).alloc (.cells (Array.replicate (if b then M else G) (Value.int .i64 0)) 3)).alloc (.cells (Array.replicate (if b then G else M) (Value.int .i64 0)) 3)).drew := by
  have r0 : ((((w.alloc (.cells #[.int .i64 (M : Int), hv, pv] T)).alloc (.cells (Array.replicate (if b then M else G) (Value.int .i64 0)) 3)).alloc (.cells (Array.replicate (if b then G else M) (Value.int .i64 0)) 3)).drew).heap[w.heap.size]? = some (.cells #[.int .i64 (M : Int), hv, pv] T (0, 0)) :=
    (old_row (by simp; omega)).trans ((old_row (by simp)).trans (new_row rfl))
  have b1 : Bx (((w.alloc (.cells #[.int .i64 (M : Int), hv, pv] T)).alloc (.cells (Array.replicate (if b then M else G) (Value.int .i64 0)) 3)).alloc (.cells (Array.replicate (if b then G else M) (Value.int .i64 0)) 3)).drew (w.heap.size + 1) ((List.replicate (if b then M else G) (0 : Int)).map (Value.int .i64)) := by
    rw [List.map_replicate]
    have h : Bx (((w.alloc (.cells #[.int .i64 (M : Int), hv, pv] T)).alloc (.cells (List.replicate (if b then M else G) (Value.int .i64 0)).toArray 3)).alloc (.cells (Array.replicate (if b then G else M) (Value.int .i64 0)) 3)).drew (w.heap.size + 1) (List.replicate (if b then M else G) (Value.int .i64 0)) := ((Bx.new (by simp)).bel ((Bel.refl _).alloc _)).bel ((Bel.refl _).drew)
    simpa using h
  have b2 : Bx (((w.alloc (.cells #[.int .i64 (M : Int), hv, pv] T)).alloc (.cells (Array.replicate (if b then M else G) (Value.int .i64 0)) 3)).alloc (.cells (Array.replicate (if b then G else M) (Value.int .i64 0)) 3)).drew (w.heap.size + 1 + 1) ((List.replicate (if b then G else M) (0 : Int)).map (Value.int .i64)) := by
    rw [List.map_replicate]
    have h : Bx (((w.alloc (.cells #[.int .i64 (M : Int), hv, pv] T)).alloc (.cells (Array.replicate (if b then M else G) (Value.int .i64 0)) 3)).alloc (.cells (List.replicate (if b then G else M) (Value.int .i64 0)).toArray 3)).drew (w.heap.size + 1 + 1) (List.replicate (if b then G else M) (Value.int .i64 0)) := (Bx.new (by simp)).bel ((Bel.refl _).drew)
    simpa using h
  have hb : Bel w (((w.alloc (.cells #[.int .i64 (M : Int), hv, pv] T)).alloc (.cells (Array.replicate (if b then M else G) (Value.int .i64 0)) 3)).alloc (.cells (Array.replicate (if b then G else M) (Value.int .i64 0)) 3)).drew := ((((Bel.refl w).alloc _).alloc _).alloc _).drew
  cases b with
  | true => exact ⟨hb, b1, b2, by simp, by simp, by simp <;> omega, (row_facts r0).1 0, (row_facts r0).1 1, (row_facts r0).1 2⟩
  | false => exact ⟨hb, b2, b1, by simp, by simp <;> omega, by simp, (row_facts r0).1 0, (row_facts r0).1 1, (row_facts r0).1 2⟩
theorem times_any (n : MNet) (o : List Int) (v ov : Value) (w : World) (hv : MNetAt w v n) (ho : IntsAt w ov o) (hm : 1 ≤ n.men ∧ n.men ≤ 3) (h6 : n.holes.length ≤ 1000) (hin : HolesIn n) (hord : OrdIn n o) (hol : o.length ≤ 1000)
    (hps : ∀ i, i < n.prs.length → 0 ≤ (atP n.prs i).a ∧ (atP n.prs i).a < n.holes.length) :
    Calls Tryd.prog 95 #[v, ov] w fun e w' => ∃ v', e = .returned v' ∧ IntsAt w' v' (timesV n o) ∧ Bel w w' ∧ ∀ a m c, v' = .slice (some a) m c → w.heap.size ≤ a.block := by
  obtain ⟨ha, hc, pa, pc, rfl, hh, hp, hG, hQ⟩ := hv.open
  have HST := Lib.hid (stFr_len n o)
  have HSM := Lib.hid (stFr_small hin hord)
  have HIN := Lib.hid hin
  have HORD := Lib.hid hord
  have HPS := Lib.hid hps
  have HH := Lib.hid hh
  have HP := Lib.hid hp
  have HO := Lib.hid ho
  obtain ⟨M, hM⟩ : ∃ M : Nat, n.men = (M : Int) := ⟨n.men.toNat, by omega⟩
  obtain ⟨oa, oc, ob', oo, rfl, hoa, ⟨hol', _⟩, hoc⟩ := ho
  have hixo := idxInts (c := oc) hoa
  have HOC := Lib.hid hoc
  rw [hM]
  have hmk1 := run_make_ints M (by omega)
  have hmk2 := run_make_ints n.holes.length (by omega)
  have HS0 : Hid (stFr n o 0 = (List.replicate M 0, List.replicate n.holes.length 0)) := Lib.hid (by unfold stFr; rw [hM]; rfl)
  have HTV := Lib.hid (show timesV n o = (stFr n o o.length).2 from rfl)
  have HM := Lib.hid hM
  have HM1 := Lib.hid (show 1 ≤ M by omega)
  have hM3 : M ≤ 3 := by omega
  clear hv hh hp hin hord hps hm hoa hoc hM
  generalize hGG : n.holes.length = G at *
  generalize hXX : n.prs.length = X at *
  generalize hKK : o.length = N at *
  have HGG := Lib.hid hGG
  have HXX := Lib.hid hXX
  have HN := Lib.hid hKK
  clear hGG hXX hKK
  go_enter Tryd.func95, Tryd.ntmps95
  go_upto_region 1 with fail
  go_cut [5, 6] (fun s5 s6 wx => ∃ fb ob : Nat, s5 = .slice (some ⟨fb, 0, none⟩) M M ∧ s6 = .slice (some ⟨ob, 0, none⟩) G G ∧ Hid (TmAt w M (.slice ha G hc) (.slice pa X pc) fb ob (List.replicate M 0, List.replicate G 0) wx))
  case first =>
    refine wp_region_mixB (Plan.seq [0, 1, 2, 4, 5, 6, 7] (.both 3 (Plan.seq [9, 1008, 10] .nil) 8 (Plan.seq [1003, 9, 10] .nil))) (by kernel_rfl) (by kernel_rfl) (fun hcur => ?_)
    simp only [Plan.seq, Plan.fill, List.getD_cons_zero, List.getD_cons_succ, Nat.reduceLT, ↓reduceIte, Nat.reduceSub]
    apply mix_pure _ rfl
    · intro w' hw'
      have hcr := hw'.cells
      go_simp
      rfl
    intro K hK
    go_simp
    refine hK _ ?_
    clear hK K
    apply mix_pure _ rfl
    · intro w' hw'
      have hcr := hw'.cells
      go_simp
      rfl
    intro K hK
    go_simp
    refine hK _ ?_
    clear hK K
    apply mix_pure _ rfl
    · intro w' hw'
      have hcr := hw'.cells
      go_simp
      rfl
    intro K hK
    go_simp
    refine hK _ ?_
    clear hK K
    apply mix_pure _ rfl
    · intro w' hw'
      have hcr := hw'.cells
      go_simp
      rfl
    intro K hK
    go_simp
    refine hK _ ?_
    clear hK K
    apply mix_pure _ rfl
    · intro w' hw'
      have hcr := hw'.cells
      go_simp
      rfl
    intro K hK
    go_simp
    refine hK _ ?_
    clear hK K
    apply mix_pure _ rfl
    · intro w' hw'
      have hcr := hw'.cells
      go_simp
      rfl
    intro K hK
    go_simp
    refine hK _ ?_
    clear hK K
    apply mix_pure _ rfl
    · intro w' hw'
      have hcr := hw'.cells
      go_simp
      rfl
    intro K hK
    go_simp
    refine hK _ ?_
    clear hK K
    refine mix_both ?_ ?_
    · refine mix_act rfl (fun K hK => ?_)
      go_simp
      refine hK _ _ (by repeat (first | assumption | exact Bel.refl _ | refine Bel.drew ?_ | refine Bel.drewN ?_ _ | refine Bel.alloc ?_ _ | refine Bel.setCell ?_ (by simp <;> omega) _ | refine Bel.trans ?_ (by assumption))) (fun hcur => ?_)
      clear hK K
      apply mix_pure _ rfl
      · intro w' hw'
        have hcr := hw'.cells
        go_simp
        rfl
      intro K hK
      go_simp
      refine hK _ ?_
      clear hK K
      refine mix_act rfl (fun K hK => ?_)
      go_simp
      refine hK _ _ (by repeat (first | assumption | exact Bel.refl _ | refine Bel.drew ?_ | refine Bel.drewN ?_ _ | refine Bel.alloc ?_ _ | refine Bel.setCell ?_ (by simp <;> omega) _ | refine Bel.trans ?_ (by assumption))) (fun hcur => ?_)
      clear hK K
      apply mix_pure _ rfl
      · intro w' hw'
        have hcr := hw'.cells
        go_simp
        rfl
      intro K hK
      go_simp
      refine hK _ ?_
      clear hK K
      refine mix_nil ?_
      go_wp2_with fail
      go_meet
      first
        | exact ⟨w.heap.size + 1, w.heap.size + 1 + 1, rfl, rfl, Lib.hid (tm_new true)⟩
        | exact ⟨w.heap.size + 1 + 1, w.heap.size + 1, rfl, rfl, Lib.hid (tm_new false)⟩
    · refine mix_act rfl (fun K hK => ?_)
      go_simp
      refine hK _ _ (by repeat (first | assumption | exact Bel.refl _ | refine Bel.drew ?_ | refine Bel.drewN ?_ _ | refine Bel.alloc ?_ _ | refine Bel.setCell ?_ (by simp <;> omega) _ | refine Bel.trans ?_ (by assumption))) (fun hcur => ?_)
      clear hK K
      refine mix_act rfl (fun K hK => ?_)
      go_simp
      refine hK _ _ (by repeat (first | assumption | exact Bel.refl _ | refine Bel.drew ?_ | refine Bel.drewN ?_ _ | refine Bel.alloc ?_ _ | refine Bel.setCell ?_ (by simp <;> omega) _ | refine Bel.trans ?_ (by assumption))) (fun hcur => ?_)
      clear hK K
      apply mix_pure _ rfl
      · intro w' hw'
        have hcr := hw'.cells
        go_simp
        rfl
      intro K hK
      go_simp
      refine hK _ ?_
      clear hK K
      apply mix_pure _ rfl
      · intro w' hw'
        have hcr := hw'.cells
        go_simp
        rfl
      intro K hK
      go_simp
      refine hK _ ?_
      clear hK K
      refine mix_nil ?_
      go_wp2_with fail
      go_meet
      first
        | exact ⟨w.heap.size + 1, w.heap.size + 1 + 1, rfl, rfl, Lib.hid (tm_new true)⟩
        | exact ⟨w.heap.size + 1 + 1, w.heap.size + 1, rfl, rfl, Lib.hid (tm_new false)⟩
  case rest =>
    obtain ⟨fb, ob, rfl, rfl, HT0⟩ := hcut
    have hixf := idxInts (n := M) (c := M) (b := fb) (off := 0) (a := some ⟨fb, 0, none⟩) (fun _ => rfl)
    have hixb := idxInts (n := G) (c := G) (b := ob) (off := 0) (a := some ⟨ob, 0, none⟩) (fun _ => rfl)
    clear hmk1 hmk2
    go_wp2
    go_loopw [26] (fun i wr => ∃ k : Nat, k ≤ N ∧ i = .int .i64 k ∧ Hid (TmAt w M (.slice ha G hc) (.slice pa X pc) fb ob (stFr n o k) wr)) (fun i _ => N - (intOf i).toNat)
    case atStart => exact ⟨0, by omega, rfl, by rw [HS0.out]; exact HT0⟩
    case round =>
      obtain ⟨k, hk, rfl, HT⟩ := hrel
      clear HT0
      by_cases hlt : k < N
      · have hlti : (k : Int) < (N : Int) := by omega
        have x0 := HT.out.bel.cell (HOC.out k hlt)
        have lx := cell_lt x0
        obtain ⟨hn, hhn⟩ : ∃ hn : Nat, at0 o k = (hn : Int) := ⟨(at0 o k).toNat, by have := HORD.out k (by rw [HN.out]; omega); omega⟩
        have hhG : hn < G := by have := HORD.out k (by rw [HN.out]; omega); rw [HGG.out] at this; omega
        rw [hhn] at x0
        have HNX := Lib.hid (show stFr n o (k + 1) = ((stFr n o k).1.set (ownTo (stFr n o k).1 (stFr n o k).1.length) (endOf n hn (stFr n o k).1 (stFr n o k).2), (stFr n o k).2.set hn (endOf n hn (stFr n o k).1 (stFr n o k).2)) by
          have e : stFr n o (k + 1) = ((stFr n o k).1.set (ownTo (stFr n o k).1 (stFr n o k).1.length) (endOf n (at0 o k) (stFr n o k).1 (stFr n o k).2), (stFr n o k).2.set (at0 o k).toNat (endOf n (at0 o k) (stFr n o k).1 (stFr n o k).2)) := rfl
          rw [e, hhn]; rfl)
        have hlen := HST.out k
        rw [HM.out, Int.toNat_natCast] at hlen
        have hsm := HSM.out k hk
        generalize stFr n o k = s at *
        obtain ⟨fr, out⟩ := s
        obtain ⟨hl1, hl2⟩ := hlen
        simp only [] at hl1 hl2
        have HF := Lib.hid (fun i (hi : i < M) => bx_at0 HT.out.fr i (by rw [hl1]; exact hi))
        have HFB := Lib.hid (fun i => at0_in hsm.1 (by omega) i)
        have HSMK := Lib.hid hsm
        have HL := Lib.hid (And.intro hl1 hl2)
        have lf := HT.out.fr.lt
        have lo := HT.out.out.lt
        have hM0 : 0 < M := by have := HM1.out; omega
        clear hhn hsm hl1 hl2
        go_wp2
        go_loopw [9, 32] (fun s9 s32 wx => ∃ jj : Nat, jj ≤ M ∧ s9 = .int .i64 (ownTo fr jj : Nat) ∧ s32 = .int .i64 jj ∧ wx = wr) (fun s9 s32 _ => M - (intOf s32).toNat)
        case atStart => exact ⟨0, by omega, rfl, rfl, rfl⟩
        case round =>
          obtain ⟨jj, hjj, rfl, rfl, rfl⟩ := hrel
          by_cases hjl : jj < M
          · have hji : (jj : Int) < (M : Int) := by omega
            have f1 := HF.out jj hjl
            have hol : ownTo fr jj < M := by have := ownTo_lt (fr := fr) (by rw [HL.out.1]; exact hM0) jj (by rw [HL.out.1]; omega); rw [HL.out.1] at this; exact this
            have f2 := HF.out (ownTo fr jj) hol
            have HO1 := Lib.hid (show ownTo fr (jj + 1) = if at0 fr jj < at0 fr (ownTo fr jj) then jj else ownTo fr jj from rfl)
            clear x0
            by_cases hlt2 : at0 fr jj < at0 fr (ownTo fr jj)
            · rw [if_pos hlt2] at HO1
              generalize ownTo fr jj = ow at *
              generalize at0 fr jj = y1 at *
              generalize at0 fr ow = y2 at *
              go_wp2
              exact ⟨⟨jj + 1, by omega, by rw [HO1.out], by go_num, by trivial⟩, by simp [intOf]; omega⟩
            · rw [if_neg hlt2] at HO1
              generalize ownTo fr jj = ow at *
              generalize at0 fr jj = y1 at *
              generalize at0 fr ow = y2 at *
              go_wp2
              exact ⟨⟨jj + 1, by omega, by rw [HO1.out], by go_num, by trivial⟩, by simp [intOf]; omega⟩
          · obtain rfl : M = jj := by omega
            have HOW := Lib.hid (show ownTo fr M = ownTo fr fr.length by rw [HL.out.1])
            have how : ownTo fr M < M := by have := ownTo_lt (fr := fr) (by rw [HL.out.1]; exact hM0) M (by rw [HL.out.1]; omega); rw [HL.out.1] at this; exact this
            have f2 := HF.out (ownTo fr M) how
            have fb2 := HFB.out (ownTo fr M)
            obtain ⟨ha', hc', hb, hof, e, hha, _, hcell⟩ := HH.out
            simp only [Value.slice.injEq] at e
            obtain ⟨rfl, hee, rfl⟩ := e
            clear hee
            rw [HGG.out] at hha hcell
            have hixh := idxHoles (c := hc) hha
            obtain ⟨c0, _, _, c3⟩ := hcell hn hhG
            replace c0 := HT.out.bel.cell c0
            replace c3 := HT.out.bel.cell c3
            have lh := cell_lt c0
            have p1 := HT.out.p1
            have p2 := HT.out.p2
            have lp := cell_lt p1
            have hh1 := HIN.out hn (by rw [HGG.out]; exact hhG)
            have HEN := Lib.hid (show endOf n hn fr out = begTo n.prs hn out (max (at0 fr (ownTo fr fr.length)) (atH n.holes hn).frm) n.prs.length + (atH n.holes hn).hrs from rfl)
            rw [HXX.out] at HEN
            rw [← HOW.out] at HEN HNX
            have HSK : Hid (∀ x, x ∈ out → 0 ≤ x ∧ x ≤ 20 + 9 * (k : Int)) := Lib.hid HSMK.out.2
            have hkb : (k : Int) ≤ 1000 := by omega
            clear x0 lx hcell hha HOW HF HFB HSMK
            generalize hEE : endOf n hn fr out = E at *
            generalize ownTo fr M = ow at *
            generalize at0 fr ow = y1 at *
            generalize (atH n.holes hn).frm = y2 at *
            generalize (atH n.holes hn).hrs = y3 at *
            clear hEE
            obtain ⟨b0, hb0⟩ : ∃ b0, b0 = max y1 y2 := ⟨_, rfl⟩
            rw [← hb0] at HEN
            have hb1 : 0 ≤ b0 ∧ b0 ≤ 20 + 9 * (k : Int) := by omega
            have HB0 := Lib.hid hb0
            clear hb0
            go_wp2
            go_cut [12] (fun s12 wx => s12 = .int .i64 b0 ∧ Bel wr wx)
            case first =>
              clear hixo hixb
              by_cases hmx : y1 < y2
              · have HB2 := Lib.hid (show b0 = y2 by rw [HB0.out]; omega)
                refine wp_region_mixB (Plan.seq [0, 1, 2, 3, 4, 5, 6, 7, 8, 9, 10, 11, 12] .nil) (by kernel_rfl) (by kernel_rfl) (fun hcur => ?_)
                simp only [Plan.seq, Plan.fill, List.getD_cons_zero, List.getD_cons_succ, Nat.reduceLT, ↓reduceIte]
                apply mix_pure _ rfl
                · intro w' hw'
                  have hcr := hw'.cells
                  go_simp
                  rfl
                intro K hK
                go_simp
                refine hK _ ?_
                clear hK K
                apply mix_pure _ rfl
                · intro w' hw'
                  have hcr := hw'.cells
                  go_simp
                  rfl
                intro K hK
                go_simp
                refine hK _ ?_
                clear hK K
                apply mix_pure _ rfl
                · intro w' hw'
                  have hcr := hw'.cells
                  go_simp
                  rfl
                intro K hK
                go_simp
                refine hK _ ?_
                clear hK K
                apply mix_pure _ rfl
                · intro w' hw'
                  have hcr := hw'.cells
                  go_simp
                  rfl
                intro K hK
                go_simp
                refine hK _ ?_
                clear hK K
                apply mix_pure _ rfl
                · intro w' hw'
                  have hcr := hw'.cells
                  go_simp
                  rfl
                intro K hK
                go_simp
                refine hK _ ?_
                clear hK K
                apply mix_pure _ rfl
                · intro w' hw'
                  have hcr := hw'.cells
                  go_simp
                  rfl
                intro K hK
                go_simp
                refine hK _ ?_
                clear hK K
                apply mix_pure _ rfl
                · intro w' hw'
                  have hcr := hw'.cells
                  go_simp
                  rfl
                intro K hK
                go_simp
                refine hK _ ?_
                clear hK K
                apply mix_pure _ rfl
                · intro w' hw'
                  have hcr := hw'.cells
                  go_simp
                  rfl
                intro K hK
                go_simp
                refine hK _ ?_
                clear hK K
                apply mix_pure _ rfl
                · intro w' hw'
                  have hcr := hw'.cells
                  go_simp
                  rfl
                intro K hK
                go_simp
                refine hK _ ?_
                clear hK K
                apply mix_pure _ rfl
                · intro w' hw'
                  have hcr := hw'.cells
                  go_simp
                  rfl
                intro K hK
                go_simp
                refine hK _ ?_
                clear hK K
                apply mix_pure _ rfl
                · intro w' hw'
                  have hcr := hw'.cells
                  go_simp
                  rfl
                intro K hK
                go_simp
                refine hK _ ?_
                clear hK K
                apply mix_pure _ rfl
                · intro w' hw'
                  have hcr := hw'.cells
                  go_simp
                  rfl
                intro K hK
                go_simp
                refine hK _ ?_
                clear hK K
                apply mix_pure _ rfl
                · intro w' hw'
                  have hcr := hw'.cells
                  go_simp
                  rfl
                intro K hK
                go_simp
                refine hK _ ?_
                clear hK K
                refine mix_nil ?_
                go_wp2_with fail
                go_meet
                exact ⟨by rw [HB2.out], (by repeat (first | assumption | exact Bel.refl _ | refine Bel.drew ?_ | refine Bel.drewN ?_ _ | refine Bel.alloc ?_ _ | refine Bel.setCell ?_ (by simp <;> omega) _ | refine Bel.trans ?_ (by assumption)))⟩
              · have HB2 := Lib.hid (show b0 = y1 by rw [HB0.out]; omega)
                refine wp_region_mixB (Plan.seq [0, 1, 2, 3, 4, 5, 6, 7, 8, 9, 10, 11, 12] .nil) (by kernel_rfl) (by kernel_rfl) (fun hcur => ?_)
                simp only [Plan.seq, Plan.fill, List.getD_cons_zero, List.getD_cons_succ, Nat.reduceLT, ↓reduceIte]
                apply mix_pure _ rfl
                · intro w' hw'
                  have hcr := hw'.cells
                  go_simp
                  rfl
                intro K hK
                go_simp
                refine hK _ ?_
                clear hK K
                apply mix_pure _ rfl
                · intro w' hw'
                  have hcr := hw'.cells
                  go_simp
                  rfl
                intro K hK
                go_simp
                refine hK _ ?_
                clear hK K
                apply mix_pure _ rfl
                · intro w' hw'
                  have hcr := hw'.cells
                  go_simp
                  rfl
                intro K hK
                go_simp
                refine hK _ ?_
                clear hK K
                apply mix_pure _ rfl
                · intro w' hw'
                  have hcr := hw'.cells
                  go_simp
                  rfl
                intro K hK
                go_simp
                refine hK _ ?_
                clear hK K
                apply mix_pure _ rfl
                · intro w' hw'
                  have hcr := hw'.cells
                  go_simp
                  rfl
                intro K hK
                go_simp
                refine hK _ ?_
                clear hK K
                apply mix_pure _ rfl
                · intro w' hw'
                  have hcr := hw'.cells
                  go_simp
                  rfl
                intro K hK
                go_simp
                refine hK _ ?_
                clear hK K
                apply mix_pure _ rfl
                · intro w' hw'
                  have hcr := hw'.cells
                  go_simp
                  rfl
                intro K hK
                go_simp
                refine hK _ ?_
                clear hK K
                apply mix_pure _ rfl
                · intro w' hw'
                  have hcr := hw'.cells
                  go_simp
                  rfl
                intro K hK
                go_simp
                refine hK _ ?_
                clear hK K
                apply mix_pure _ rfl
                · intro w' hw'
                  have hcr := hw'.cells
                  go_simp
                  rfl
                intro K hK
                go_simp
                refine hK _ ?_
                clear hK K
                apply mix_pure _ rfl
                · intro w' hw'
                  have hcr := hw'.cells
                  go_simp
                  rfl
                intro K hK
                go_simp
                refine hK _ ?_
                clear hK K
                apply mix_pure _ rfl
                · intro w' hw'
                  have hcr := hw'.cells
                  go_simp
                  rfl
                intro K hK
                go_simp
                refine hK _ ?_
                clear hK K
                apply mix_pure _ rfl
                · intro w' hw'
                  have hcr := hw'.cells
                  go_simp
                  rfl
                intro K hK
                go_simp
                refine hK _ ?_
                clear hK K
                apply mix_pure _ rfl
                · intro w' hw'
                  have hcr := hw'.cells
                  go_simp
                  rfl
                intro K hK
                go_simp
                refine hK _ ?_
                clear hK K
                refine mix_nil ?_
                go_wp2_with fail
                go_meet
                exact ⟨by rw [HB2.out], (by repeat (first | assumption | exact Bel.refl _ | refine Bel.drew ?_ | refine Bel.drewN ?_ _ | refine Bel.alloc ?_ _ | refine Bel.setCell ?_ (by simp <;> omega) _ | refine Bel.trans ?_ (by assumption)))⟩
            case rest =>
              obtain ⟨rfl, hBc⟩ := hcut
              have HTc := Lib.hid (HT.out.go hBc)
              replace c0 := hBc.cell c0
              replace c3 := hBc.cell c3
              replace p1 := hBc.cell p1
              replace p2 := hBc.cell p2
              clear lh lp lf lo f2 fb2
              have lh := cell_lt c0
              have lp := cell_lt p1
              clear hBc c0
              go_wp2
              obtain ⟨pa', pc', pbb, pof, e, hpa, _, hpcell⟩ := HP.out
              simp only [Value.slice.injEq] at e
              obtain ⟨rfl, hee, rfl⟩ := e
              clear hee
              rw [HXX.out] at hpa hpcell
              have hixp := idxPrs (c := pc) hpa
              have HPC := Lib.hid hpcell
              clear hpcell hpa
              go_loopw [12, 61] (fun s12 s61 wx => ∃ jj : Nat, jj ≤ X ∧ s12 = .int .i64 (begTo n.prs hn out b0 jj) ∧ s61 = .int .i64 jj ∧ Bel wc wx) (fun s12 s61 _ => X - (intOf s61).toNat)
              case atStart => exact ⟨0, by omega, rfl, rfl, Bel.refl _⟩
              case round =>
                obtain ⟨jj, hjj, rfl, rfl, hBd⟩ := hrel
                have HBd := Lib.hid hBd
                by_cases hjl : jj < X
                · have hji : (jj : Int) < (X : Int) := by omega
                  have HBG := Lib.hid (show begTo n.prs hn out b0 (jj + 1) = if (atP n.prs jj).b = hn then max (begTo n.prs hn out b0 jj) (at0 out (atP n.prs jj).a.toNat) else begTo n.prs hn out b0 jj from rfl)
                  obtain ⟨k0, k1⟩ := HPC.out jj hjl
                  replace k0 := hBd.cell (HTc.out.bel.cell k0)
                  replace k1 := hBd.cell (HTc.out.bel.cell k1)
                  have lk := cell_lt k0
                  obtain ⟨an, han⟩ : ∃ an : Nat, (atP n.prs jj).a = (an : Int) := ⟨(atP n.prs jj).a.toNat, by have := HPS.out jj hjl; omega⟩
                  have haG : an < G := by have := HPS.out jj hjl; omega
                  have o1 := hBd.cell (bx_at0 HTc.out.out an (by rw [HL.out.2]; exact haG))
                  have lo1 := cell_lt o1
                  have ob1 := at0_in HSK.out (by omega) an
                  rw [han] at k0 HBG
                  rw [Int.toNat_natCast] at HBG
                  clear hBd p1 p2 c3 lh lp han hixo hixh
                  obtain ⟨B2, hB2⟩ : ∃ B2, B2 = begTo n.prs hn out b0 (jj + 1) := ⟨_, rfl⟩
                  rw [← hB2] at HBG
                  have HB22 := Lib.hid hB2
                  clear hB2
                  generalize begTo n.prs hn out b0 jj = B1 at *
                  generalize (atP n.prs jj).b = pb at *
                  generalize at0 out an = y5 at *
                  by_cases hpb : pb = (hn : Int)
                  · rw [if_pos hpb] at HBG
                    have e1 : (pb == (hn : Int)) = true := by rw [beq_iff_eq]; exact hpb
                    clear hpb
                    by_cases hmx : B1 < y5
                    · have HB2 := Lib.hid (show B2 = y5 by rw [HBG.out]; omega)
                      clear HBG
                      go_wp2
                      exact ⟨⟨jj + 1, by omega, by rw [← HB22.out, HB2.out], by go_num, HBd.out.trans (by repeat (first | assumption | exact Bel.refl _ | refine Bel.drew ?_ | refine Bel.drewN ?_ _ | refine Bel.alloc ?_ _ | refine Bel.setCell ?_ (by simp <;> omega) _ | refine Bel.trans ?_ (by assumption)))⟩, by simp [intOf]; omega⟩
                    · have HB2 := Lib.hid (show B2 = B1 by rw [HBG.out]; omega)
                      clear HBG
                      go_wp2
                      exact ⟨⟨jj + 1, by omega, by rw [← HB22.out, HB2.out], by go_num, HBd.out.trans (by repeat (first | assumption | exact Bel.refl _ | refine Bel.drew ?_ | refine Bel.drewN ?_ _ | refine Bel.alloc ?_ _ | refine Bel.setCell ?_ (by simp <;> omega) _ | refine Bel.trans ?_ (by assumption)))⟩, by simp [intOf]; omega⟩
                  · rw [if_neg hpb] at HBG
                    have e1 : (pb == (hn : Int)) = false := by rw [beq_eq_false_iff_ne]; exact hpb
                    clear hpb
                    go_wp2
                    exact ⟨⟨jj + 1, by omega, by rw [← HB22.out, HBG.out], by go_num, HBd.out.trans (by repeat (first | assumption | exact Bel.refl _ | refine Bel.drew ?_ | refine Bel.drewN ?_ _ | refine Bel.alloc ?_ _ | refine Bel.setCell ?_ (by simp <;> omega) _ | refine Bel.trans ?_ (by assumption)))⟩, by simp [intOf]; omega⟩
                · obtain rfl : X = jj := by omega
                  have HTx := Lib.hid (HTc.out.go hBd)
                  replace c3 := hBd.cell c3
                  have q1 := HTx.out.p1
                  have o1 := bx_at0 HTx.out.out hn (by rw [HL.out.2]; exact hhG)
                  have f1 := bx_at0 HTx.out.fr ow (by rw [HL.out.1]; exact how)
                  have of1 := HTx.out.out.f hn
                  have ff1 := HTx.out.fr.f ow
                  have hne := HTx.out.ne
                  have hbb := begTo_in (ps := n.prs) (h := hn) (b0 := b0) HSK.out (by omega) hb1 X
                  have HSET := Lib.hid (HTx.out.set (i := hn) (j := ow) (by rw [HL.out.2]; exact hhG) (by rw [HL.out.1]; exact how) E)
                  generalize begTo n.prs hn out b0 X = BB at *
                  generalize at0 out hn = y6 at *
                  clear p1 p2 hBd HBd hixo hixp lh lp
                  have lq := cell_lt q1
                  have lo1 := cell_lt o1
                  have lf1 := cell_lt f1
                  have lh := cell_lt c3
                  go_wp2
                  exact ⟨⟨k + 1, by omega, by go_num, by rw [HNX.out]; exact Lib.hid (by have := HSET.out; rw [HEN.out] at this ⊢; exact this)⟩, by simp [intOf]; omega⟩
      · obtain rfl : k = N := by omega
        clear hixo hixf hixb
        go_wp2
        go_ret
        refine ⟨_, rfl, ?_, HT.out.bel, fun a m c e => by injection e with e _ _; injection e with e; rw [← e]; have := HT.out.o1; show w.heap.size ≤ ob; omega⟩
        have hl := (HST.out k).2
        have := bx_ints HT.out.out (by omega)
        rw [hl] at this
        rw [HTV.out]
        exact this
end Go.Proofs.YtkdcdhkhadhcfaaDoor

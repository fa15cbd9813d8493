/-
  law: CountsAsk: Tell, Ask and Idle are what the document says, for every trap and place; the call changes nothing that was there
-/
import Derived.Test.YtoiajjdhgffdaaaRSpan
import Derived.Test.YtoiajjdhgffdaaaRJudge
import Derived.Test.YtoiajjdhgffdaaaTold
import Derived.Test.YtoiajjdhgffdaaaTell2
import Derived.Test.YtoiajjdhgffdaaaAsk
import Derived.Test.YtoiajjdhgffdaaaIdle
import Derived.Test.YtoiajjdhgffdaaaWithout
import Derived.Test.YtoiajjdhgffdaaaWorks
import Derived.Test.YtoiajjdhgffdaaaSame
import Derived.Test.YtoiajjdhgffdaaaSmall
namespace Go.Proofs.Ytoiajjdhgffdaaa
open Go Go.RowKit
set_option maxHeartbeats 4000000
set_option maxRecDepth 100000
theorem place_of {t : CT} (hf : Fit t) {i c : Int} (h1 : 0 ≤ i) (h2 : i < t.T) (h3 : 0 ≤ c) (h4 : c < t.C) : isPlaceB t.C t.T i c = true := by
  have := hf.c1; have := hf.c2; have := hf.t1; have := hf.t2
  unfold isPlaceB isTimeB
  simp only [Bool.and_eq_true, withinB_true]
  rw [wrap64_in (t.T - 1) (by omega), wrap64_in (t.C - 1) (by omega)]
  omega
theorem RDoubt_any (t : CT) (v : Value) (w : World) (hv : TrapAt w v t) (hf : Fit t) (h9 : t.ws.length ≤ 9) (hone : ∃ y, Sat t (-1) y) :
    Calls Try.prog 92 #[v] w fun e w' => e = .returned (.int .i64 (dbtR t)) ∧ Bel w w' := by
  have hex := exact_of_one hf hone
  obtain ⟨f1, f2, f3, f4, _, _⟩ := id hf
  have hbn := Fish_bounds hf hex (t.T.toNat - 1) (t.C.toNat - 1) (by omega) (by omega)
  rw [show ((t.T.toNat - 1 : Nat) : Int) = t.T - 1 by omega, show ((t.C.toNat - 1 : Nat) : Int) = t.C - 1 by omega] at hbn
  have HD := Lib.hid (fun wx hx => FishOf_any t v (t.T - 1) (t.C - 1) wx hx hf h9 hone (place_of hf (by omega) (by omega) (by omega) (by omega)))
  have HE := Lib.hid (dbtR_eq (t := t))
  have HV := Lib.hid hv
  obtain ⟨ov, wv, rfl, ⟨a, cc, b, off, rv, rfl, _⟩, ⟨wa, wc, wb, woff, rfl, _⟩⟩ := hv
  clear hex hf hone
  generalize fishLo t (t.T - 1) (t.C - 1) = lo at *
  generalize fishHi t (t.T - 1) (t.C - 1) = hi at *
  obtain ⟨n1, n2, n3⟩ := hbn
  go_enter Try.func92, Try.ntmps92
  go_wp2_with fail
  refine (HD.out _ (HV.out.bel (by repeat (first | assumption | exact Bel.refl _ | refine Bel.drew ?_ | refine Bel.drewN ?_ _ | refine Bel.alloc ?_ _ | refine Bel.setCell ?_ (by simp <;> omega) _ | refine Bel.trans ?_ (by assumption))))).mono ?_
  rintro e w1 ⟨rfl, hb⟩
  have HB := Lib.hid (show Bel w w1 from Bel.trans (by repeat (first | assumption | exact Bel.refl _ | refine Bel.drew ?_ | refine Bel.drewN ?_ _ | refine Bel.alloc ?_ _ | refine Bel.setCell ?_ (by simp <;> omega) _ | refine Bel.trans ?_ (by assumption))) hb)
  clear hb
  go_wp2
  go_ret
  exact ⟨ri HE.out, HB.out.alloc _⟩
theorem rtell_any (t : CT) (v : Value) (i c : Nat) (w : World) (hv : TrapAt w v t) (hroom : Room t) (hf : Fit t) (h8 : t.ws.length ≤ 8) (hone : ∃ y, Sat t (-1) y) (hi : i < t.T.toNat) (hc : c < t.C.toNat) :
    Calls Try.prog 91 #[v, .agg #[.int .i64 (i : Int), .int .i64 (c : Int)]] w fun e w' => e = .returned (.int .i64 (tellR t i c)) ∧ Bel w w' := by
  have hex := exact_of_one hf hone
  obtain ⟨f1, f2, f3, f4, _, _⟩ := id hf
  obtain ⟨n1, n2, n3⟩ := Fish_bounds hf hex i c hi hc
  have HF := Lib.hid (fun wx hx => FishOf_any t v i c wx hx hf (by omega) hone (place_of hf (by omega) (by omega) (by omega) (by omega)))
  have HC := Lib.hid (fun (n : Int) wx hx => Counted_any t i c n v wx hx hroom)
  have hxw : ∀ n : Int, 0 ≤ n → n ≤ 40 → isWordB t.C t.T ⟨i, c, n, n⟩ = true := fun n h0 h40 => by
    unfold isWordB isPlaceB isTimeB
    simp only [Bool.and_eq_true, withinB_true]
    rw [wrap64_in (t.T - 1) (by omega), wrap64_in (t.C - 1) (by omega)]
    omega
  have HD : Hid (∀ n : Int, fishLo t i c ≤ n → n ≤ fishHi t i c → ∀ (vo : Value) (wx : World), TrapAt wx vo (told t ⟨i, c, n, n⟩) → Calls Try.prog 92 #[vo] wx fun e w' => e = .returned (.int .i64 (dbtR (told t ⟨i, c, n, n⟩))) ∧ Bel wx w') :=
    Lib.hid (fun n h1 h2 vo wx hx => RDoubt_any (told t ⟨i, c, n, n⟩) vo wx hx (fit_told hf (hxw n (by omega) (by omega))) (by unfold told; simp; omega) (oneB_iff.1 ((told_one hf hex (hxw n (by omega) (by omega))).2 ⟨h2, h1⟩)))
  have HE := Lib.hid (show tellR t i c = tellTo t.C t.T i c (fishLo t i c) (setMat t (-1)) (fishHi t i c + 1 - fishLo t i c).toNat from rfl)
  have HV := Lib.hid hv
  obtain ⟨ov, wv, rfl, ⟨a, cc, b, off, rv, rfl, _⟩, ⟨wa, wc, wb, woff, rfl, _⟩⟩ := hv
  clear hex hf hone hroom hxw
  generalize fishLo t i c = lo at *
  generalize fishHi t i c = hh at *
  go_enter Try.func91, Try.ntmps91
  go_wp2_with fail
  refine (HF.out _ (HV.out.bel (by repeat (first | assumption | exact Bel.refl _ | refine Bel.drew ?_ | refine Bel.drewN ?_ _ | refine Bel.alloc ?_ _ | refine Bel.setCell ?_ (by simp <;> omega) _ | refine Bel.trans ?_ (by assumption))))).mono ?_
  rintro e w1 ⟨rfl, hb⟩
  have x0 : w1.cell? ⟨w.heap.size, 0, none⟩ = some (.int .i64 t.C) := hb.cell ((row_facts ((heap_alloc_old _ _ (by simp <;> omega)).trans (new_row rfl))).1 0)
  have x1 : w1.cell? ⟨w.heap.size, 1, none⟩ = some (.int .i64 t.T) := hb.cell ((row_facts ((heap_alloc_old _ _ (by simp <;> omega)).trans (new_row rfl))).1 1)
  have x2 : w1.cell? ⟨w.heap.size, 2, none⟩ = some (.slice a t.op.length cc) := hb.cell ((row_facts ((heap_alloc_old _ _ (by simp <;> omega)).trans (new_row rfl))).1 2)
  have x3 : w1.cell? ⟨w.heap.size, 3, none⟩ = some (.slice wa t.ws.length wc) := hb.cell ((row_facts ((heap_alloc_old _ _ (by simp <;> omega)).trans (new_row rfl))).1 3)
  have p0 : w1.cell? ⟨w.heap.size + 1, 0, none⟩ = some (.int .i64 (i : Int)) := hb.cell ((row_facts (new_row (by simp))).1 0)
  have p1 : w1.cell? ⟨w.heap.size + 1, 1, none⟩ = some (.int .i64 (c : Int)) := hb.cell ((row_facts (new_row (by simp))).1 1)
  have HB1 := Lib.hid (show Bel w w1 from Bel.trans (by repeat (first | assumption | exact Bel.refl _ | refine Bel.drew ?_ | refine Bel.drewN ?_ _ | refine Bel.alloc ?_ _ | refine Bel.setCell ?_ (by simp <;> omega) _ | refine Bel.trans ?_ (by assumption))) hb)
  clear hb
  have lx := cell_lt x0
  have lp := cell_lt p0
  go_wp2
  generalize hW2 : w1.alloc _ = W2
  have hk2 : Bel w1 W2 := by rw [← hW2]; exact (Bel.refl w1).alloc _
  have s0 : W2.cell? ⟨w1.heap.size, 0, none⟩ = some (.int .i64 lo) := by rw [← hW2]; exact (row_facts (new_row rfl)).1 0
  have s1 : W2.cell? ⟨w1.heap.size, 1, none⟩ = some (.int .i64 hh) := by rw [← hW2]; exact (row_facts (new_row rfl)).1 1
  have HX := Lib.hid (And.intro (hk2.cell x0) (And.intro (hk2.cell x1) (And.intro (hk2.cell x2) (And.intro (hk2.cell x3) (And.intro (hk2.cell p0) (And.intro (hk2.cell p1) (And.intro s0 s1)))))))
  have HB2 := Lib.hid (HB1.out.trans hk2)
  clear hW2 hk2 s0 s1 x0 x1 x2 x3 p0 p1 lx lp
  go_loopw [6, 7] (fun s6 s7 wr => ∃ k : Nat, k ≤ (hh + 1 - lo).toNat ∧ s6 = .int .i64 (tellTo t.C t.T i c lo (setMat t (-1)) k) ∧ s7 = .int .i64 (lo + k) ∧ Bel W2 wr) (fun _ s7 _ => (hh + 1 - intOf s7).toNat)
  case atStart => exact ⟨0, by omega, rfl, by simp, Bel.refl _⟩
  case round =>
    obtain ⟨k, hk, rfl, rfl, hB⟩ := hrel
    have HB := Lib.hid hB
    obtain ⟨x0, x1, x2, x3, p0, p1, s0, s1⟩ := HX.out
    replace x0 := hB.cell x0
    replace x1 := hB.cell x1
    replace x2 := hB.cell x2
    replace x3 := hB.cell x3
    replace p0 := hB.cell p0
    replace p1 := hB.cell p1
    replace s0 := hB.cell s0
    replace s1 := hB.cell s1
    clear hB
    have lx := cell_lt x0
    have lp := cell_lt p0
    have ls := cell_lt s0
    by_cases hlt : lo + (k : Int) ≤ hh
    · have HMX := Lib.hid (show tellTo t.C t.T i c lo (setMat t (-1)) (k + 1) = mx (tellTo t.C t.T i c lo (setMat t (-1)) k) (dbtR (told t ⟨i, c, lo + k, lo + k⟩)) by rw [← dbt_told]; rfl)
      have HDk := Lib.hid (HD.out (lo + k) (by omega) hlt)
      have HVr := Lib.hid (HV.out.bel (HB2.out.trans HB.out))
      go_wp2_with fail
      refine (HC.out (lo + k) _ (HVr.out.bel (by repeat (first | assumption | exact Bel.refl _ | refine Bel.drew ?_ | refine Bel.drewN ?_ _ | refine Bel.alloc ?_ _ | refine Bel.setCell ?_ (by simp <;> omega) _ | refine Bel.trans ?_ (by assumption))))).mono ?_
      rintro e w3 ⟨vo, rfl, hb3, hN⟩
      have HN := Lib.hid hN.now
      have HB3 := Lib.hid (HB.out.trans hb3)
      clear hN hb3 x0 x1 x2 x3 p0 p1 s0 s1 lx lp ls
      go_wp2_with fail
      refine (HDk.out _ _ HN.out).mono ?_
      rintro e w4 ⟨rfl, hb4⟩
      have HB4 := Lib.hid (HB3.out.trans hb4)
      clear hb4 HN HB3
      go_wp2
      go_roundw
      case rel => exact ⟨k + 1, by omega, by rw [HMX.out]; rfl, by go_num, HB4.out⟩
      case measure => simp [intOf]; omega
    · have HK := Lib.hid (show tellTo t.C t.T i c lo (setMat t (-1)) k = tellR t i c by rw [HE.out, show k = (hh + 1 - lo).toNat by omega])
      have HBF := Lib.hid (HB2.out.trans HB.out)
      go_wp2
      go_ret
      exact ⟨ri HK.out.symm, HBF.out⟩
theorem RTell_any (t : CT) (v : Value) (i c : Int) (w : World) (hv : TrapAt w v t) (hroom : Room t) :
    Calls Try.prog 56 #[v, .agg #[.int .i64 i, .int .i64 c]] w (IntPost (errR t (isPlaceB t.C t.T i c)) (tellR t i c) w) := by
  have HV := Lib.hid hv
  have HK := Lib.hid (fun wx hx => known_any t v (isPlaceB t.C t.T i c) wx hx)
  by_cases he : errR t (isPlaceB t.C t.T i c) = 0
  · obtain ⟨hval, hp, hone⟩ := errR_zero he
    have hf := fit_of_valid hval
    obtain ⟨a', b', rfl, rfl, ha, hb⟩ := isPlaceB_nat hf hp
    have HT := Lib.hid (fun wx hx => rtell_any t v a' b' wx hx hroom hf (validB_bounds hval).2.2.2.1 hone ha hb)
    have HE := Lib.hid he
    rw [he, hp] at HK
    obtain ⟨ov, wv, rfl, ⟨a, cc, b, off, rv, rfl, _⟩, ⟨wa, wc, wb, woff, rfl, _⟩⟩ := hv
    clear hf hone hval he
    generalize hr : tellR t a' b' = r at *
    clear hr
    go_enter Try.func56, Try.ntmps56
    go_wp2
    refine wp_region_mixB (Plan.seq [0, 1, 2, 1003, 1004, 5] .nil) (by kernel_rfl) (by kernel_rfl) (fun hcur => ?_)
    simp only [Plan.seq, Plan.fill, List.getD_cons_zero, List.getD_cons_succ, Nat.reduceLT, ↓reduceIte, Nat.reduceSub]
    apply mix_pure _ rfl
    · intro w' hw'
      have hcr := hw'.cells
      go_simp
      rfl
    intro K hK
    go_simp
    refine hK _ ?_
    clear hK K
    apply mix_pure _ rfl
    · intro w' hw'
      have hcr := hw'.cells
      go_simp
      rfl
    intro K hK
    go_simp
    refine hK _ ?_
    clear hK K
    apply mix_pure _ rfl
    · intro w' hw'
      have hcr := hw'.cells
      go_simp
      rfl
    intro K hK
    go_simp
    refine hK _ ?_
    clear hK K
    refine mix_act rfl (fun K hK => ?_)
    go_simp
    refine (IsPlace_any _ _ _ _ _ _ _).mono ?_
    rintro e w' ⟨rfl, hb⟩
    rw [hp]
    simp only []
    refine hK _ _ (hcur.trans hb) (fun hcur => ?_)
    clear hK K hb
    refine mix_act rfl (fun K hK => ?_)
    go_simp
    refine (HK.out _ (HV.out.bel (by repeat (first | assumption | exact Bel.refl _ | refine Bel.drew ?_ | refine Bel.drewN ?_ _ | refine Bel.alloc ?_ _ | refine Bel.setCell ?_ (by simp <;> omega) _ | refine Bel.trans ?_ (by assumption))))).mono ?_
    rintro e w2 ⟨rfl, hb⟩
    simp only []
    refine hK _ _ (hcur.trans hb) (fun hcur => ?_)
    clear hK K hb
    apply mix_pure _ rfl
    · intro w' hw'
      have hcr := hw'.cells
      go_simp
      rfl
    intro K hK
    go_simp
    refine hK _ ?_
    clear hK K
    refine mix_nil ?_
    have x0 : w2.cell? ⟨w.heap.size, 0, none⟩ = some (.int .i64 t.C) := hcur.cell ((row_facts ((heap_alloc_old _ _ (by simp)).trans (new_row rfl))).1 0)
    have x1 : w2.cell? ⟨w.heap.size, 1, none⟩ = some (.int .i64 t.T) := hcur.cell ((row_facts ((heap_alloc_old _ _ (by simp)).trans (new_row rfl))).1 1)
    have x2 : w2.cell? ⟨w.heap.size, 2, none⟩ = some (.slice a t.op.length cc) := hcur.cell ((row_facts ((heap_alloc_old _ _ (by simp)).trans (new_row rfl))).1 2)
    have x3 : w2.cell? ⟨w.heap.size, 3, none⟩ = some (.slice wa t.ws.length wc) := hcur.cell ((row_facts ((heap_alloc_old _ _ (by simp)).trans (new_row rfl))).1 3)
    have p0 : w2.cell? ⟨w.heap.size + 1, 0, none⟩ = some (.int .i64 (a' : Int)) := hcur.cell ((row_facts (new_row (by simp))).1 0)
    have p1 : w2.cell? ⟨w.heap.size + 1, 1, none⟩ = some (.int .i64 (b' : Int)) := hcur.cell ((row_facts (new_row (by simp))).1 1)
    have lx := cell_lt x0
    have lp := cell_lt p0
    have HB2 := Lib.hid (show Bel w w2 from Bel.trans (by repeat (first | assumption | exact Bel.refl _ | refine Bel.drew ?_ | refine Bel.drewN ?_ _ | refine Bel.alloc ?_ _ | refine Bel.setCell ?_ (by simp <;> omega) _ | refine Bel.trans ?_ (by assumption))) hcur)
    clear hcur
    go_wp2_with fail
    refine (HT.out _ (HV.out.bel HB2.out)).mono ?_
    rintro e w3 ⟨rfl, hb⟩
    have HB3 := Lib.hid (HB2.out.trans hb)
    clear hb
    go_wp2
    exact bodyPost_ret (v := .tuple #[.int .i64 r, .int .i64 0]) (by simp [results, Try.results56, go_sem, *]) rfl (IntPost.ok HE.out rfl HB3.out)
  · have hne : (errR t (isPlaceB t.C t.T i c) != 0) = true := by rw [bne_iff_ne]; exact he
    have HE := Lib.hid he
    obtain ⟨ov, wv, rfl, ⟨a, cc, b, off, rv, rfl, _⟩, ⟨wa, wc, wb, woff, rfl, _⟩⟩ := hv
    clear he
    have HIP := Lib.hid (fun wx => IsPlace_any t.C t.T i c (.slice a t.op.length cc) (.slice wa t.ws.length wc) wx)
    generalize isPlaceB t.C t.T i c = bp at *
    generalize errR t bp = er at *
    go_enter Try.func56, Try.ntmps56
    go_wp2
    refine wp_region_mixB (Plan.seq [0, 1, 2, 1003, 1004, 5] .nil) (by kernel_rfl) (by kernel_rfl) (fun hcur => ?_)
    simp only [Plan.seq, Plan.fill, List.getD_cons_zero, List.getD_cons_succ, Nat.reduceLT, ↓reduceIte, Nat.reduceSub]
    apply mix_pure _ rfl
    · intro w' hw'
      have hcr := hw'.cells
      go_simp
      rfl
    intro K hK
    go_simp
    refine hK _ ?_
    clear hK K
    apply mix_pure _ rfl
    · intro w' hw'
      have hcr := hw'.cells
      go_simp
      rfl
    intro K hK
    go_simp
    refine hK _ ?_
    clear hK K
    apply mix_pure _ rfl
    · intro w' hw'
      have hcr := hw'.cells
      go_simp
      rfl
    intro K hK
    go_simp
    refine hK _ ?_
    clear hK K
    refine mix_act rfl (fun K hK => ?_)
    go_simp
    refine (HIP.out _).mono ?_
    rintro e w' ⟨rfl, hb⟩
    simp only []
    refine hK _ _ (hcur.trans hb) (fun hcur => ?_)
    clear hK K hb
    refine mix_act rfl (fun K hK => ?_)
    go_simp
    refine (HK.out _ (HV.out.bel (by repeat (first | assumption | exact Bel.refl _ | refine Bel.drew ?_ | refine Bel.drewN ?_ _ | refine Bel.alloc ?_ _ | refine Bel.setCell ?_ (by simp <;> omega) _ | refine Bel.trans ?_ (by assumption))))).mono ?_
    rintro e w2 ⟨rfl, hb⟩
    simp only []
    refine hK _ _ (hcur.trans hb) (fun hcur => ?_)
    clear hK K hb
    apply mix_pure _ rfl
    · intro w' hw'
      have hcr := hw'.cells
      go_simp
      rfl
    intro K hK
    go_simp
    refine hK _ ?_
    clear hK K
    refine mix_nil ?_
    have HB2 := Lib.hid (show Bel w w2 from Bel.trans (by repeat (first | assumption | exact Bel.refl _ | refine Bel.drew ?_ | refine Bel.drewN ?_ _ | refine Bel.alloc ?_ _ | refine Bel.setCell ?_ (by simp <;> omega) _ | refine Bel.trans ?_ (by assumption))) hcur)
    clear hcur
    go_wp2
    exact bodyPost_ret (v := .tuple #[.int .i64 0, .int .i64 er]) (by simp [results, Try.results56, go_sem, *]) rfl (IntPost.err HE.out HB2.out)
end Go.Proofs.Ytoiajjdhgffdaaa
namespace Go.Proofs.Ytoiajjdhgffdaaa
open Go Go.RowKit
set_option maxHeartbeats 8000000
set_option maxRecDepth 100000
/-- The best place so far, in its box, which is the first new block of the class. -/
structure BestAt (w1 : World) (r : Int × Int) (wr : World) : Prop where
  bel : Bel w1 wr
  c0 : wr.cell? ⟨w1.heap.size, 0, none⟩ = some (.int .i64 r.1)
  c1 : wr.cell? ⟨w1.heap.size, 1, none⟩ = some (.int .i64 r.2)
  f0 : wr.frozen? ⟨w1.heap.size, 0, none⟩ = false
  f1 : wr.frozen? ⟨w1.heap.size, 1, none⟩ = false
theorem BestAt.step {w1 wr wx : World} {r : Int × Int} (h : BestAt w1 r wr) (k : Bel wr wx) : BestAt w1 r wx :=
  ⟨h.bel.trans k, k.cell h.c0, k.cell h.c1, (k.frozens ⟨w1.heap.size, 0, none⟩ (cell_lt h.c0)).trans h.f0, (k.frozens ⟨w1.heap.size, 1, none⟩ (cell_lt h.c1)).trans h.f1⟩
theorem BestAt.put {w1 wr : World} {r : Int × Int} (h : BestAt w1 r wr) (a c : Int) : BestAt w1 (a, c) ((wr.setCell ⟨w1.heap.size, 0, none⟩ (.int .i64 a)).setCell ⟨w1.heap.size, 1, none⟩ (.int .i64 c)) := by
  obtain ⟨x0, x1⟩ := two_cells (u0 := .int .i64 a) (u1 := .int .i64 c) h.c0 h.c1
  exact ⟨(h.bel.setCell (p := ⟨w1.heap.size, 0, none⟩) (Nat.le_refl _) _).setCell (p := ⟨w1.heap.size, 1, none⟩) (Nat.le_refl _) _, x0, x1, by simp only [World.frozen?_setCell]; exact h.f0, by simp only [World.frozen?_setCell]; exact h.f1⟩
theorem rask_end {P : Program} {f : Func} {t : CT} {x y er : Int} {w w' : World} {a : Act} (hr : (results f a.tmps).run P w' = .ok (.tuple #[.agg #[.int .i64 x, .int .i64 y], .int .i64 er]) w') (hd : a.defers = [])
    (h1 : askE t = er) (h2 : askV t = (x, y)) (hb : Bel w w') :
    bodyPost P f (fun e w' => e = .returned (.tuple #[.agg #[.int .i64 (askV t).1, .int .i64 (askV t).2], .int .i64 (askE t)]) ∧ Bel w w') .ret a w' :=
  bodyPost_ret hr hd ⟨by rw [h1, h2], hb⟩
theorem RAsk_any (t : CT) (v : Value) (w : World) (hv : TrapAt w v t) (hroom : Room t) :
    Calls Try.prog 57 #[v] w fun e w' => e = .returned (.tuple #[.agg #[.int .i64 (askV t).1, .int .i64 (askV t).2], .int .i64 (askE t)]) ∧ Bel w w' := by
  have HV := Lib.hid hv
  have HK := Lib.hid (fun wx hx => known_any t v true wx hx)
  by_cases he : errR t true = 0
  · obtain ⟨hval, _, hone⟩ := errR_zero he
    have hf := fit_of_valid hval
    obtain ⟨f1, f2, f3, f4, _, _⟩ := id hf
    have hex := exact_of_one hf hone
    have hbn := Fish_bounds hf hex (t.T.toNat - 1) (t.C.toNat - 1) (by omega) (by omega)
    rw [show ((t.T.toNat - 1 : Nat) : Int) = t.T - 1 by omega, show ((t.C.toNat - 1 : Nat) : Int) = t.C - 1 by omega] at hbn
    have hdb := dbtR_eq (t := t)
    have hd0 : 0 ≤ dbtR t := by omega
    have HT := Lib.hid (fun (i c : Nat) (hi : i < t.T.toNat) (hc : c < t.C.toNat) wx hx => rtell_any t v i c wx hx hroom hf (validB_bounds hval).2.2.2.1 hone hi hc)
    have HD := Lib.hid (fun wx hx => RDoubt_any t v wx hx hf (valid_nine hval) hone)
    rw [he] at HK
    have HE := Lib.hid he
    obtain ⟨ov, wv, rfl, ⟨a, cc, b, off, rv, rfl, _⟩, ⟨wa, wc, wb, woff, rfl, _⟩⟩ := hv
    clear hval hone hf hex hbn hdb he
    have HTS := Lib.hid (fun (pre : List (Nat × Nat)) (x : Nat × Nat) => (askRun_snoc t pre x).trans (show askStep t (askRun t pre) x = if (askRun t pre).2 < 0 ∨ tellR t x.1 x.2 < (askRun t pre).2 then (((x.1 : Int), (x.2 : Int)), tellR t x.1 x.2) else askRun t pre from rfl))
    have HAE : Hid (askE t = if (askRun t (plTo t.C.toNat t.T.toNat t.T.toNat)).2 < 0 ∨ dbtR t = 0 then 3 else 0) := Lib.hid (by unfold askE askP; rw [if_neg (by simp [HE.out])])
    have HAV : Hid (askV t = if askE t = 0 then (askRun t (plTo t.C.toNat t.T.toNat t.T.toNat)).1 else (0, 0)) := Lib.hid (by unfold askV askP; rfl)
    obtain ⟨C, hC⟩ : ∃ C, C = t.C.toNat := ⟨_, rfl⟩
    obtain ⟨T, hT⟩ : ∃ T, T = t.T.toNat := ⟨_, rfl⟩
    have eC : t.C = (C : Int) := by omega
    have eT : t.T = (T : Int) := by omega
    rw [← hC, ← hT] at HT HAE HAV
    rw [eC, eT] at HK HD HV HT ⊢
    have c1 : 1 ≤ C := by omega
    have c2 : C ≤ 4 := by omega
    have t1 : 1 ≤ T := by omega
    have t2 : T ≤ 5 := by omega
    clear hC hT eC eT f1 f2 f3 f4 HE
    generalize hdd : dbtR t = dd at *
    clear hdd
    go_enter Try.func57, Try.ntmps57
    go_wp2_with fail
    refine (HK.out _ (HV.out.bel (by repeat (first | assumption | exact Bel.refl _ | refine Bel.drew ?_ | refine Bel.drewN ?_ _ | refine Bel.alloc ?_ _ | refine Bel.setCell ?_ (by simp <;> omega) _ | refine Bel.trans ?_ (by assumption))))).mono ?_
    rintro e w1 ⟨rfl, hb⟩
    have x0 : w1.cell? ⟨w.heap.size, 0, none⟩ = some (.int .i64 (C : Int)) := hb.cell ((row_facts ((heap_alloc_old _ _ (by simp)).trans (new_row rfl))).1 0)
    have x1 : w1.cell? ⟨w.heap.size, 1, none⟩ = some (.int .i64 (T : Int)) := hb.cell ((row_facts ((heap_alloc_old _ _ (by simp)).trans (new_row rfl))).1 1)
    have x2 : w1.cell? ⟨w.heap.size, 2, none⟩ = some (.slice a t.op.length cc) := hb.cell ((row_facts ((heap_alloc_old _ _ (by simp)).trans (new_row rfl))).1 2)
    have x3 : w1.cell? ⟨w.heap.size, 3, none⟩ = some (.slice wa t.ws.length wc) := hb.cell ((row_facts ((heap_alloc_old _ _ (by simp)).trans (new_row rfl))).1 3)
    have b0 : w1.cell? ⟨w.heap.size + 1, 0, none⟩ = some (.int .i64 0) := hb.cell ((row_facts (new_row (by simp))).1 0)
    have b1 : w1.cell? ⟨w.heap.size + 1, 1, none⟩ = some (.int .i64 0) := hb.cell ((row_facts (new_row (by simp))).1 1)
    have g : ∀ o, w1.frozen? ⟨w.heap.size + 1, o, none⟩ = false := fun o => (hb.frozens ⟨w.heap.size + 1, o, none⟩ (by simp)).trans ((row_facts (new_row (by simp))).2 o)
    have HX := Lib.hid (And.intro x0 (And.intro x1 (And.intro x2 (And.intro x3 (And.intro b0 (And.intro b1 (And.intro (g 0) (g 1))))))))
    have lb := cell_lt b0
    have HB1 := Lib.hid (show Bel w w1 from Bel.trans (by repeat (first | assumption | exact Bel.refl _ | refine Bel.drew ?_ | refine Bel.drewN ?_ _ | refine Bel.alloc ?_ _ | refine Bel.setCell ?_ (by simp <;> omega) _ | refine Bel.trans ?_ (by assumption))) hb)
    clear hb g x0 x1 x2 x3 b0 b1
    go_wp2
    have HBA : Hid (BestAt w1 (0, 0) (w1.alloc (.cells #[.int .i64 0, .int .i64 0] 27))) := Lib.hid ⟨(Bel.refl _).alloc _, (row_facts (new_row rfl)).1 0, (row_facts (new_row rfl)).1 1, (row_facts (new_row rfl)).2 0, (row_facts (new_row rfl)).2 1⟩
    go_loopw [6, 7] (fun s6 s7 wr => ∃ k : Nat, k ≤ T ∧ s6 = .int .i64 (askRun t (plTo C T k)).2 ∧ s7 = .int .i64 k ∧ BestAt w1 (askRun t (plTo C T k)).1 wr ∧ Hid (dd = 0 → k = 0)) (fun _ s7 _ => T - (intOf s7).toNat)
    case atStart => exact ⟨0, by omega, rfl, rfl, HBA.out, Lib.hid (fun _ => rfl)⟩
    case round =>
      clear HBA
      obtain ⟨k, hk, rfl, rfl, hBA, hz⟩ := hrel
      have HBA := Lib.hid hBA
      obtain ⟨x0, x1, x2, x3, b0, b1, g0, g1⟩ := HX.out
      replace x0 := hBA.bel.cell x0
      replace x1 := hBA.bel.cell x1
      replace x2 := hBA.bel.cell x2
      replace x3 := hBA.bel.cell x3
      have lx := cell_lt x0
      clear hBA b0 b1 g0 g1
      by_cases hlt : k < T
      · have hlti : (k : Int) < (T : Int) := by omega
        have HVr := Lib.hid (HV.out.bel (HB1.out.trans HBA.out.bel))
        go_wp2_with fail
        refine (HD.out _ HVr.out).mono ?_
        rintro e w3 ⟨rfl, hb3⟩
        have HB3 := Lib.hid (HBA.out.step hb3)
        clear hb3 x0 x1 x2 x3 lx HVr HBA
        by_cases hd : dd = 0
        · have hk0 : k = 0 := hz.out hd
          subst hk0
          have hdf : decide (0 < dd) = false := decide_eq_false (by omega)
          have HE3 : Hid (askE t = 3) := Lib.hid (by rw [HAE.out, if_pos (.inr hd)])
          have HV0 : Hid (askV t = (0, 0)) := Lib.hid (by rw [HAV.out, if_neg (by rw [HE3.out]; omega)])
          have HR0 := Lib.hid (show askRun t (plTo C T 0) = ((0, 0), -1) from rfl)
          rw [HR0.out]
          obtain ⟨x0, x1, x2, x3, b0, b1, g0, g1⟩ := HX.out
          replace b0 := HB3.out.bel.cell b0
          replace b1 := HB3.out.bel.cell b1
          replace g0 := (HB3.out.bel.frozens ⟨w.heap.size + 1, 0, none⟩ lb).trans g0
          replace g1 := (HB3.out.bel.frozens ⟨w.heap.size + 1, 1, none⟩ lb).trans g1
          have lb3 := cell_lt b0
          obtain ⟨y0, y1⟩ := two_cells (u0 := .int .i64 0) (u1 := .int .i64 0) b0 b1
          have HF : Hid (Bel w ((w3.setCell ⟨w.heap.size + 1, 0, none⟩ (.int .i64 0)).setCell ⟨w.heap.size + 1, 1, none⟩ (.int .i64 0))) := Lib.hid (((HB1.out.trans HB3.out.bel).setCell (p := ⟨w.heap.size + 1, 0, none⟩) (by show _ ≤ w.heap.size + 1; omega) _).setCell (p := ⟨w.heap.size + 1, 1, none⟩) (by show _ ≤ w.heap.size + 1; omega) _)
          clear x0 x1 x2 x3 hd hz
          go_wp2
          exact rask_end (x := 0) (y := 0) (er := 3) (by simp [results, Try.f57, go_sem, y0, y1]) rfl HE3.out HV0.out HF.out
        · have hdt : decide (0 < dd) = true := decide_eq_true (by omega)
          go_wp2
          go_loopw [6, 8] (fun s6 s8 wr => ∃ m : Nat, m ≤ C ∧ s6 = .int .i64 (askRun t (plTo C T k ++ rowTo C T k m)).2 ∧ s8 = .int .i64 m ∧ BestAt w1 (askRun t (plTo C T k ++ rowTo C T k m)).1 wr) (fun _ s8 _ => C - (intOf s8).toNat)
          case atStart => exact ⟨0, by omega, by show _ = Value.int .i64 (askRun t (plTo C T k ++ [])).2; rw [List.append_nil], rfl, by show BestAt w1 (askRun t (plTo C T k ++ [])).1 _; rw [List.append_nil]; exact HB3.out⟩
          case round =>
            clear HB3
            obtain ⟨m, hm, rfl, rfl, hBA⟩ := hrel
            have HBA := Lib.hid hBA
            obtain ⟨x0, x1, x2, x3, b0, b1, g0, g1⟩ := HX.out
            replace x0 := hBA.bel.cell x0
            replace x1 := hBA.bel.cell x1
            replace x2 := hBA.bel.cell x2
            replace x3 := hBA.bel.cell x3
            have lx := cell_lt x0
            clear hBA b0 b1 g0 g1
            by_cases hltm : m < C
            · have hltmi : (m : Int) < (C : Int) := by omega
              by_cases hlast : k + 1 = T ∧ m + 1 = C
              · have HR := Lib.hid (rowTo_last (C := C) (T := T) (i := k) (c := m) hlast)
                have e1 : ((k : Int) == (T : Int) - 1) = true := by simp; omega
                have e2 : ((m : Int) == (C : Int) - 1) = true := by simp; omega
                have HS := Lib.hid (HBA.out.step ((Bel.refl wr).alloc (.cells #[.int .i64 (k : Int), .int .i64 (m : Int)] 27)))
                clear hlast
                go_wp2
                go_roundw
                case rel => exact ⟨m + 1, by omega, by rw [HR.out], by go_num, by rw [HR.out]; exact HS.out⟩
                case measure => simp [intOf]; omega
              · have HR := Lib.hid (rowTo_step (C := C) (T := T) (i := k) (c := m) hlast)
                have HS := Lib.hid (HTS.out (plTo C T k ++ rowTo C T k m) (k, m))
                have HTK := Lib.hid (HT.out k m hlt hltm)
                have HVr := Lib.hid (HV.out.bel (HB1.out.trans HBA.out.bel))
                simp only [] at HS
                generalize tellR t (k : Int) (m : Int) = nn at *
                generalize hr0 : askRun t (plTo C T k ++ rowTo C T k m) = r0 at *
                clear hr0
                have fin : ∀ wx, BestAt w1 r0.1 wx → (¬ (r0.2 < 0 ∨ nn < r0.2)) → Hid (askRun t (plTo C T k ++ rowTo C T k (m + 1)) = r0) := fun wx _ h => Lib.hid (by rw [HR.out, ← List.append_assoc, HS.out, if_neg h])
                have fiy : (r0.2 < 0 ∨ nn < r0.2) → Hid (askRun t (plTo C T k ++ rowTo C T k (m + 1)) = (((k : Int), (m : Int)), nn)) := fun h => Lib.hid (by rw [HR.out, ← List.append_assoc, HS.out, if_pos h])
                have hpl : ((k : Int) == (T : Int) - 1) = false ∨ (((k : Int) == (T : Int) - 1) = true ∧ ((m : Int) == (C : Int) - 1) = false) := by
                  by_cases q : k + 1 = T
                  · exact .inr ⟨by simp; omega, by simp; omega⟩
                  · exact .inl (by simp; omega)
                clear hlast HR HS
                rcases hpl with e1 | ⟨e1, e2⟩
                all_goals
                  go_wp2_with fail
                  refine (HTK.out _ (HVr.out.bel (by repeat (first | assumption | exact Bel.refl _ | refine Bel.drew ?_ | refine Bel.drewN ?_ _ | refine Bel.alloc ?_ _ | refine Bel.setCell ?_ (by simp <;> omega) _ | refine Bel.trans ?_ (by assumption))))).mono ?_
                  rintro e w4 ⟨rfl, hb4⟩
                  have HB4 := Lib.hid (HBA.out.step (Bel.trans (by repeat (first | assumption | exact Bel.refl _ | refine Bel.drew ?_ | refine Bel.drewN ?_ _ | refine Bel.alloc ?_ _ | refine Bel.setCell ?_ (by simp <;> omega) _ | refine Bel.trans ?_ (by assumption))) hb4))
                  have p0 : w4.cell? ⟨wr.heap.size, 0, none⟩ = some (.int .i64 (k : Int)) := hb4.cell ((row_facts (new_row rfl)).1 0)
                  have p1 : w4.cell? ⟨wr.heap.size, 1, none⟩ = some (.int .i64 (m : Int)) := hb4.cell ((row_facts (new_row rfl)).1 1)
                  have lp := cell_lt p0
                  have u0 := HB4.out.c0
                  have u1 := HB4.out.c1
                  have v0 := HB4.out.f0
                  have v1 := HB4.out.f1
                  clear hb4 x0 x1 x2 x3 lx
                  by_cases q1 : r0.2 < 0
                  · have q1d : decide (r0.2 < 0) = true := decide_eq_true q1
                    have HY := fiy (.inl q1)
                    clear fin fiy
                    go_wp2
                    go_roundw
                    case rel => exact ⟨m + 1, by omega, by rw [HY.out], by go_num, by rw [HY.out]; exact HB4.out.put _ _⟩
                    case measure => simp [intOf]; omega
                  · have q1d : decide (r0.2 < 0) = false := decide_eq_false q1
                    by_cases q2 : nn < r0.2
                    · have q2d : decide (nn < r0.2) = true := decide_eq_true q2
                      have HY := fiy (.inr q2)
                      clear fin fiy
                      go_wp2
                      go_roundw
                      case rel => exact ⟨m + 1, by omega, by rw [HY.out], by go_num, by rw [HY.out]; exact HB4.out.put _ _⟩
                      case measure => simp [intOf]; omega
                    · have q2d : decide (nn < r0.2) = false := decide_eq_false q2
                      have HY := fin _ HB4.out (by omega)
                      clear fin fiy
                      go_wp2
                      go_roundw
                      case rel => exact ⟨m + 1, by omega, by rw [HY.out], by go_num, by rw [HY.out]; exact HB4.out⟩
                      case measure => simp [intOf]; omega
            · obtain rfl : m = C := by omega
              have HPL := Lib.hid (show plTo m T (k + 1) = plTo m T k ++ rowTo m T k m from rfl)
              go_wp2
              go_roundw
              case rel => exact ⟨k + 1, by omega, by rw [HPL.out], by go_num, by rw [HPL.out]; exact HBA.out, Lib.hid (fun h => absurd h hd)⟩
              case measure => simp [intOf]; omega
      · obtain rfl : k = T := by omega
        have hd : dd ≠ 0 := fun h => by have := hz.out h; omega
        obtain ⟨x0', x1', x2', x3', b0, b1, g0, g1⟩ := HX.out
        replace b0 := HBA.out.bel.cell b0
        replace b1 := HBA.out.bel.cell b1
        replace g0 := (HBA.out.bel.frozens ⟨w.heap.size + 1, 0, none⟩ lb).trans g0
        replace g1 := (HBA.out.bel.frozens ⟨w.heap.size + 1, 1, none⟩ lb).trans g1
        have lb3 := cell_lt b0
        clear x0' x1' x2' x3'
        generalize askRun t (plTo C k k) = r0 at *
        have u0 := HBA.out.c0
        have u1 := HBA.out.c1
        have lu := cell_lt u0
        by_cases q1 : r0.2 < 0
        · have q1d : decide (r0.2 < 0) = true := decide_eq_true q1
          have HE3 : Hid (askE t = 3) := Lib.hid (by rw [HAE.out, if_pos (.inl q1)])
          have HV0 : Hid (askV t = (0, 0)) := Lib.hid (by rw [HAV.out, if_neg (by rw [HE3.out]; omega)])
          obtain ⟨y0, y1⟩ := two_cells (u0 := .int .i64 0) (u1 := .int .i64 0) b0 b1
          have HF : Hid (Bel w ((wr.setCell ⟨w.heap.size + 1, 0, none⟩ (.int .i64 0)).setCell ⟨w.heap.size + 1, 1, none⟩ (.int .i64 0))) := Lib.hid (((HB1.out.trans HBA.out.bel).setCell (p := ⟨w.heap.size + 1, 0, none⟩) (by show _ ≤ w.heap.size + 1; omega) _).setCell (p := ⟨w.heap.size + 1, 1, none⟩) (by show _ ≤ w.heap.size + 1; omega) _)
          clear hd hz
          go_wp2
          exact rask_end (x := 0) (y := 0) (er := 3) (by simp [results, Try.f57, go_sem, y0, y1]) rfl HE3.out HV0.out HF.out
        · have q1d : decide (r0.2 < 0) = false := decide_eq_false q1
          have HE3 : Hid (askE t = 0) := Lib.hid (by rw [HAE.out, if_neg (by omega)])
          have HV0 : Hid (askV t = (r0.1.1, r0.1.2)) := Lib.hid (by rw [HAV.out, if_pos HE3.out])
          obtain ⟨y0, y1⟩ := two_cells (u0 := .int .i64 r0.1.1) (u1 := .int .i64 r0.1.2) b0 b1
          have HF : Hid (Bel w ((wr.setCell ⟨w.heap.size + 1, 0, none⟩ (.int .i64 r0.1.1)).setCell ⟨w.heap.size + 1, 1, none⟩ (.int .i64 r0.1.2))) := Lib.hid (((HB1.out.trans HBA.out.bel).setCell (p := ⟨w.heap.size + 1, 0, none⟩) (by show _ ≤ w.heap.size + 1; omega) _).setCell (p := ⟨w.heap.size + 1, 1, none⟩) (by show _ ≤ w.heap.size + 1; omega) _)
          clear hd hz
          go_wp2
          exact rask_end (x := r0.1.1) (y := r0.1.2) (er := 0) (by simp [results, Try.f57, go_sem, y0, y1]) rfl HE3.out HV0.out HF.out
  · have hne : (errR t true != 0) = true := by rw [bne_iff_ne]; exact he
    have HE := Lib.hid (show askE t = errR t true by unfold askE; rw [if_pos he])
    have HV0 := Lib.hid (show askV t = (0, 0) by unfold askV; rw [if_neg (by rw [HE.out]; exact he)])
    obtain ⟨ov, wv, rfl, ⟨a, cc, b, off, rv, rfl, _⟩, ⟨wa, wc, wb, woff, rfl, _⟩⟩ := hv
    generalize errR t true = er at *
    clear he
    go_enter Try.func57, Try.ntmps57
    go_wp2_with fail
    refine (HK.out _ (HV.out.bel (by repeat (first | assumption | exact Bel.refl _ | refine Bel.drew ?_ | refine Bel.drewN ?_ _ | refine Bel.alloc ?_ _ | refine Bel.setCell ?_ (by simp <;> omega) _ | refine Bel.trans ?_ (by assumption))))).mono ?_
    rintro e w1 ⟨rfl, hb⟩
    have b0 : w1.cell? ⟨w.heap.size + 1, 0, none⟩ = some (.int .i64 0) := hb.cell ((row_facts (new_row (by simp))).1 0)
    have b1 : w1.cell? ⟨w.heap.size + 1, 1, none⟩ = some (.int .i64 0) := hb.cell ((row_facts (new_row (by simp))).1 1)
    have g : ∀ o, w1.frozen? ⟨w.heap.size + 1, o, none⟩ = false := fun o => (hb.frozens ⟨w.heap.size + 1, o, none⟩ (by simp)).trans ((row_facts (new_row (by simp))).2 o)
    have g0 := g 0
    have g1 := g 1
    have lb := cell_lt b0
    have HB1 := Lib.hid (show Bel w w1 from Bel.trans (by repeat (first | assumption | exact Bel.refl _ | refine Bel.drew ?_ | refine Bel.drewN ?_ _ | refine Bel.alloc ?_ _ | refine Bel.setCell ?_ (by simp <;> omega) _ | refine Bel.trans ?_ (by assumption))) hb)
    obtain ⟨y0, y1⟩ := two_cells (u0 := .int .i64 0) (u1 := .int .i64 0) b0 b1
    have HF : Hid (Bel w ((w1.setCell ⟨w.heap.size + 1, 0, none⟩ (.int .i64 0)).setCell ⟨w.heap.size + 1, 1, none⟩ (.int .i64 0))) := Lib.hid ((HB1.out.setCell (p := ⟨w.heap.size + 1, 0, none⟩) (by show _ ≤ w.heap.size + 1; omega) _).setCell (p := ⟨w.heap.size + 1, 1, none⟩) (by show _ ≤ w.heap.size + 1; omega) _)
    clear hb g
    go_wp2
    exact rask_end (x := 0) (y := 0) (er := er) (by simp [results, Try.f57, go_sem, y0, y1]) rfl HE.out HV0.out HF.out
end Go.Proofs.Ytoiajjdhgffdaaa
namespace Go.Proofs.Ytoiajjdhgffdaaa
open Go Go.RowKit
set_option maxHeartbeats 4000000
set_option maxRecDepth 100000
theorem RIdle_any (t : CT) (v : Value) (w : World) (hv : TrapAt w v t) (hroom : Room t) : Calls Try.prog 58 #[v] w (IdlePost t w) := by
  have HV := Lib.hid hv
  have HKN := Lib.hid (fun wx hx => known_any t v true wx hx)
  have HWO := Lib.hid (fun (n : Nat) (hn : n < t.ws.length) wx hx => Without_any t v n wx hx hroom hn)
  obtain ⟨ov, wv, rfl, ⟨a, cc, b, off, rv, rfl, _⟩, ⟨wa, wc, wb, woff, rfl, hwa, hwlen, hwc⟩⟩ := hv
  by_cases he : errR t true = 0
  · have HE := Lib.hid he
    rw [he] at HKN
    obtain ⟨hval, _, hone⟩ := errR_zero he
    have hf := fit_of_valid hval
    have HF := Lib.hid hf
    obtain ⟨f1, f2, f3, f4, f5, _⟩ := fit_of_valid hval
    have hw8 : t.ws.length ≤ 8 := (validB_bounds hval).2.2.2.1
    have HFO : Hid (∀ (n : Nat) (hn : n < t.ws.length) (vo : Value) (wx : World), TrapAt wx vo (without t n) → Calls Try.prog 85 #[vo, .int .i64 (atW t.ws n).time, .int .i64 (atW t.ws n).chamber] wx fun e w' => e = .returned (.agg #[.int .i64 (skLo t n (atW t.ws n).time (atW t.ws n).chamber), .int .i64 (skHi t n (atW t.ws n).time (atW t.ws n).chamber)]) ∧ Bel wx w') := Lib.hid (fun n hn vo wx hx => by
      have hxw : isWordB t.C t.T (atW t.ws n) = true := allB_iff.1 hf.wb n hn
      obtain ⟨⟨b1, b2⟩, ⟨b3, b4⟩, _⟩ := isWordB_bounds hf.c1 hf.c2 hf.t1 hf.t2 hxw
      have et : (((atW t.ws n).time.toNat : Nat) : Int) = (atW t.ws n).time := by omega
      have ec : (((atW t.ws n).chamber.toNat : Nat) : Int) = (atW t.ws n).chamber := by omega
      obtain ⟨e1, e2⟩ := sk_eq hf hn (one_skip hn hone) (atW t.ws n).time.toNat (atW t.ws n).chamber.toNat (by omega) (by omega)
      rw [et, ec] at e1 e2
      rw [e1, e2]
      have hl := without_len hn
      refine FishOf_any (without t n) vo _ _ wx hx (fit_without hf hn) (by omega) (by obtain ⟨y, hy⟩ := one_skip hn hone; exact ⟨y, (sat_without hn).2 hy⟩) ?_
      show isPlaceB t.C t.T _ _ = true
      unfold isPlaceB isTimeB
      simp only [Bool.and_eq_true, withinB_true]
      rw [wrap64_in (t.T - 1) (by omega), wrap64_in (t.C - 1) (by omega)]
      omega)
    have hixw := idxWords (c := wc) hwa
    have HWC := Lib.hid hwc
    obtain ⟨i1, hi1, hz1, hs1, hb1⟩ := info_parts mkInt
    have HI1 := Lib.hid hi1
    have HZ1 := Lib.hid hz1
    clear hi1 hz1 he hval hone hf f5 hwa hwc
    go_enter Try.func58, Try.ntmps58
    go_wp2_with fail
    refine (HKN.out _ (HV.out.bel (by repeat (first | assumption | exact Bel.refl _ | refine Bel.drew ?_ | refine Bel.drewN ?_ _ | refine Bel.alloc ?_ _ | refine Bel.setCell ?_ (by simp <;> omega) _ | refine Bel.trans ?_ (by assumption))))).mono ?_
    rintro e w1 ⟨rfl, hb⟩
    have x0 : w1.cell? ⟨w.heap.size, 0, none⟩ = some (.int .i64 t.C) := hb.cell ((row_facts (new_row rfl)).1 0)
    have x1 : w1.cell? ⟨w.heap.size, 1, none⟩ = some (.int .i64 t.T) := hb.cell ((row_facts (new_row rfl)).1 1)
    have x2 : w1.cell? ⟨w.heap.size, 2, none⟩ = some (.slice a t.op.length cc) := hb.cell ((row_facts (new_row rfl)).1 2)
    have x3 : w1.cell? ⟨w.heap.size, 3, none⟩ = some (.slice wa t.ws.length wc) := hb.cell ((row_facts (new_row rfl)).1 3)
    have HX := Lib.hid (And.intro x0 (And.intro x1 (And.intro x2 x3)))
    have HB1 := Lib.hid (show Bel w w1 from Bel.trans (by repeat (first | assumption | exact Bel.refl _ | refine Bel.drew ?_ | refine Bel.drewN ?_ _ | refine Bel.alloc ?_ _ | refine Bel.setCell ?_ (by simp <;> omega) _ | refine Bel.trans ?_ (by assumption))) hb)
    clear hb x0 x1 x2 x3
    go_wp2
    go_loopw [5, 6] (fun V i wr => ∃ n : Nat, n ≤ t.ws.length ∧ i = .int .i64 n ∧ IntSt (idleTo t n) w1 V wr) (fun _ i _ => t.ws.length - (intOf i).toNat)
    case atStart => exact ⟨0, by omega, rfl, IntSt.start w1⟩
    case round =>
      obtain ⟨n, hn, rfl, hR⟩ := hrel
      have HR := Lib.hid hR
      clear hR
      obtain ⟨x0, x1, x2, x3⟩ := HX.out
      replace x0 := HR.out.bel.cell x0
      replace x1 := HR.out.bel.cell x1
      replace x2 := HR.out.bel.cell x2
      replace x3 := HR.out.bel.cell x3
      by_cases hlt : n < t.ws.length
      · have hnl : (n : Int) < (t.ws.length : Int) := by omega
        obtain ⟨c0, c1, c2, c3⟩ := HWC.out n hlt
        have HBR := Lib.hid (HB1.out.trans HR.out.bel)
        replace c0 := HBR.out.cell c0
        replace c1 := HBR.out.cell c1
        replace c2 := HBR.out.cell c2
        replace c3 := HBR.out.cell c3
        have HID := Lib.hid (show idleB t n = (decide ((atW t.ws n).low ≤ skLo t n (atW t.ws n).time (atW t.ws n).chamber) && decide (skHi t n (atW t.ws n).time (atW t.ws n).chamber ≤ (atW t.ws n).high)) from rfl)
        have HFN := Lib.hid (HFO.out n hlt)
        have HWN := Lib.hid (HWO.out n hlt)
        generalize atW t.ws n = x at *
        go_wp2
        generalize hWb : wr.alloc _ = Wb
        have hBb : Bel wr Wb := by rw [← hWb]; exact (Bel.refl wr).alloc _
        have b0 : Wb.cell? ⟨wr.heap.size, 0, none⟩ = some (.int .i64 x.time) := by rw [← hWb]; exact (row_facts (new_row rfl)).1 0
        have b1 : Wb.cell? ⟨wr.heap.size, 1, none⟩ = some (.int .i64 x.chamber) := by rw [← hWb]; exact (row_facts (new_row rfl)).1 1
        have b2 : Wb.cell? ⟨wr.heap.size, 2, none⟩ = some (.int .i64 x.low) := by rw [← hWb]; exact (row_facts (new_row rfl)).1 2
        have b3 : Wb.cell? ⟨wr.heap.size, 3, none⟩ = some (.int .i64 x.high) := by rw [← hWb]; exact (row_facts (new_row rfl)).1 3
        have lb0 := cell_lt b0
        have HRB := Lib.hid (HR.out.keep hBb)
        have HBB := Lib.hid (HBR.out.trans hBb)
        replace x0 := hBb.cell x0
        replace x1 := hBb.cell x1
        replace x2 := hBb.cell x2
        replace x3 := hBb.cell x3
        have lx0 := cell_lt x0
        clear hWb hBb c0 c1 c2 c3
        generalize skLo t n x.time x.chamber = lo at *
        generalize skHi t n x.time x.chamber = hi at *
        have HVB := Lib.hid (HV.out.bel HBB.out)
        go_upto_region 9 with fail
        go_cut [8] (fun s9 wx => ∃ p : Nat, s9 = .pointer (some ⟨p, 0, none⟩) ∧ Bel Wb wx ∧ wx.cell? ⟨p, 0, none⟩ = some (.int .i64 lo) ∧ wx.cell? ⟨p, 1, none⟩ = some (.int .i64 hi))
        case first =>
          refine wp_region_mixB (Plan.seq [0, 1, 3, 4, 5, 6] (.both 2 (.both 7 (Plan.seq [1008, 1009] .nil) 8 (Plan.seq [1007, 1009] .nil)) 8 (Plan.seq [1002, 1007, 1009] .nil))) (by kernel_rfl) (by kernel_rfl) (fun hcur => ?_)
          simp only [Plan.seq, Plan.fill, List.getD_cons_zero, List.getD_cons_succ, Nat.reduceLT, ↓reduceIte, Nat.reduceSub]
          apply mix_pure _ rfl
          · intro w' hw'
            have hcr := hw'.cells
            go_simp
            rfl
          intro K hK
          go_simp
          refine hK _ ?_
          clear hK K
          apply mix_pure _ rfl
          · intro w' hw'
            have hcr := hw'.cells
            go_simp
            rfl
          intro K hK
          go_simp
          refine hK _ ?_
          clear hK K
          apply mix_pure _ rfl
          · intro w' hw'
            have hcr := hw'.cells
            go_simp
            rfl
          intro K hK
          go_simp
          refine hK _ ?_
          clear hK K
          apply mix_pure _ rfl
          · intro w' hw'
            have hcr := hw'.cells
            go_simp
            rfl
          intro K hK
          go_simp
          refine hK _ ?_
          clear hK K
          apply mix_pure _ rfl
          · intro w' hw'
            have hcr := hw'.cells
            go_simp
            rfl
          intro K hK
          go_simp
          refine hK _ ?_
          clear hK K
          apply mix_pure _ rfl
          · intro w' hw'
            have hcr := hw'.cells
            go_simp
            rfl
          intro K hK
          go_simp
          refine hK _ ?_
          clear hK K
          refine mix_both ?_ ?_
          · refine mix_act rfl (fun K hK => ?_)
            go_simp
            refine (HWN.out _ (HVB.out.bel hcur)).mono ?_
            rintro e w5 ⟨vo, rfl, hb, hT⟩
            have hcr5 := hb.cells
            have hfr5 := hb.frozens
            have hz5 := hb.szle
            (try simp only [World.size_drew] at hz5)
            have z5 : Wb.heap.size ≤ w5.heap.size := Nat.le_trans hcur.szle hb.szle
            try have z5b : Wb.heap.size < w5.heap.size := by omega
            simp only []
            refine hK _ _ (hcur.trans hb) (fun hcur => ?_)
            clear hK K
            refine mix_both ?_ ?_
            · refine mix_act rfl (fun K hK => ?_)
              go_simp
              refine (HFN.out _ _ (hT.bel (by repeat (first | assumption | exact Bel.refl _ | refine Bel.drew ?_ | refine Bel.drewN ?_ _ | refine Bel.alloc ?_ _ | refine Bel.setCell ?_ (by simp <;> omega) _ | refine Bel.trans ?_ (by assumption))))).mono ?_
              rintro e w6 ⟨rfl, hb⟩
              have hcr6 := hb.cells
              have hfr6 := hb.frozens
              have hz6 := hb.szle
              (try simp only [World.size_alloc, World.size_drew, World.size_setCell, World.heap_drewN] at hz6)
              have z6 : Wb.heap.size ≤ w6.heap.size := Nat.le_trans hcur.szle hb.szle
              try have z6a : w5.heap.size < w6.heap.size := by omega
              try have z6b : Wb.heap.size < w6.heap.size := by omega
              simp only []
              refine hK _ _ (hcur.trans hb) (fun hcur => ?_)
              clear hK K
              refine mix_act rfl (fun K hK => ?_)
              go_simp
              refine hK _ _ (by repeat (first | assumption | exact Bel.refl _ | refine Bel.drew ?_ | refine Bel.drewN ?_ _ | refine Bel.alloc ?_ _ | refine Bel.setCell ?_ (by simp <;> omega) _ | refine Bel.trans ?_ (by assumption))) (fun hcur => ?_)
              clear hK K
              refine mix_act rfl (fun K hK => ?_)
              go_simp
              refine hK _ _ (by repeat (first | assumption | exact Bel.refl _ | refine Bel.drew ?_ | refine Bel.drewN ?_ _ | refine Bel.alloc ?_ _ | refine Bel.setCell ?_ (by simp <;> omega) _ | refine Bel.trans ?_ (by assumption))) (fun hcur => ?_)
              clear hK K
              refine mix_nil ?_
              go_wp2_with fail
              go_meet
              first
                | exact ⟨_, rfl, (by repeat (first | assumption | exact Bel.refl _ | refine Bel.drew ?_ | refine Bel.drewN ?_ _ | refine Bel.alloc ?_ _ | refine Bel.setCell ?_ (by simp <;> omega) _ | refine Bel.trans ?_ (by assumption))), (row_facts (new_row rfl)).1 0, (row_facts (new_row rfl)).1 1⟩
                | (have q0 : w6.cell? ⟨w5.heap.size, 0, none⟩ = some (.int .i64 0) := (hcr6 ⟨w5.heap.size, 0, none⟩ (by simp)).trans ((row_facts (new_row rfl)).1 0)
                   have q1 : w6.cell? ⟨w5.heap.size, 1, none⟩ = some (.int .i64 0) := (hcr6 ⟨w5.heap.size, 1, none⟩ (by simp)).trans ((row_facts (new_row rfl)).1 1)
                   exact ⟨_, rfl, (by repeat (first | assumption | exact Bel.refl _ | refine Bel.drew ?_ | refine Bel.drewN ?_ _ | refine Bel.alloc ?_ _ | refine Bel.setCell ?_ (by simp <;> omega) _ | refine Bel.trans ?_ (by assumption))), (set2at q0 q1).1, (set2at q0 q1).2⟩)
                | (have q0 : w6.cell? ⟨Wb.heap.size, 0, none⟩ = some (.int .i64 0) := (hcr6 ⟨Wb.heap.size, 0, none⟩ z5b).trans ((hcr5 ⟨Wb.heap.size, 0, none⟩ (by simp)).trans ((row_facts (new_row rfl)).1 0))
                   have q1 : w6.cell? ⟨Wb.heap.size, 1, none⟩ = some (.int .i64 0) := (hcr6 ⟨Wb.heap.size, 1, none⟩ z5b).trans ((hcr5 ⟨Wb.heap.size, 1, none⟩ (by simp)).trans ((row_facts (new_row rfl)).1 1))
                   exact ⟨_, rfl, (by repeat (first | assumption | exact Bel.refl _ | refine Bel.drew ?_ | refine Bel.drewN ?_ _ | refine Bel.alloc ?_ _ | refine Bel.setCell ?_ (by simp <;> omega) _ | refine Bel.trans ?_ (by assumption))), (set2at q0 q1).1, (set2at q0 q1).2⟩)
            · refine mix_act rfl (fun K hK => ?_)
              go_simp
              refine hK _ _ (by repeat (first | assumption | exact Bel.refl _ | refine Bel.drew ?_ | refine Bel.drewN ?_ _ | refine Bel.alloc ?_ _ | refine Bel.setCell ?_ (by simp <;> omega) _ | refine Bel.trans ?_ (by assumption))) (fun hcur => ?_)
              clear hK K
              refine mix_act rfl (fun K hK => ?_)
              go_simp
              refine (HFN.out _ _ (hT.bel (by repeat (first | assumption | exact Bel.refl _ | refine Bel.drew ?_ | refine Bel.drewN ?_ _ | refine Bel.alloc ?_ _ | refine Bel.setCell ?_ (by simp <;> omega) _ | refine Bel.trans ?_ (by assumption))))).mono ?_
              rintro e w6 ⟨rfl, hb⟩
              have hcr6 := hb.cells
              have hfr6 := hb.frozens
              have hz6 := hb.szle
              (try simp only [World.size_alloc] at hz6)
              have z6 : Wb.heap.size ≤ w6.heap.size := Nat.le_trans hcur.szle hb.szle
              try have z6a : w5.heap.size < w6.heap.size := by omega
              try have z6b : Wb.heap.size < w6.heap.size := by omega
              simp only []
              refine hK _ _ (hcur.trans hb) (fun hcur => ?_)
              clear hK K
              refine mix_act rfl (fun K hK => ?_)
              go_simp
              refine hK _ _ (by repeat (first | assumption | exact Bel.refl _ | refine Bel.drew ?_ | refine Bel.drewN ?_ _ | refine Bel.alloc ?_ _ | refine Bel.setCell ?_ (by simp <;> omega) _ | refine Bel.trans ?_ (by assumption))) (fun hcur => ?_)
              clear hK K
              refine mix_nil ?_
              go_wp2_with fail
              go_meet
              first
                | exact ⟨_, rfl, (by repeat (first | assumption | exact Bel.refl _ | refine Bel.drew ?_ | refine Bel.drewN ?_ _ | refine Bel.alloc ?_ _ | refine Bel.setCell ?_ (by simp <;> omega) _ | refine Bel.trans ?_ (by assumption))), (row_facts (new_row rfl)).1 0, (row_facts (new_row rfl)).1 1⟩
                | (have q0 : w6.cell? ⟨w5.heap.size, 0, none⟩ = some (.int .i64 0) := (hcr6 ⟨w5.heap.size, 0, none⟩ (by simp)).trans ((row_facts (new_row rfl)).1 0)
                   have q1 : w6.cell? ⟨w5.heap.size, 1, none⟩ = some (.int .i64 0) := (hcr6 ⟨w5.heap.size, 1, none⟩ (by simp)).trans ((row_facts (new_row rfl)).1 1)
                   exact ⟨_, rfl, (by repeat (first | assumption | exact Bel.refl _ | refine Bel.drew ?_ | refine Bel.drewN ?_ _ | refine Bel.alloc ?_ _ | refine Bel.setCell ?_ (by simp <;> omega) _ | refine Bel.trans ?_ (by assumption))), (set2at q0 q1).1, (set2at q0 q1).2⟩)
                | (have q0 : w6.cell? ⟨Wb.heap.size, 0, none⟩ = some (.int .i64 0) := (hcr6 ⟨Wb.heap.size, 0, none⟩ z5b).trans ((hcr5 ⟨Wb.heap.size, 0, none⟩ (by simp)).trans ((row_facts (new_row rfl)).1 0))
                   have q1 : w6.cell? ⟨Wb.heap.size, 1, none⟩ = some (.int .i64 0) := (hcr6 ⟨Wb.heap.size, 1, none⟩ z5b).trans ((hcr5 ⟨Wb.heap.size, 1, none⟩ (by simp)).trans ((row_facts (new_row rfl)).1 1))
                   exact ⟨_, rfl, (by repeat (first | assumption | exact Bel.refl _ | refine Bel.drew ?_ | refine Bel.drewN ?_ _ | refine Bel.alloc ?_ _ | refine Bel.setCell ?_ (by simp <;> omega) _ | refine Bel.trans ?_ (by assumption))), (set2at q0 q1).1, (set2at q0 q1).2⟩)
          · refine mix_act rfl (fun K hK => ?_)
            go_simp
            refine hK _ _ (by repeat (first | assumption | exact Bel.refl _ | refine Bel.drew ?_ | refine Bel.drewN ?_ _ | refine Bel.alloc ?_ _ | refine Bel.setCell ?_ (by simp <;> omega) _ | refine Bel.trans ?_ (by assumption))) (fun hcur => ?_)
            clear hK K
            refine mix_act rfl (fun K hK => ?_)
            go_simp
            refine (HWN.out _ (HVB.out.bel hcur)).mono ?_
            rintro e w5 ⟨vo, rfl, hb, hT⟩
            have hcr5 := hb.cells
            have hfr5 := hb.frozens
            have hz5 := hb.szle
            (try simp only [World.size_alloc, World.size_drew] at hz5)
            have z5 : Wb.heap.size ≤ w5.heap.size := Nat.le_trans hcur.szle hb.szle
            try have z5b : Wb.heap.size < w5.heap.size := by omega
            simp only []
            refine hK _ _ (hcur.trans hb) (fun hcur => ?_)
            clear hK K
            refine mix_act rfl (fun K hK => ?_)
            go_simp
            refine (HFN.out _ _ (hT.bel (by repeat (first | assumption | exact Bel.refl _ | refine Bel.drew ?_ | refine Bel.drewN ?_ _ | refine Bel.alloc ?_ _ | refine Bel.setCell ?_ (by simp <;> omega) _ | refine Bel.trans ?_ (by assumption))))).mono ?_
            rintro e w6 ⟨rfl, hb⟩
            have hcr6 := hb.cells
            have hfr6 := hb.frozens
            have hz6 := hb.szle
            (try simp only [World.size_alloc, World.size_drew, World.size_setCell, World.heap_drewN] at hz6)
            have z6 : Wb.heap.size ≤ w6.heap.size := Nat.le_trans hcur.szle hb.szle
            try have z6a : w5.heap.size < w6.heap.size := by omega
            try have z6b : Wb.heap.size < w6.heap.size := by omega
            simp only []
            refine hK _ _ (hcur.trans hb) (fun hcur => ?_)
            clear hK K
            refine mix_act rfl (fun K hK => ?_)
            go_simp
            refine hK _ _ (by repeat (first | assumption | exact Bel.refl _ | refine Bel.drew ?_ | refine Bel.drewN ?_ _ | refine Bel.alloc ?_ _ | refine Bel.setCell ?_ (by simp <;> omega) _ | refine Bel.trans ?_ (by assumption))) (fun hcur => ?_)
            clear hK K
            refine mix_nil ?_
            go_wp2_with fail
            go_meet
            first
              | exact ⟨_, rfl, (by repeat (first | assumption | exact Bel.refl _ | refine Bel.drew ?_ | refine Bel.drewN ?_ _ | refine Bel.alloc ?_ _ | refine Bel.setCell ?_ (by simp <;> omega) _ | refine Bel.trans ?_ (by assumption))), (row_facts (new_row rfl)).1 0, (row_facts (new_row rfl)).1 1⟩
              | (have q0 : w6.cell? ⟨w5.heap.size, 0, none⟩ = some (.int .i64 0) := (hcr6 ⟨w5.heap.size, 0, none⟩ (by simp)).trans ((row_facts (new_row rfl)).1 0)
                 have q1 : w6.cell? ⟨w5.heap.size, 1, none⟩ = some (.int .i64 0) := (hcr6 ⟨w5.heap.size, 1, none⟩ (by simp)).trans ((row_facts (new_row rfl)).1 1)
                 exact ⟨_, rfl, (by repeat (first | assumption | exact Bel.refl _ | refine Bel.drew ?_ | refine Bel.drewN ?_ _ | refine Bel.alloc ?_ _ | refine Bel.setCell ?_ (by simp <;> omega) _ | refine Bel.trans ?_ (by assumption))), (set2at q0 q1).1, (set2at q0 q1).2⟩)
              | (have q0 : w6.cell? ⟨Wb.heap.size, 0, none⟩ = some (.int .i64 0) := (hcr6 ⟨Wb.heap.size, 0, none⟩ z5b).trans ((hcr5 ⟨Wb.heap.size, 0, none⟩ (by simp)).trans ((row_facts (new_row rfl)).1 0))
                 have q1 : w6.cell? ⟨Wb.heap.size, 1, none⟩ = some (.int .i64 0) := (hcr6 ⟨Wb.heap.size, 1, none⟩ z5b).trans ((hcr5 ⟨Wb.heap.size, 1, none⟩ (by simp)).trans ((row_facts (new_row rfl)).1 1))
                 exact ⟨_, rfl, (by repeat (first | assumption | exact Bel.refl _ | refine Bel.drew ?_ | refine Bel.drewN ?_ _ | refine Bel.alloc ?_ _ | refine Bel.setCell ?_ (by simp <;> omega) _ | refine Bel.trans ?_ (by assumption))), (set2at q0 q1).1, (set2at q0 q1).2⟩)
        case rest =>
          obtain ⟨p, rfl, hBc, e0, e1⟩ := hcut
          replace b0 := hBc.cell b0
          replace b1 := hBc.cell b1
          replace b2 := hBc.cell b2
          replace b3 := hBc.cell b3
          have HRC := Lib.hid (HRB.out.keep hBc)
          clear x0 x1 x2 x3 lx0 lb0 hBc
          by_cases d1 : x.low ≤ lo
          · have q1 : decide (x.low ≤ lo) = true := decide_eq_true d1
            by_cases d2 : hi ≤ x.high
            · have q2 : decide (hi ≤ x.high) = true := decide_eq_true d2
              have HY := Lib.hid (idle_yes (t := t) (n := n) (by rw [HID.out, q1, q2]; rfl))
              have hll := (idleTo_facts t n).1
              go_wp2_with (at_builtin; refine wpList_append_where rfl _ _ 42 rfl 3 i1 (.int .i64 0) 1 8 Try.underlying42 HI1.out HZ1.out hs1 hb1 rfl (by decide) _ (idleTo t n).length ((idleTo t n).map (Value.int .i64)) rfl (ownsRow_bel HRC.out.own ((Bel.refl wc).alloc _)) ⟨wc.heap.size, 0, none⟩ 1 1 [.int .i64 n] rfl rfl (cell_one_new _ _ _) (fun y hy => by simp at hy; subst hy; rfl) (by unfold maxLen; omega) (by omega) ?_)
              intro V' w7 hown7 hgrow7 hwhere7
              have HN := Lib.hid (IntSt.next (HRC.out.keep ((Bel.refl wc).alloc _)) hown7 hgrow7 (by rw [World.size_alloc]; exact hwhere7))
              rw [← HY.out] at HN
              clear hown7 hgrow7 hwhere7
              go_wp2
              go_roundw
              case rel => exact ⟨n + 1, by omega, by go_num, HN.out⟩
              case measure => simp [intOf]; omega
            · have q2 : decide (hi ≤ x.high) = false := decide_eq_false d2
              have HY := Lib.hid (idle_no (t := t) (n := n) (by rw [HID.out, q1, q2]; rfl))
              have HN := Lib.hid HRC.out
              rw [← HY.out] at HN
              go_wp2
              go_roundw
              case rel => exact ⟨n + 1, by omega, by go_num, HN.out⟩
              case measure => simp [intOf]; omega
          · have q1 : decide (x.low ≤ lo) = false := decide_eq_false d1
            have HY := Lib.hid (idle_no (t := t) (n := n) (by rw [HID.out, q1]; rfl))
            have HN := Lib.hid HRC.out
            rw [← HY.out] at HN
            go_wp2
            go_roundw
            case rel => exact ⟨n + 1, by omega, by go_num, HN.out⟩
            case measure => simp [intOf]; omega
      · have hnl : n = t.ws.length := by omega
        subst hnl
        have HI := Lib.hid (ownInts (by have := (idleTo_facts t t.ws.length).1; omega) HR.out.own)
        have HB := Lib.hid (HB1.out.trans HR.out.bel)
        go_wp2
        exact bodyPost_ret (v := .tuple #[u5, .int .i64 0]) (by simp [results, Try.results58, go_sem, *]) rfl (.inr ⟨HE.out, _, rfl, HI.out, HB.out⟩)
  · have hne : (errR t true != 0) = true := by rw [bne_iff_ne]; exact he
    have HE := Lib.hid he
    clear he
    go_enter Try.func58, Try.ntmps58
    go_wp2_with fail
    refine (HKN.out _ (HV.out.bel (by repeat (first | assumption | exact Bel.refl _ | refine Bel.drew ?_ | refine Bel.drewN ?_ _ | refine Bel.alloc ?_ _ | refine Bel.setCell ?_ (by simp <;> omega) _ | refine Bel.trans ?_ (by assumption))))).mono ?_
    rintro e w1 ⟨rfl, hb⟩
    have HW1 := Lib.hid (show Bel w w1 from (Bel.refl w |>.alloc _).trans hb)
    clear hb
    go_wp2
    exact bodyPost_ret (v := .tuple #[.slice none 0 0, .int .i64 (errR t true)]) (by simp [results, Try.results58, go_sem, *]) rfl (.inl ⟨HE.out, rfl, HW1.out⟩)
end Go.Proofs.Ytoiajjdhgffdaaa
namespace Go.Proofs.Ytoiajjdhgffdaaa
open Go Go.RowKit
set_option maxHeartbeats 8000000
set_option maxRecDepth 100000
theorem far_huge {t : CT} (h : FarB t = false) : HugeB t = false := by
  unfold FarB at h
  cases e : HugeB t with
  | false => rfl
  | true => rw [e] at h; cases h
noncomputable def idleE (t : CT) : List Int := if errR t true = 0 then idleL t else []
theorem idle_fix {t : CT} {w w' : World} {e : Ending} (h : IdlePost t w e w') : ∃ v, e = .returned (.tuple #[v, .int .i64 (errR t true)]) ∧ IntsAt w' v (idleE t) ∧ Bel w w' := by
  unfold idleE
  rcases h with ⟨h1, h2, h3⟩ | ⟨h1, v, h2, h3, h4⟩
  · rw [if_neg h1]; exact ⟨_, h2, IntsAt.nil _, h3⟩
  · rw [if_pos h1, h1]; exact ⟨v, h2, h3, h4⟩
theorem CountsAsk_any (t : CT) (v : Value) (i k : Int) (w : World) (hv : TrapAt w v t) : Calls Try.prog 12 #[v, .agg #[.int .i64 i, .int .i64 k]] w fun e w' => e = .returned (.bool true) ∧ Bel w w' := by
  have HV := Lib.hid hv
  have HUG := Lib.hid (fun wx hx => Far_any t v wx hx)
  by_cases hh : FarB t = true
  · rw [hh] at HUG
    obtain ⟨ov, wv, rfl, ⟨a, c, b, off, rv, rfl, _⟩, ⟨wa, wc, wb, woff, rfl, _⟩⟩ := hv
    go_enter Try.func12, Try.ntmps12
    go_wp2_with (first
      | (go_at_call 52; refine (HUG.out _ (HV.out.bel (by repeat (first | assumption | exact Bel.refl _ | refine Bel.drew ?_ | refine Bel.drewN ?_ _ | refine Bel.alloc ?_ _ | refine Bel.setCell ?_ (by simp <;> omega) _ | refine Bel.trans ?_ (by assumption))))).mono ?_; rintro e w' ⟨rfl, hb⟩)
      | (go_at_call 18; refine (works_any _).mono ?_; rintro e w'' ⟨rfl, hb2⟩))
    go_ret
    exact ⟨rfl, (by repeat (first | assumption | exact Bel.refl _ | refine Bel.drew ?_ | refine Bel.drewN ?_ _ | refine Bel.alloc ?_ _ | refine Bel.setCell ?_ (by simp <;> omega) _ | refine Bel.trans ?_ (by assumption)))⟩
  · have hh : FarB t = false := by simpa using hh
    rw [hh] at HUG
    have hroom := room_small (far_huge hh)
    have HCP := Lib.hid (fun wx hx => (Copy_any t v wx hx hroom).mono fun e w' h => h.trap (by have := hroom.ws; omega))
    have HP0 := Lib.hid (fun (v' : Value) wx hx => Tell_any t v' i k wx hx)
    have HR0 := Lib.hid (fun wx hx => RTell_any t v i k wx hx hroom)
    have HP1 := Lib.hid (fun (v' : Value) wx hx => Ask_any t v' wx hx)
    have HR1 := Lib.hid (fun wx hx => RAsk_any t v wx hx hroom)
    have HP2 := Lib.hid (fun (v' : Value) wx hx => (Idle_any t v' wx hx).mono fun e w' h => idle_fix h)
    have HR2 := Lib.hid (fun wx hx => (RIdle_any t v wx hx hroom).mono fun e w' h => idle_fix h)
    have HSM := Lib.hid (fun va vb wx hx hy => (SameInts_any va vb (idleE t) (idleE t) wx hx hy).mono (R' := fun e w' => e = .returned (.bool true) ∧ Bel wx w') fun e w' h => ⟨by rw [h.1, sameB_refl], h.2⟩)
    unfold IntPost at HP0 HR0
    generalize (if errR t (isPlaceB t.C t.T i k) = 0 then tellR t i k else 0) = a0 at HP0 HR0
    generalize errR t (isPlaceB t.C t.T i k) = e0 at HP0 HR0
    generalize (askV t).1 = a1 at HP1 HR1
    generalize (askV t).2 = b1 at HP1 HR1
    generalize askE t = e1 at HP1 HR1
    generalize errR t true = e2 at HP2 HR2
    generalize idleE t = L at HP2 HR2 HSM
    clear hroom hh
    obtain ⟨ov, wv, rfl, ⟨a, c, b, off, rv, rfl, _⟩, ⟨wa, wc, wb, woff, rfl, _⟩⟩ := hv
    go_enter Try.func12, Try.ntmps12
    go_wp2_with fail
    refine (HUG.out _ (HV.out.bel (by repeat (first | assumption | exact Bel.refl _ | refine Bel.drew ?_ | refine Bel.drewN ?_ _ | refine Bel.alloc ?_ _ | refine Bel.setCell ?_ (by simp <;> omega) _ | refine Bel.trans ?_ (by assumption))))).mono ?_
    rintro e w1 ⟨rfl, hb⟩
    have x0 : w1.cell? ⟨w.heap.size, 0, none⟩ = some (.int .i64 t.C) := hb.cell ((row_facts ((heap_alloc_old _ _ (by simp <;> omega)).trans (new_row rfl))).1 0)
    have x1 : w1.cell? ⟨w.heap.size, 1, none⟩ = some (.int .i64 t.T) := hb.cell ((row_facts ((heap_alloc_old _ _ (by simp <;> omega)).trans (new_row rfl))).1 1)
    have x2 : w1.cell? ⟨w.heap.size, 2, none⟩ = some (.slice a t.op.length c) := hb.cell ((row_facts ((heap_alloc_old _ _ (by simp <;> omega)).trans (new_row rfl))).1 2)
    have x3 : w1.cell? ⟨w.heap.size, 3, none⟩ = some (.slice wa t.ws.length wc) := hb.cell ((row_facts ((heap_alloc_old _ _ (by simp <;> omega)).trans (new_row rfl))).1 3)
    have k0 : w1.cell? ⟨w.heap.size + 1, 0, none⟩ = some (.int .i64 i) := hb.cell ((row_facts (new_row (by first | rfl | (simp; done)))).1 0)
    have k1 : w1.cell? ⟨w.heap.size + 1, 1, none⟩ = some (.int .i64 k) := hb.cell ((row_facts (new_row (by first | rfl | (simp; done)))).1 1)
    have hB1 : Bel w w1 := Bel.trans (by repeat (first | assumption | exact Bel.refl _ | refine Bel.drew ?_ | refine Bel.drewN ?_ _ | refine Bel.alloc ?_ _ | refine Bel.setCell ?_ (by simp <;> omega) _ | refine Bel.trans ?_ (by assumption))) hb
    have lx0 := cell_lt x0
    have lk0 := cell_lt k0
    replace HV := Lib.hid (HV.out.bel hB1)
    clear hb
    go_wp2_with fail
    refine (HCP.out _ (HV.out.bel (by repeat (first | assumption | exact Bel.refl _ | refine Bel.drew ?_ | refine Bel.drewN ?_ _ | refine Bel.alloc ?_ _ | refine Bel.setCell ?_ (by simp <;> omega) _ | refine Bel.trans ?_ (by assumption))))).mono ?_
    rintro e w2 ⟨v', rfl, hb, hO⟩
    have hk : Bel w1 w2 := Bel.trans (by repeat (first | assumption | exact Bel.refl _ | refine Bel.drew ?_ | refine Bel.drewN ?_ _ | refine Bel.alloc ?_ _ | refine Bel.setCell ?_ (by simp <;> omega) _ | refine Bel.trans ?_ (by assumption))) hb
    replace x0 := hk.cell x0
    replace x1 := hk.cell x1
    replace x2 := hk.cell x2
    replace x3 := hk.cell x3
    replace k0 := hk.cell k0
    replace k1 := hk.cell k1
    have lx0 := cell_lt x0
    have lk0 := cell_lt k0
    have hB2 : Bel w w2 := hB1.trans hk
    replace HV := Lib.hid (HV.out.bel hk)
    clear hb hk hB1
    have HO := Lib.hid hO
    obtain ⟨ov2, wv2, rfl, ⟨a2, c2, b2, off2, rv2, rfl, _⟩, ⟨wa2, wc2, wb2, woff2, rfl, _⟩⟩ := hO
    go_wp2_with fail
    refine (HP0.out (.agg #[.int .i64 t.C, .int .i64 t.T, .slice a2 t.op.length c2, .slice wa2 t.ws.length wc2]) _ (HO.out.bel (by repeat (first | assumption | exact Bel.refl _ | refine Bel.drew ?_ | refine Bel.drewN ?_ _ | refine Bel.alloc ?_ _ | refine Bel.setCell ?_ (by simp <;> omega) _ | refine Bel.trans ?_ (by assumption))))).mono ?_
    rintro e w3 ⟨rfl, hb⟩
    have y0 : w3.cell? ⟨w2.heap.size, 0, none⟩ = some (.int .i64 t.C) := hb.cell ((row_facts (new_row (by first | rfl | (simp; done)))).1 0)
    have y1 : w3.cell? ⟨w2.heap.size, 1, none⟩ = some (.int .i64 t.T) := hb.cell ((row_facts (new_row (by first | rfl | (simp; done)))).1 1)
    have y2 : w3.cell? ⟨w2.heap.size, 2, none⟩ = some (.slice a2 t.op.length c2) := hb.cell ((row_facts (new_row (by first | rfl | (simp; done)))).1 2)
    have y3 : w3.cell? ⟨w2.heap.size, 3, none⟩ = some (.slice wa2 t.ws.length wc2) := hb.cell ((row_facts (new_row (by first | rfl | (simp; done)))).1 3)
    have hk : Bel w2 w3 := Bel.trans (by repeat (first | assumption | exact Bel.refl _ | refine Bel.drew ?_ | refine Bel.drewN ?_ _ | refine Bel.alloc ?_ _ | refine Bel.setCell ?_ (by simp <;> omega) _ | refine Bel.trans ?_ (by assumption))) hb
    replace x0 := hk.cell x0
    replace x1 := hk.cell x1
    replace x2 := hk.cell x2
    replace x3 := hk.cell x3
    replace k0 := hk.cell k0
    replace k1 := hk.cell k1
    have lx0 := cell_lt x0
    have lk0 := cell_lt k0
    have ly0 := cell_lt y0
    have hB3 : Bel w w3 := hB2.trans hk
    replace HV := Lib.hid (HV.out.bel hk)
    replace HO := Lib.hid (HO.out.bel hk)
    clear hb hk hB2
    go_wp2_with fail
    refine (HR0.out _ (HV.out.bel (by repeat (first | assumption | exact Bel.refl _ | refine Bel.drew ?_ | refine Bel.drewN ?_ _ | refine Bel.alloc ?_ _ | refine Bel.setCell ?_ (by simp <;> omega) _ | refine Bel.trans ?_ (by assumption))))).mono ?_
    rintro e w4 ⟨rfl, hb⟩
    have hk : Bel w3 w4 := Bel.trans (by repeat (first | assumption | exact Bel.refl _ | refine Bel.drew ?_ | refine Bel.drewN ?_ _ | refine Bel.alloc ?_ _ | refine Bel.setCell ?_ (by simp <;> omega) _ | refine Bel.trans ?_ (by assumption))) hb
    replace x0 := hk.cell x0
    replace x1 := hk.cell x1
    replace x2 := hk.cell x2
    replace x3 := hk.cell x3
    replace k0 := hk.cell k0
    replace k1 := hk.cell k1
    replace y0 := hk.cell y0
    replace y1 := hk.cell y1
    replace y2 := hk.cell y2
    replace y3 := hk.cell y3
    have lx0 := cell_lt x0
    have lk0 := cell_lt k0
    have ly0 := cell_lt y0
    have hB4 : Bel w w4 := hB3.trans hk
    replace HV := Lib.hid (HV.out.bel hk)
    replace HO := Lib.hid (HO.out.bel hk)
    clear hb hk hB3
    go_wp2_with fail
    refine (HP1.out (.agg #[.int .i64 t.C, .int .i64 t.T, .slice a2 t.op.length c2, .slice wa2 t.ws.length wc2]) _ (HO.out.bel (by repeat (first | assumption | exact Bel.refl _ | refine Bel.drew ?_ | refine Bel.drewN ?_ _ | refine Bel.alloc ?_ _ | refine Bel.setCell ?_ (by simp <;> omega) _ | refine Bel.trans ?_ (by assumption))))).mono ?_
    rintro e w5 ⟨rfl, hb⟩
    have hk : Bel w4 w5 := Bel.trans (by repeat (first | assumption | exact Bel.refl _ | refine Bel.drew ?_ | refine Bel.drewN ?_ _ | refine Bel.alloc ?_ _ | refine Bel.setCell ?_ (by simp <;> omega) _ | refine Bel.trans ?_ (by assumption))) hb
    replace x0 := hk.cell x0
    replace x1 := hk.cell x1
    replace x2 := hk.cell x2
    replace x3 := hk.cell x3
    replace k0 := hk.cell k0
    replace k1 := hk.cell k1
    replace y0 := hk.cell y0
    replace y1 := hk.cell y1
    replace y2 := hk.cell y2
    replace y3 := hk.cell y3
    have lx0 := cell_lt x0
    have lk0 := cell_lt k0
    have ly0 := cell_lt y0
    have hB5 : Bel w w5 := hB4.trans hk
    replace HV := Lib.hid (HV.out.bel hk)
    replace HO := Lib.hid (HO.out.bel hk)
    clear hb hk hB4
    go_wp2_with fail
    refine (HR1.out _ (HV.out.bel (by repeat (first | assumption | exact Bel.refl _ | refine Bel.drew ?_ | refine Bel.drewN ?_ _ | refine Bel.alloc ?_ _ | refine Bel.setCell ?_ (by simp <;> omega) _ | refine Bel.trans ?_ (by assumption))))).mono ?_
    rintro e w6 ⟨rfl, hb⟩
    have u0 : w6.cell? ⟨w5.heap.size, 0, none⟩ = some (.int .i64 a1) := hb.cell ((row_facts (new_row (by first | rfl | (simp; done)))).1 0)
    have u1 : w6.cell? ⟨w5.heap.size, 1, none⟩ = some (.int .i64 b1) := hb.cell ((row_facts (new_row (by first | rfl | (simp; done)))).1 1)
    have hk : Bel w5 w6 := Bel.trans (by repeat (first | assumption | exact Bel.refl _ | refine Bel.drew ?_ | refine Bel.drewN ?_ _ | refine Bel.alloc ?_ _ | refine Bel.setCell ?_ (by simp <;> omega) _ | refine Bel.trans ?_ (by assumption))) hb
    replace x0 := hk.cell x0
    replace x1 := hk.cell x1
    replace x2 := hk.cell x2
    replace x3 := hk.cell x3
    replace k0 := hk.cell k0
    replace k1 := hk.cell k1
    replace y0 := hk.cell y0
    replace y1 := hk.cell y1
    replace y2 := hk.cell y2
    replace y3 := hk.cell y3
    have lx0 := cell_lt x0
    have lk0 := cell_lt k0
    have ly0 := cell_lt y0
    have lu0 := cell_lt u0
    have hB6 : Bel w w6 := hB5.trans hk
    replace HV := Lib.hid (HV.out.bel hk)
    replace HO := Lib.hid (HO.out.bel hk)
    clear hb hk hB5
    go_wp2_with fail
    refine (HP2.out (.agg #[.int .i64 t.C, .int .i64 t.T, .slice a2 t.op.length c2, .slice wa2 t.ws.length wc2]) _ (HO.out.bel (by repeat (first | assumption | exact Bel.refl _ | refine Bel.drew ?_ | refine Bel.drewN ?_ _ | refine Bel.alloc ?_ _ | refine Bel.setCell ?_ (by simp <;> omega) _ | refine Bel.trans ?_ (by assumption))))).mono ?_
    rintro e w7 ⟨vl, rfl, hL, hb⟩
    have z0 : w7.cell? ⟨w6.heap.size, 0, none⟩ = some (.int .i64 a1) := hb.cell ((row_facts (new_row (by first | rfl | (simp; done)))).1 0)
    have z1 : w7.cell? ⟨w6.heap.size, 1, none⟩ = some (.int .i64 b1) := hb.cell ((row_facts (new_row (by first | rfl | (simp; done)))).1 1)
    have hk : Bel w6 w7 := Bel.trans (by repeat (first | assumption | exact Bel.refl _ | refine Bel.drew ?_ | refine Bel.drewN ?_ _ | refine Bel.alloc ?_ _ | refine Bel.setCell ?_ (by simp <;> omega) _ | refine Bel.trans ?_ (by assumption))) hb
    replace x0 := hk.cell x0
    replace x1 := hk.cell x1
    replace x2 := hk.cell x2
    replace x3 := hk.cell x3
    replace k0 := hk.cell k0
    replace k1 := hk.cell k1
    replace y0 := hk.cell y0
    replace y1 := hk.cell y1
    replace y2 := hk.cell y2
    replace y3 := hk.cell y3
    replace u0 := hk.cell u0
    replace u1 := hk.cell u1
    have lx0 := cell_lt x0
    have lk0 := cell_lt k0
    have ly0 := cell_lt y0
    have lu0 := cell_lt u0
    have lz0 := cell_lt z0
    have hB7 : Bel w w7 := hB6.trans hk
    replace HV := Lib.hid (HV.out.bel hk)
    replace HO := Lib.hid (HO.out.bel hk)
    clear hb hk hB6
    have HL := Lib.hid hL
    clear hL
    go_wp2_with fail
    refine (HR2.out _ (HV.out.bel (by repeat (first | assumption | exact Bel.refl _ | refine Bel.drew ?_ | refine Bel.drewN ?_ _ | refine Bel.alloc ?_ _ | refine Bel.setCell ?_ (by simp <;> omega) _ | refine Bel.trans ?_ (by assumption))))).mono ?_
    rintro e w8 ⟨vm, rfl, hM, hb⟩
    have hk : Bel w7 w8 := Bel.trans (by repeat (first | assumption | exact Bel.refl _ | refine Bel.drew ?_ | refine Bel.drewN ?_ _ | refine Bel.alloc ?_ _ | refine Bel.setCell ?_ (by simp <;> omega) _ | refine Bel.trans ?_ (by assumption))) hb
    replace x0 := hk.cell x0
    replace x1 := hk.cell x1
    replace x2 := hk.cell x2
    replace x3 := hk.cell x3
    replace k0 := hk.cell k0
    replace k1 := hk.cell k1
    replace y0 := hk.cell y0
    replace y1 := hk.cell y1
    replace y2 := hk.cell y2
    replace y3 := hk.cell y3
    replace u0 := hk.cell u0
    replace u1 := hk.cell u1
    replace z0 := hk.cell z0
    replace z1 := hk.cell z1
    have lx0 := cell_lt x0
    have lk0 := cell_lt k0
    have ly0 := cell_lt y0
    have lu0 := cell_lt u0
    have lz0 := cell_lt z0
    have hB8 : Bel w w8 := hB7.trans hk
    replace HV := Lib.hid (HV.out.bel hk)
    replace HO := Lib.hid (HO.out.bel hk)
    replace HL := Lib.hid (HL.out.bel hk)
    clear hb hk hB7
    have HM := Lib.hid hM
    clear hM
    go_wp2_with fail
    refine (HSM.out _ _ _ (HL.out.bel (by repeat (first | assumption | exact Bel.refl _ | refine Bel.drew ?_ | refine Bel.drewN ?_ _ | refine Bel.alloc ?_ _ | refine Bel.setCell ?_ (by simp <;> omega) _ | refine Bel.trans ?_ (by assumption)))) (HM.out.bel (by repeat (first | assumption | exact Bel.refl _ | refine Bel.drew ?_ | refine Bel.drewN ?_ _ | refine Bel.alloc ?_ _ | refine Bel.setCell ?_ (by simp <;> omega) _ | refine Bel.trans ?_ (by assumption))))).mono ?_
    rintro e w9 ⟨rfl, hb⟩
    have hk : Bel w8 w9 := Bel.trans (by repeat (first | assumption | exact Bel.refl _ | refine Bel.drew ?_ | refine Bel.drewN ?_ _ | refine Bel.alloc ?_ _ | refine Bel.setCell ?_ (by simp <;> omega) _ | refine Bel.trans ?_ (by assumption))) hb
    replace x0 := hk.cell x0
    replace x1 := hk.cell x1
    replace x2 := hk.cell x2
    replace x3 := hk.cell x3
    replace k0 := hk.cell k0
    replace k1 := hk.cell k1
    replace y0 := hk.cell y0
    replace y1 := hk.cell y1
    replace y2 := hk.cell y2
    replace y3 := hk.cell y3
    replace u0 := hk.cell u0
    replace u1 := hk.cell u1
    replace z0 := hk.cell z0
    replace z1 := hk.cell z1
    have lx0 := cell_lt x0
    have lk0 := cell_lt k0
    have ly0 := cell_lt y0
    have lu0 := cell_lt u0
    have lz0 := cell_lt z0
    have hB9 : Bel w w9 := hB8.trans hk
    replace HV := Lib.hid (HV.out.bel hk)
    replace HO := Lib.hid (HO.out.bel hk)
    replace HL := Lib.hid (HL.out.bel hk)
    replace HM := Lib.hid (HM.out.bel hk)
    clear hb hk hB8
    go_wp2_with fail
    refine (Same_eq _ _ t _ (HO.out.bel (by repeat (first | assumption | exact Bel.refl _ | refine Bel.drew ?_ | refine Bel.drewN ?_ _ | refine Bel.alloc ?_ _ | refine Bel.setCell ?_ (by simp <;> omega) _ | refine Bel.trans ?_ (by assumption)))) (HV.out.bel (by repeat (first | assumption | exact Bel.refl _ | refine Bel.drew ?_ | refine Bel.drewN ?_ _ | refine Bel.alloc ?_ _ | refine Bel.setCell ?_ (by simp <;> omega) _ | refine Bel.trans ?_ (by assumption))))).mono ?_
    rintro e w10 ⟨rfl, hb⟩
    have hk : Bel w9 w10 := Bel.trans (by repeat (first | assumption | exact Bel.refl _ | refine Bel.drew ?_ | refine Bel.drewN ?_ _ | refine Bel.alloc ?_ _ | refine Bel.setCell ?_ (by simp <;> omega) _ | refine Bel.trans ?_ (by assumption))) hb
    replace x0 := hk.cell x0
    replace x1 := hk.cell x1
    replace x2 := hk.cell x2
    replace x3 := hk.cell x3
    replace k0 := hk.cell k0
    replace k1 := hk.cell k1
    replace y0 := hk.cell y0
    replace y1 := hk.cell y1
    replace y2 := hk.cell y2
    replace y3 := hk.cell y3
    replace u0 := hk.cell u0
    replace u1 := hk.cell u1
    replace z0 := hk.cell z0
    replace z1 := hk.cell z1
    have lx0 := cell_lt x0
    have lk0 := cell_lt k0
    have ly0 := cell_lt y0
    have lu0 := cell_lt u0
    have lz0 := cell_lt z0
    have hB10 : Bel w w10 := hB9.trans hk
    replace HV := Lib.hid (HV.out.bel hk)
    replace HO := Lib.hid (HO.out.bel hk)
    replace HL := Lib.hid (HL.out.bel hk)
    replace HM := Lib.hid (HM.out.bel hk)
    clear hb hk hB9
    clear u0 u1 z0 z1 lu0 lz0 x0 x1 x2 x3 y0 y1 y2 y3 k0 k1 lk0 lx0 ly0 HP0 HR0 HP1 HR1 HP2 HR2
    go_wp2_with fail
    refine (works_any _).mono ?_
    rintro e w11 ⟨rfl, hb⟩
    have HB11 := Lib.hid (hB10.trans (Bel.trans (by repeat (first | assumption | exact Bel.refl _ | refine Bel.drew ?_ | refine Bel.drewN ?_ _ | refine Bel.alloc ?_ _ | refine Bel.setCell ?_ (by simp <;> omega) _ | refine Bel.trans ?_ (by assumption))) hb))
    clear hb hB10
    go_wp2
    go_ret
    exact ⟨rfl, HB11.out⟩
end Go.Proofs.Ytoiajjdhgffdaaa

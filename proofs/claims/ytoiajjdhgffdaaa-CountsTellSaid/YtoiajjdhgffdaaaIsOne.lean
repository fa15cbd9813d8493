/-
  reference: IsOne, known.
-/
import Derived.Test.YtoiajjdhgffdaaaSettle2
import Derived.Test.YtoiajjdhgffdaaaRCheck
namespace Go.Proofs.Ytoiajjdhgffdaaa
open Go Go.RowKit
set_option maxHeartbeats 1000000
set_option maxRecDepth 100000
def f0 : Nat → Nat → Int := fun _ _ => 0
def f40 (C : Int) : Nat → Nat → Int := fun _ => freeHi C
theorem free_ok {C : Int} : BoxOk C.toNat f0 (f40 C) := by
  refine ⟨fun a b => ⟨Int.le_refl _, by show (0 : Int) ≤ 40; omega⟩, fun a b => ?_, fun a => ⟨rfl, ?_⟩⟩
  · show 0 ≤ freeHi C b ∧ freeHi C b ≤ 40
    unfold freeHi; split <;> omega
  · show freeHi C C.toNat = 0
    unfold freeHi; rw [if_neg (by omega)]
theorem free_in {t : CT} {y : Nat → Nat → Int} (h : Sat t (-1) y) : InBox t.T.toNat (t.C.toNat + 1) f0 (f40 t.C) y := by
  intro a b ha hb
  have := h.bounds a ha b (by omega)
  refine ⟨this.1, ?_⟩
  show _ ≤ freeHi t.C b
  unfold freeHi
  split
  · exact this.2
  · have := h.last a ha
    rw [show b = t.C.toNat by omega]; omega
open Classical in
/-- Whether a trap has a truth. -/
noncomputable def oneB (t : CT) : Bool := decide (∃ y, Sat t (-1) y)
theorem oneB_iff {t : CT} : oneB t = true ↔ ∃ y, Sat t (-1) y := by
  unfold oneB
  exact @decide_eq_true_iff _ (Classical.propDecidable _)
theorem settled_one {t : CT} {lo hi : Nat → Nat → Int} {b : Bool} (h : Settled t f0 (f40 t.C) lo hi b) : b = oneB t := by
  rcases h with ⟨rfl, s, _⟩ | ⟨rfl, s⟩
  · exact (oneB_iff.2 ⟨lo, s⟩).symm
  · cases e : oneB t with
    | false => rfl
    | true => obtain ⟨y, hy⟩ := oneB_iff.1 e; exact absurd ⟨y, hy, free_in hy⟩ s
theorem valid_nine {t : CT} (h : validB t = true) : t.ws.length ≤ 9 := by have := (validB_bounds h).2.2.2.1; omega
theorem IsOne_any (t : CT) (v : Value) (w : World) (hv : TrapAt w v t) (hf : Fit t) (h9 : t.ws.length ≤ 9) : Calls Try.prog 26 #[v] w fun e w' => e = .returned (.bool (oneB t)) ∧ Bel w w' := by
  have HVAL := Lib.hid hf
  obtain ⟨f1, f2, f3, f4, _, _⟩ := hf
  have HV := Lib.hid hv
  obtain ⟨ov, wv, rfl, ⟨a, c, b, off, rv, rfl, _⟩, ⟨wa, wc, wb, woff, rfl, _⟩⟩ := hv
  go_enter Try.func26, Try.ntmps26
  go_wp2
  refine wp_region_mixB (Plan.seq [0, 1, 1002, 1003, 4] .nil) (by kernel_rfl) (by kernel_rfl) (fun hcur => ?_)
  simp only [Plan.seq, Plan.fill, List.getD_cons_zero, List.getD_cons_succ, Nat.reduceLT, ↓reduceIte, Nat.reduceSub]
  apply mix_pure _ rfl
  · intro w' hw'
    have hcr := hw'.cells
    go_simp
    rfl
  intro K hK
  go_simp
  refine hK _ ?_
  clear hK K
  apply mix_pure _ rfl
  · intro w' hw'
    have hcr := hw'.cells
    go_simp
    rfl
  intro K hK
  go_simp
  refine hK _ ?_
  clear hK K
  refine mix_act rfl (fun K hK => ?_)
  go_simp
  refine (free_any t _ _ (HV.out.bel (by repeat (first | assumption | exact Bel.refl _ | refine Bel.drew ?_ | refine Bel.drewN ?_ _ | refine Bel.alloc ?_ _ | refine Bel.setCell ?_ (by simp <;> omega) _ | refine Bel.trans ?_ (by assumption)))) f1 f2 f3 f4).mono ?_
  rintro e w1 ⟨s, rfl, hb, ob, cap, rb, rfl, hSp⟩
  simp only []
  have HSP := Lib.hid hSp
  have HB1 := Lib.hid hb
  refine hK _ _ (hcur.trans hb) (fun hcur => ?_)
  clear hK K hb hSp
  refine mix_act rfl (fun K hK => ?_)
  go_simp
  refine (settle_any t _ _ _ _ ob cap rb f0 (f40 t.C) (HV.out.bel (by repeat (first | assumption | exact Bel.refl _ | refine Bel.drew ?_ | refine Bel.drewN ?_ _ | refine Bel.alloc ?_ _ | refine Bel.setCell ?_ (by simp <;> omega) _ | refine Bel.trans ?_ (by assumption)))) HB1.out (Nat.le_refl _) HVAL.out h9 HSP.out free_ok).mono ?_
  rintro e w2 ⟨bb, lo, hi, rfl, hM, hst⟩
  have hbb := settled_one hst
  subst hbb
  have HB2 : Hid (Bel w w2) := Lib.hid (Bel.trans (by repeat (first | assumption | exact Bel.refl _ | refine Bel.drew ?_ | refine Bel.drewN ?_ _ | refine Bel.alloc ?_ _ | refine Bel.setCell ?_ (by simp <;> omega) _ | refine Bel.trans ?_ (by assumption))) hM.bel)
  simp only []
  refine hK _ _ (Bel.trans (by repeat (first | assumption | exact Bel.refl _ | refine Bel.drew ?_ | refine Bel.drewN ?_ _ | refine Bel.alloc ?_ _ | refine Bel.setCell ?_ (by simp <;> omega) _ | refine Bel.trans ?_ (by assumption))) hM.bel) (fun hcur => ?_)
  clear hK K hM hst
  apply mix_pure _ rfl
  · intro w' hw'
    have hcr := hw'.cells
    go_simp
    rfl
  intro K hK
  go_simp
  refine hK _ ?_
  clear hK K
  refine mix_nil ?_
  go_wp2
  go_ret
  exact ⟨rfl, HB2.out⟩
theorem known_any (t : CT) (v : Value) (bb : Bool) (w : World) (hv : TrapAt w v t) : Calls Try.prog 84 #[v, .bool bb] w fun e w' => e = .returned (.int .i64 (errR t bb)) ∧ Bel w w' := by
  have HV := Lib.hid hv
  have HA := Lib.hid (fun wx hx => Rask_any t v bb wx hx)
  have HO := Lib.hid (fun wx hx hf h9 => IsOne_any t v wx hx hf h9)
  obtain ⟨ov, wv, rfl, ⟨a, c, b, off, rv, rfl, _⟩, ⟨wa, wc, wb, woff, rfl, _⟩⟩ := hv
  by_cases ha : askR t bb = 0
  · obtain ⟨hval, rfl⟩ := askR_zero.1 ha
    rw [ha] at HA
    have HVAL := Lib.hid hval
    have HE := Lib.hid (show errR t true = if oneB t then 0 else 3 by
      cases e : oneB t with
      | true => exact errR_ok (askR_zero.2 ⟨hval, rfl⟩) (oneB_iff.1 e)
      | false => exact errR_none (askR_zero.2 ⟨hval, rfl⟩) (fun q => by rw [oneB_iff.2 q] at e; cases e))
    clear ha hval
    cases e : oneB t
    all_goals
      rw [e] at HO HE
      clear e
      go_enter Try.func84, Try.ntmps84
      go_wp2_with fail
      refine (HA.out _ (HV.out.bel (by repeat (first | assumption | exact Bel.refl _ | refine Bel.drew ?_ | refine Bel.drewN ?_ _ | refine Bel.alloc ?_ _ | refine Bel.setCell ?_ (by simp <;> omega) _ | refine Bel.trans ?_ (by assumption))))).mono ?_
      rintro e w1 ⟨rfl, hb⟩
      have x0 : w1.cell? ⟨w.heap.size, 0, none⟩ = some (.int .i64 t.C) := hb.cell ((row_facts (new_row rfl)).1 0)
      have x1 : w1.cell? ⟨w.heap.size, 1, none⟩ = some (.int .i64 t.T) := hb.cell ((row_facts (new_row rfl)).1 1)
      have x2 : w1.cell? ⟨w.heap.size, 2, none⟩ = some (.slice a t.op.length c) := hb.cell ((row_facts (new_row rfl)).1 2)
      have x3 : w1.cell? ⟨w.heap.size, 3, none⟩ = some (.slice wa t.ws.length wc) := hb.cell ((row_facts (new_row rfl)).1 3)
      have hB1 : Bel w w1 := Bel.trans (by repeat (first | assumption | exact Bel.refl _ | refine Bel.drew ?_ | refine Bel.drewN ?_ _ | refine Bel.alloc ?_ _ | refine Bel.setCell ?_ (by simp <;> omega) _ | refine Bel.trans ?_ (by assumption))) hb
      clear hb
      go_wp2_with fail
      refine (HO.out _ (HV.out.bel hB1) (fit_of_valid HVAL.out) (valid_nine HVAL.out)).mono ?_
      rintro e w2 ⟨rfl, hb⟩
      have HB2 := Lib.hid (hB1.trans hb)
      clear hb hB1
      go_wp2
      go_ret
      exact ⟨ri (HE.out.trans (by simp)), HB2.out⟩
  · have hne : (askR t bb != 0) = true := by rw [bne_iff_ne]; exact ha
    have HE := Lib.hid (errR_ask ha)
    clear ha
    generalize askR t bb = er at *
    go_enter Try.func84, Try.ntmps84
    go_wp2_with fail
    refine (HA.out _ (HV.out.bel (by repeat (first | assumption | exact Bel.refl _ | refine Bel.drew ?_ | refine Bel.drewN ?_ _ | refine Bel.alloc ?_ _ | refine Bel.setCell ?_ (by simp <;> omega) _ | refine Bel.trans ?_ (by assumption))))).mono ?_
    rintro e w1 ⟨rfl, hb⟩
    have HB1 := Lib.hid (show Bel w w1 from Bel.trans (by repeat (first | assumption | exact Bel.refl _ | refine Bel.drew ?_ | refine Bel.drewN ?_ _ | refine Bel.alloc ?_ _ | refine Bel.setCell ?_ (by simp <;> omega) _ | refine Bel.trans ?_ (by assumption))) hb)
    clear hb
    go_wp2
    go_ret
    exact ⟨ri HE.out, HB1.out⟩
end Go.Proofs.Ytoiajjdhgffdaaa

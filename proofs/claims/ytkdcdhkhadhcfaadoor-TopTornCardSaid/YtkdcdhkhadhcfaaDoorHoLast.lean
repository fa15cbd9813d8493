/-
  mesh: the greatest loss of an order, and when all holes are mended by it; the two numbers as function values.
-/
import Derived.Test.YtkdcdhkhadhcfaaDoorHoLost
namespace Go.Proofs.YtkdcdhkhadhcfaaDoor
open Go Go.RowKit
set_option maxHeartbeats 8000000
set_option maxRecDepth 100000
theorem run_field_span (L H : Int) (w : World) : (Instr.field 27 (.agg #[.int .i64 L, .int .i64 H]) 1).run Tryd.prog w = .ok (.int .i64 H) w := by
  first
    | (simp [Instr.field, go_sem]; done)
    | rfl
theorem phigh_any (n : MNet) (o : List Int) (v ov : Value) (w : World) (hv : MNetAt w v n) (ho : IntsAt w ov o) (hm : 1 ≤ n.men ∧ n.men ≤ 3) (h6 : n.holes.length ≤ 1000) (hin : HolesIn n) (hra : RatesIn n) (hord : OrdIn n o) (hol : o.length ≤ 1000)
    (hps : ∀ i, i < n.prs.length → 0 ≤ (atP n.prs i).a ∧ (atP n.prs i).a < n.holes.length) :
    Calls Tryd.prog 65 #[v, ov] w fun e w' => e = .returned (.int .i64 (highV n o)) ∧ Bel w w' := by
  have HT := Lib.hid (fun wx (hx : Bel w wx) => lost_any n o v ov wx (hv.bel hx) (ho.bel hx) hm h6 hin hra hord hol hps)
  obtain ⟨ha, hc, pa, pc, rfl, _, _, _, _⟩ := hv.open
  obtain ⟨oa, oc, ob', oo, rfl, _, _, _⟩ := ho
  clear hv hm h6 hin hra hord hol hps
  generalize highV n o = H at *
  generalize lowV n o = L at *
  generalize n.holes.length = G at *
  generalize n.prs.length = X at *
  generalize n.men = men at *
  generalize o.length = N at *
  go_enter Tryd.func65, Tryd.ntmps65
  go_wp2_with fail
  refine (HT.out _ (by repeat (first | assumption | exact Bel.refl _ | refine Bel.drew ?_ | refine Bel.drewN ?_ _ | refine Bel.alloc ?_ _ | refine Bel.setCell ?_ (by simp <;> omega) _ | refine Bel.trans ?_ (by assumption)))).mono ?_
  rintro e w1 ⟨rfl, hb1⟩
  have HB := Lib.hid (show Bel w w1 from Bel.trans (by repeat (first | assumption | exact Bel.refl _ | refine Bel.drew ?_ | refine Bel.drewN ?_ _ | refine Bel.alloc ?_ _ | refine Bel.setCell ?_ (by simp <;> omega) _ | refine Bel.trans ?_ (by assumption))) hb1)
  clear hb1
  have hfd := run_field_span L H
  go_wp2
  go_ret
  exact ⟨rfl, HB.out⟩
theorem plast_any (n : MNet) (o : List Int) (v ov : Value) (w : World) (hv : MNetAt w v n) (ho : IntsAt w ov o) (hm : 1 ≤ n.men ∧ n.men ≤ 3) (h6 : n.holes.length ≤ 1000) (hin : HolesIn n) (hord : OrdIn n o) (hol : o.length ≤ 1000)
    (hps : ∀ i, i < n.prs.length → 0 ≤ (atP n.prs i).a ∧ (atP n.prs i).a < n.holes.length) :
    Calls Tryd.prog 66 #[v, ov] w fun e w' => e = .returned (.int .i64 (lastV n o)) ∧ Bel w w' := by
  have HT := Lib.hid (fun wx (hx : Bel w wx) => times_any n o v ov wx (hv.bel hx) (ho.bel hx) hm h6 hin hord hol hps)
  obtain ⟨ha, hc, pa, pc, rfl, _, _, hG, _⟩ := hv.open
  obtain ⟨oa, oc, ob', oo, rfl, _, _, _⟩ := ho
  have HTL := Lib.hid (timesV_in hin hord hol).2
  have HLV := Lib.hid (show lastV n o = lastTo (timesV n o) n.holes.length from rfl)
  clear hv hm hin hord hol hps
  generalize timesV n o = T at *
  generalize n.holes.length = G at *
  generalize n.prs.length = X at *
  generalize n.men = men at *
  generalize o.length = N at *
  go_enter Tryd.func66, Tryd.ntmps66
  go_wp2_with fail
  refine (HT.out _ (by repeat (first | assumption | exact Bel.refl _ | refine Bel.drew ?_ | refine Bel.drewN ?_ _ | refine Bel.alloc ?_ _ | refine Bel.setCell ?_ (by simp <;> omega) _ | refine Bel.trans ?_ (by assumption)))).mono ?_
  rintro e w1 ⟨v', rfl, hti, hb1, _⟩
  have HB := Lib.hid (show Bel w w1 from Bel.trans (by repeat (first | assumption | exact Bel.refl _ | refine Bel.drew ?_ | refine Bel.drewN ?_ _ | refine Bel.alloc ?_ _ | refine Bel.setCell ?_ (by simp <;> omega) _ | refine Bel.trans ?_ (by assumption))) hb1)
  obtain ⟨ta, tc, tb, tof, rfl, hta, _, htc⟩ := hti
  rw [HTL.out] at hta htc ⊢
  have hixt := idxInts (c := tc) hta
  have HTC := Lib.hid htc
  clear hta htc hb1 HT
  go_wp2
  go_loopw [5, 12] (fun s i wr => ∃ k : Nat, k ≤ G ∧ s = .int .i64 (lastTo T k) ∧ i = .int .i64 k ∧ wr = w1) (fun _ i _ => G - (intOf i).toNat)
  case atStart => exact ⟨0, by omega, rfl, rfl, rfl⟩
  case round =>
    obtain ⟨k, hk, rfl, rfl, rfl⟩ := hrel
    by_cases hlt : k < G
    · have hlti : (k : Int) < (G : Int) := by omega
      have t0 := HTC.out k hlt
      have lt0 := cell_lt t0
      have HE := Lib.hid (show lastTo T (k + 1) = max (lastTo T k) (at0 T k) from rfl)
      generalize lastTo T k = M0 at *
      generalize at0 T k = A at *
      by_cases hmx : M0 < A
      · have HE2 := Lib.hid (show lastTo T (k + 1) = A by rw [HE.out]; omega)
        clear HE
        go_wp2
        exact ⟨⟨k + 1, by omega, by rw [HE2.out], by go_num, by trivial⟩, by simp [intOf]; omega⟩
      · have HE2 := Lib.hid (show lastTo T (k + 1) = M0 by rw [HE.out]; omega)
        clear HE
        go_wp2
        exact ⟨⟨k + 1, by omega, by rw [HE2.out], by go_num, by trivial⟩, by simp [intOf]; omega⟩
    · obtain rfl : G = k := by omega
      clear hixt
      go_wp2
      go_ret
      exact ⟨by rw [HLV.out]; rfl, HB.out⟩
theorem mhigh_any (n : MNet) (v : Value) (w : World) (hv : MNetAt w v n) :
    Calls Tryd.prog 46 #[v] w fun e w' => e = .returned (.func (.func 65) #[v] #[]) ∧ Bel w w' := by
  obtain ⟨ha, hc, pa, pc, rfl, _, _, _, _⟩ := hv.open
  go_enter Tryd.func46, Tryd.ntmps46
  go_wp2
  go_ret
  exact ⟨rfl, (by repeat (first | assumption | exact Bel.refl _ | refine Bel.drew ?_ | refine Bel.drewN ?_ _ | refine Bel.alloc ?_ _ | refine Bel.setCell ?_ (by simp <;> omega) _ | refine Bel.trans ?_ (by assumption)))⟩
theorem mlast_any (n : MNet) (v : Value) (w : World) (hv : MNetAt w v n) :
    Calls Tryd.prog 47 #[v] w fun e w' => e = .returned (.func (.func 66) #[v] #[]) ∧ Bel w w' := by
  obtain ⟨ha, hc, pa, pc, rfl, _, _, _, _⟩ := hv.open
  go_enter Tryd.func47, Tryd.ntmps47
  go_wp2
  go_ret
  exact ⟨rfl, (by repeat (first | assumption | exact Bel.refl _ | refine Bel.drew ?_ | refine Bel.drewN ?_ _ | refine Bel.alloc ?_ _ | refine Bel.setCell ?_ (by simp <;> omega) _ | refine Bel.trans ?_ (by assumption)))⟩
end Go.Proofs.YtkdcdhkhadhcfaaDoor

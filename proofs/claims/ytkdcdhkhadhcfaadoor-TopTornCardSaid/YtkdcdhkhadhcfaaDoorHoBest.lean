/-
  mesh: Least, Done and Order of a valid net.
-/
import Derived.Test.YtkdcdhkhadhcfaaDoorHoFound
namespace Go.Proofs.YtkdcdhkhadhcfaaDoor
open Go Go.RowKit Go.Shelf
set_option maxHeartbeats 8000000
set_option maxRecDepth 100000
theorem MOk.hole {n : MNet} (h : MOk n) {i : Nat} (hi : i < n.holes.length) : holeB (atH n.holes i) = true := by
  have := h.hs
  unfold holesB at this
  exact allB_iff.1 this i hi
theorem MOk.ins {n : MNet} (h : MOk n) : HolesIn n ∧ RatesIn n := by
  refine ⟨fun i hi => ?_, fun i hi => ?_⟩
  all_goals
    have := h.hole hi
    simp only [holeB, withinB, Bool.and_eq_true, decide_eq_true_eq] at this
    omega
theorem MOk.prs {n : MNet} (h : MOk n) : ∀ i, i < n.prs.length → 0 ≤ (atP n.prs i).a ∧ (atP n.prs i).a < n.holes.length := fun i hi => by
  have := allB_iff.1 h.ps i hi
  simp only [prN, withinB, Bool.not_not, Bool.and_eq_true, decide_eq_true_eq] at this
  omega
theorem ords_in {n : MNet} {x : List Int} (h : x ∈ ords n n.holes.length []) : OrdIn n x ∧ x.length = n.holes.length := by
  obtain ⟨h1, h2⟩ := ords_dst _ _ _ (dst_nil _) h
  exact ⟨fun k hk => h1.2 _ (getD_mem x k 0 hk), by simpa using h2⟩
theorem mLeast_any (n : MNet) (v : Value) (w : World) (hn : MOk n) (hv : MNetAt w v n) :
    Calls Tryd.prog 21 #[v] w fun e w' => ∃ o k, bestV (highV n) (ords n n.holes.length []) = some (o, k) ∧ e = .returned (.tuple #[.int .i64 k, .int .i64 0]) ∧ Bel w w' := by
  have HF := Lib.hid (fun wx (hx : Bel w wx) => found_any n v 46 65 (highV n) wx hn (hv.bel hx) (enters_of Tryd.func46 (by kernel_rfl) rfl) (enters_of Tryd.func65 (by kernel_rfl) rfl)
    (fun wy hy => mhigh_any n v wy (hv.bel (hx.trans hy))) (fun x ov wy h1 h2 h3 => phigh_any n x v ov wy (hv.bel (hx.trans h2)) h3 ⟨hn.m1, hn.m3⟩ (by have := hn.h6; omega) hn.ins.1 hn.ins.2 (ords_in h1).1 (by have := (ords_in h1).2; have := hn.h6; omega) hn.prs))
  obtain ⟨ha, hc, pa, pc, rfl, _, _, hG, hQ⟩ := hv.open
  clear hv hn
  generalize ords n n.holes.length [] = os at *
  generalize n.holes.length = G at *
  generalize n.prs.length = X at *
  generalize n.men = men at *
  go_enter Tryd.func21, Tryd.ntmps21
  go_wp2_with fail
  refine (HF.out _ (by repeat (first | assumption | exact Bel.refl _ | refine Bel.drew ?_ | refine Bel.drewN ?_ _ | refine Bel.alloc ?_ _ | refine Bel.setCell ?_ (by simp <;> omega) _ | refine Bel.trans ?_ (by assumption)))).mono ?_
  rintro e w1 ⟨o, k, ov, h1, rfl, h3, hb⟩
  have HR := Lib.hid (And.intro h1 (And.intro h3 (show Bel w w1 from Bel.trans (by repeat (first | assumption | exact Bel.refl _ | refine Bel.drew ?_ | refine Bel.drewN ?_ _ | refine Bel.alloc ?_ _ | refine Bel.setCell ?_ (by simp <;> omega) _ | refine Bel.trans ?_ (by assumption))) hb)))
  clear h1 h3 hb
  go_wp2
  exact bodyPost_ret (v := .tuple #[.int .i64 k, .int .i64 0]) (by simp [results, Tryd.results21, go_sem]) rfl ⟨o, k, HR.out.1, rfl, HR.out.2.2⟩
theorem mDone_any (n : MNet) (v : Value) (w : World) (hn : MOk n) (hv : MNetAt w v n) :
    Calls Tryd.prog 22 #[v] w fun e w' => ∃ o k, bestV (lastV n) (ords n n.holes.length []) = some (o, k) ∧ e = .returned (.tuple #[.int .i64 k, .int .i64 0]) ∧ Bel w w' := by
  have HF := Lib.hid (fun wx (hx : Bel w wx) => found_any n v 47 66 (lastV n) wx hn (hv.bel hx) (enters_of Tryd.func47 (by kernel_rfl) rfl) (enters_of Tryd.func66 (by kernel_rfl) rfl)
    (fun wy hy => mlast_any n v wy (hv.bel (hx.trans hy))) (fun x ov wy h1 h2 h3 => plast_any n x v ov wy (hv.bel (hx.trans h2)) h3 ⟨hn.m1, hn.m3⟩ (by have := hn.h6; omega) hn.ins.1 (ords_in h1).1 (by have := (ords_in h1).2; have := hn.h6; omega) hn.prs))
  obtain ⟨ha, hc, pa, pc, rfl, _, _, hG, hQ⟩ := hv.open
  clear hv hn
  generalize ords n n.holes.length [] = os at *
  generalize n.holes.length = G at *
  generalize n.prs.length = X at *
  generalize n.men = men at *
  go_enter Tryd.func22, Tryd.ntmps22
  go_wp2_with fail
  refine (HF.out _ (by repeat (first | assumption | exact Bel.refl _ | refine Bel.drew ?_ | refine Bel.drewN ?_ _ | refine Bel.alloc ?_ _ | refine Bel.setCell ?_ (by simp <;> omega) _ | refine Bel.trans ?_ (by assumption)))).mono ?_
  rintro e w1 ⟨o, k, ov, h1, rfl, h3, hb⟩
  have HR := Lib.hid (And.intro h1 (And.intro h3 (show Bel w w1 from Bel.trans (by repeat (first | assumption | exact Bel.refl _ | refine Bel.drew ?_ | refine Bel.drewN ?_ _ | refine Bel.alloc ?_ _ | refine Bel.setCell ?_ (by simp <;> omega) _ | refine Bel.trans ?_ (by assumption))) hb)))
  clear h1 h3 hb
  go_wp2
  exact bodyPost_ret (v := .tuple #[.int .i64 k, .int .i64 0]) (by simp [results, Tryd.results22, go_sem]) rfl ⟨o, k, HR.out.1, rfl, HR.out.2.2⟩
theorem mOrder_any (n : MNet) (v : Value) (w : World) (hn : MOk n) (hv : MNetAt w v n) :
    Calls Tryd.prog 44 #[v] w fun e w' => ∃ o k, bestV (highV n) (ords n n.holes.length []) = some (o, k) ∧ ∃ ov, e = .returned (.tuple #[ov, .int .i64 0]) ∧ IntsAt w' ov o ∧ Bel w w' := by
  have HF := Lib.hid (fun wx (hx : Bel w wx) => found_any n v 46 65 (highV n) wx hn (hv.bel hx) (enters_of Tryd.func46 (by kernel_rfl) rfl) (enters_of Tryd.func65 (by kernel_rfl) rfl)
    (fun wy hy => mhigh_any n v wy (hv.bel (hx.trans hy))) (fun x ov wy h1 h2 h3 => phigh_any n x v ov wy (hv.bel (hx.trans h2)) h3 ⟨hn.m1, hn.m3⟩ (by have := hn.h6; omega) hn.ins.1 hn.ins.2 (ords_in h1).1 (by have := (ords_in h1).2; have := hn.h6; omega) hn.prs))
  obtain ⟨ha, hc, pa, pc, rfl, _, _, hG, hQ⟩ := hv.open
  clear hv hn
  generalize ords n n.holes.length [] = os at *
  generalize n.holes.length = G at *
  generalize n.prs.length = X at *
  generalize n.men = men at *
  go_enter Tryd.func44, Tryd.ntmps44
  go_wp2_with fail
  refine (HF.out _ (by repeat (first | assumption | exact Bel.refl _ | refine Bel.drew ?_ | refine Bel.drewN ?_ _ | refine Bel.alloc ?_ _ | refine Bel.setCell ?_ (by simp <;> omega) _ | refine Bel.trans ?_ (by assumption)))).mono ?_
  rintro e w1 ⟨o, k, ov, h1, rfl, h3, hb⟩
  have HR := Lib.hid (And.intro h1 (And.intro h3 (show Bel w w1 from Bel.trans (by repeat (first | assumption | exact Bel.refl _ | refine Bel.drew ?_ | refine Bel.drewN ?_ _ | refine Bel.alloc ?_ _ | refine Bel.setCell ?_ (by simp <;> omega) _ | refine Bel.trans ?_ (by assumption))) hb)))
  clear h1 h3 hb
  go_wp2
  exact bodyPost_ret (v := .tuple #[ov, .int .i64 0]) (by simp [results, Tryd.results44, go_sem]) rfl ⟨o, k, HR.out.1, ov, rfl, HR.out.2.1, HR.out.2.2⟩
end Go.Proofs.YtkdcdhkhadhcfaaDoor

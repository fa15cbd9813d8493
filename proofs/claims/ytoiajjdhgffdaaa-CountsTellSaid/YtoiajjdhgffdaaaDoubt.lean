/-
  law: doubt.
-/
import Derived.Test.YtoiajjdhgffdaaaSpec2
import Derived.Test.YtoiajjdhgffdaaaLaw1
namespace Go.Proofs.Ytoiajjdhgffdaaa
open Go Go.RowKit
set_option maxHeartbeats 1000000
set_option maxRecDepth 100000
noncomputable def lawDoubt (t : CT) : Int := if errR t (isPlaceB t.C t.T (t.T - 1) (t.C - 1)) = 0 then fishHi t (t.T - 1) (t.C - 1) - fishLo t (t.T - 1) (t.C - 1) else -1

theorem lawDoubt_any (t : CT) (v : Value) (w : World) (hv : TrapAt w v t) (f1 : 1 ≤ t.C) (f2 : t.C ≤ 4) (f3 : 1 ≤ t.T) (f4 : t.T ≤ 5) :
    Calls Try.prog 53 #[v] w fun e w' => e = .returned (.int .i64 (lawDoubt t)) ∧ Bel w w' := by
  have HV := Lib.hid hv
  obtain ⟨ov, wv, rfl, hrows, hwords⟩ := hv
  clear hrows hwords
  have HF := Lib.hid (fun w' hw' => Fish_any t (.agg #[.int .i64 t.C, .int .i64 t.T, ov, wv]) (t.T - 1) (t.C - 1) w' hw')
  unfold SpanPost at HF
  by_cases he : errR t (isPlaceB t.C t.T (t.T - 1) (t.C - 1)) = 0
  · have HD := Lib.hid (show lawDoubt t = fishHi t (t.T - 1) (t.C - 1) - fishLo t (t.T - 1) (t.C - 1) by unfold lawDoubt; rw [if_pos he])
    obtain ⟨hex, hf⟩ := errR_exact he
    have hbd := Fish_bounds hf hex (t.T.toNat - 1) (t.C.toNat - 1) (by omega) (by omega)
    rw [show ((t.T.toNat - 1 : Nat) : Int) = t.T - 1 by omega, show ((t.C.toNat - 1 : Nat) : Int) = t.C - 1 by omega] at hbd
    simp only [he, if_true] at HF
    clear hex hf he
    generalize fishHi t (t.T - 1) (t.C - 1) = hi at *
    generalize fishLo t (t.T - 1) (t.C - 1) = lo at *
    obtain ⟨g1, g2, g3⟩ := hbd
    have d1 : decide (lo < 0) = false := by simp; omega
    have d2 : decide (40 < hi) = false := by simp; omega
    go_enter Try.func53, Try.ntmps53
    go_wp2_with (go_at_call 19; refine (HF.out _ (HV.out.bel (by repeat (first | assumption | exact Bel.refl _ | refine Bel.drew ?_ | refine Bel.drewN ?_ _ | refine Bel.alloc ?_ _ | refine Bel.setCell ?_ (by simp <;> omega) _ | refine Bel.trans ?_ (by assumption))))).mono ?_; rintro e w' ⟨rfl, hb⟩; have hcr := hb.cells; have hfr := hb.frozens; have hz := hb.szle; (try simp only [World.size_alloc] at hz); have z0 : w.heap.size < w'.heap.size := by omega)
    go_ret
    exact ⟨by rw [HD.out]; rfl, (by repeat (first | assumption | exact Bel.refl _ | refine Bel.drew ?_ | refine Bel.drewN ?_ _ | refine Bel.alloc ?_ _ | refine Bel.setCell ?_ (by simp <;> omega) _ | refine Bel.trans ?_ (by assumption)))⟩
  · have HD := Lib.hid (show lawDoubt t = -1 by unfold lawDoubt; rw [if_neg he])
    simp only [if_neg he] at HF
    have hne : (errR t (isPlaceB t.C t.T (t.T - 1) (t.C - 1)) != 0) = true := by rw [bne_iff_ne]; exact he
    generalize errR t (isPlaceB t.C t.T (t.T - 1) (t.C - 1)) = er at *
    clear he
    go_enter Try.func53, Try.ntmps53
    go_wp2_with (go_at_call 19; refine (HF.out _ (HV.out.bel (by repeat (first | assumption | exact Bel.refl _ | refine Bel.drew ?_ | refine Bel.drewN ?_ _ | refine Bel.alloc ?_ _ | refine Bel.setCell ?_ (by simp <;> omega) _ | refine Bel.trans ?_ (by assumption))))).mono ?_; rintro e w' ⟨rfl, hb⟩; have hcr := hb.cells; have hfr := hb.frozens; have hz := hb.szle; (try simp only [World.size_alloc] at hz); have z0 : w.heap.size < w'.heap.size := by omega)
    go_ret
    exact ⟨by rw [HD.out]; rfl, (by repeat (first | assumption | exact Bel.refl _ | refine Bel.drew ?_ | refine Bel.drewN ?_ _ | refine Bel.alloc ?_ _ | refine Bel.setCell ?_ (by simp <;> omega) _ | refine Bel.trans ?_ (by assumption)))⟩
end Go.Proofs.Ytoiajjdhgffdaaa

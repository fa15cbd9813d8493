/-
  mesh: the reference's Check of a net without pairs.
-/
import Derived.Test.YtkdcdhkhadhcfaaDoorHoRef
namespace Go.Proofs.YtkdcdhkhadhcfaaDoor
open Go Go.RowKit
set_option maxHeartbeats 8000000
set_option maxRecDepth 100000
def r4Ok (m : Int) (hs : List Hole) : Prop := 1 ≤ m ∧ m ≤ 3 ∧ hs.length ≤ 6 ∧ holesB hs = true
theorem R4Check_any (m : Int) (hs : List Hole) (hv : Value) (w : World) (hh : HolesAt w hv hs) :
    Calls Tryd.prog 18 #[.agg #[.int .i64 m, hv, .slice none 0 0]] w fun e w' => ∃ r : Int, e = .returned (.int .i64 r) ∧ (r = 0 → r4Ok m hs) ∧ Bel w w' := by
  have HHX := Lib.hid hh
  obtain ⟨ha, hc, hb, ho, rfl, hha, ⟨hG, _⟩, hcc⟩ := hh
  have hix := idxHoles (c := hc) hha
  have HCC := Lib.hid hcc
  have HWM := Lib.hid (fun wx => R4within_any m 1 3 wx)
  have HRO := Lib.hid (fun (h6 : hs.length ≤ 6) wx => R4Orders_any m ha hs.length hc h6 hs.length [] (.slice none 0 0) wx (by simp) (IntsAt.nil wx))
  have HOK := Lib.hid (fun (h1 : withinB m 1 3 = true) (h6 : hs.length ≤ 6) (h8 : allB hs.length (fun i => holeB (atH hs i)) = true) => show r4Ok m hs from ⟨(withinB_true.1 h1).1, (withinB_true.1 h1).2, h6, h8⟩)
  clear hha hcc
  cases h0 : withinB m 1 3
  · rw [h0] at HWM
    clear HRO HOK h0
    go_enter Tryd.func18, Tryd.ntmps18
    go_wp2_with (go_at_call 39; refine (HWM.out _).mono ?_; rintro e w' ⟨rfl, rfl⟩)
    go_ret
    exact ⟨40, rfl, (fun h => absurd h (by decide)), (by repeat (first | assumption | exact Bel.refl _ | refine Bel.drew ?_ | refine Bel.drewN ?_ _ | refine Bel.alloc ?_ _ | refine Bel.setCell ?_ (by simp <;> omega) _ | refine Bel.trans ?_ (by assumption)))⟩
  · rw [h0] at HWM
    have HH0 := Lib.hid h0
    clear h0
    by_cases h6 : hs.length ≤ 6
    · have f6 : ¬ (6 : Int) < (hs.length : Int) := by omega
      have g6 : decide ((6 : Int) < (hs.length : Int)) = false := decide_eq_false f6
      have HR := Lib.hid (HRO.out h6)
      have HO := Lib.hid (HOK.out HH0.out h6)
      clear HRO HOK
      generalize hs.length = G at *
      go_enter Tryd.func18, Tryd.ntmps18
      go_wp2_with (go_at_call 39; refine (HWM.out _).mono ?_; rintro e w' ⟨rfl, rfl⟩)
      have x0 : (w.alloc (.cells #[.int .i64 m, .slice ha G hc, .slice none 0 0] 62)).cell? ⟨w.heap.size, 0, none⟩ = some (.int .i64 m) := (row_facts (new_row rfl)).1 0
      have x1 : (w.alloc (.cells #[.int .i64 m, .slice ha G hc, .slice none 0 0] 62)).cell? ⟨w.heap.size, 1, none⟩ = some (.slice ha G hc) := (row_facts (new_row rfl)).1 1
      have x2 : (w.alloc (.cells #[.int .i64 m, .slice ha G hc, .slice none 0 0] 62)).cell? ⟨w.heap.size, 2, none⟩ = some (.slice none 0 0) := (row_facts (new_row rfl)).1 2
      have HB := Lib.hid (show Bel w (w.alloc (.cells #[.int .i64 m, .slice ha G hc, .slice none 0 0] 62)) from (Bel.refl w).alloc _)
      generalize World.alloc _ _ = W at *
      clear HWM
      go_loopw [3] (fun i wr => ∃ k : Nat, k ≤ G ∧ i = .int .i64 k ∧ Hid (allB k (fun i => holeB (atH hs i)) = true) ∧ Bel W wr) (fun i _ => G - (intOf i).toNat)
      case atStart => exact ⟨0, by omega, rfl, rfl, Bel.refl _⟩
      case round =>
        obtain ⟨k, hk, rfl, hno, hw⟩ := hrel
        have y0 := hw.cell x0
        have y1 := hw.cell x1
        have y2 := hw.cell x2
        have ly := cell_lt y0
        have HW := Lib.hid hw
        have HBW := Lib.hid (HB.out.trans hw)
        clear hw x0 x1 x2
        by_cases hlt : k < G
        · have hlti : (k : Int) < (G : Int) := by omega
          have k0 := HBW.out.cell (HCC.out k hlt).1
          have k1 := HBW.out.cell (HCC.out k hlt).2.1
          have k2 := HBW.out.cell (HCC.out k hlt).2.2.1
          have k3 := HBW.out.cell (HCC.out k hlt).2.2.2
          have lk := cell_lt k0
          have HR1 := Lib.hid (fun (hq : holeB (atH hs k) = true) => allB_succ hno.out (f := fun i => holeB (atH hs i)) hq)
          have HX := Lib.hid (show holeB (atH hs k) = (withinB (atH hs k).frm 0 20 && (withinB (atH hs k).hi 0 20 && (withinB (atH hs k).lo 0 (atH hs k).hi && withinB (atH hs k).hrs 1 9))) from rfl)
          clear HCC
          generalize atH hs k = s at *
          obtain ⟨frm, lo, hi, hrs⟩ := s
          simp only at k0 k1 k2 k3 HX HR1
          cases h0 : withinB frm 0 20
          · skip
            go_wp2_with (first | (go_at_call 39; refine (R4within_any _ _ _ _).mono ?_; rintro e w' ⟨rfl, rfl⟩))
            go_ret
            exact ⟨40, rfl, (fun h => absurd h (by decide)), HBW.out.trans (by repeat (first | assumption | exact Bel.refl _ | refine Bel.drew ?_ | refine Bel.drewN ?_ _ | refine Bel.alloc ?_ _ | refine Bel.setCell ?_ (by simp <;> omega) _ | refine Bel.trans ?_ (by assumption)))⟩
          · skip
            cases h1 : withinB hi 0 20
            · skip
              go_wp2_with (first | (go_at_call 39; refine (R4within_any _ _ _ _).mono ?_; rintro e w' ⟨rfl, rfl⟩))
              go_ret
              exact ⟨40, rfl, (fun h => absurd h (by decide)), HBW.out.trans (by repeat (first | assumption | exact Bel.refl _ | refine Bel.drew ?_ | refine Bel.drewN ?_ _ | refine Bel.alloc ?_ _ | refine Bel.setCell ?_ (by simp <;> omega) _ | refine Bel.trans ?_ (by assumption)))⟩
            · skip
              cases h2 : withinB lo 0 hi
              · skip
                go_wp2_with (first | (go_at_call 39; refine (R4within_any _ _ _ _).mono ?_; rintro e w' ⟨rfl, rfl⟩))
                go_ret
                exact ⟨40, rfl, (fun h => absurd h (by decide)), HBW.out.trans (by repeat (first | assumption | exact Bel.refl _ | refine Bel.drew ?_ | refine Bel.drewN ?_ _ | refine Bel.alloc ?_ _ | refine Bel.setCell ?_ (by simp <;> omega) _ | refine Bel.trans ?_ (by assumption)))⟩
              · skip
                cases h3 : withinB hrs 1 9
                · skip
                  go_wp2_with (first | (go_at_call 39; refine (R4within_any _ _ _ _).mono ?_; rintro e w' ⟨rfl, rfl⟩))
                  go_ret
                  exact ⟨40, rfl, (fun h => absurd h (by decide)), HBW.out.trans (by repeat (first | assumption | exact Bel.refl _ | refine Bel.drew ?_ | refine Bel.drewN ?_ _ | refine Bel.alloc ?_ _ | refine Bel.setCell ?_ (by simp <;> omega) _ | refine Bel.trans ?_ (by assumption)))⟩
                · have HNX := Lib.hid (HR1.out (by rw [HX.out, h0, h1, h2, h3]; rfl))
                  go_wp2_with (first | (go_at_call 39; refine (R4within_any _ _ _ _).mono ?_; rintro e w' ⟨rfl, rfl⟩))
                  go_roundw
                  case rel => exact ⟨k + 1, by omega, by go_num, HNX.out, HW.out.trans (by repeat (first | assumption | exact Bel.refl _ | refine Bel.drew ?_ | refine Bel.drewN ?_ _ | refine Bel.alloc ?_ _ | refine Bel.setCell ?_ (by simp <;> omega) _ | refine Bel.trans ?_ (by assumption)))⟩
                  case measure => simp [intOf]; omega
        · have hke : k = G := by omega
          have HAL := Lib.hid (show allB G (fun i => holeB (atH hs i)) = true by rw [← hke]; exact hno.out)
          have hlti : ¬ (k : Int) < (G : Int) := by omega
          clear hke HCC
          go_wp2_with fail
          go_loopw [5] (fun i wq => i = .int .i64 0 ∧ wq = wr) (fun _ _ => 0)
          case atStart => exact ⟨rfl, rfl⟩
          case round =>
            obtain ⟨rfl, rfl⟩ := hrel
            go_wp2_with fail
            refine (HR.out _).mono ?_
            rintro e w5 ⟨V, n, rfl, ⟨a, c, xs, rfl, _, _, _⟩, hn, hb5⟩
            have HB5 := Lib.hid (HBW.out.trans hb5)
            clear hb5
            have HO2 := Lib.hid (HO.out HAL.out)
            have hnb : n ≤ 46656 := Nat.le_trans hn (pow_six h6 (Nat.le_refl _))
            clear hn HAL HO
            by_cases hz : n = 0
            · subst hz
              go_wp2
              go_ret
              exact ⟨40, rfl, (fun h => absurd h (by decide)), HB5.out⟩
            · have hz1 : ((n : Int) == 0) = false := by rw [beq_eq_false_iff_ne]; omega
              clear hz
              go_wp2
              go_ret
              exact ⟨0, rfl, (fun _ => HO2.out), HB5.out⟩
    · have f6 : (6 : Int) < (hs.length : Int) := by omega
      have g6 : decide ((6 : Int) < (hs.length : Int)) = true := decide_eq_true f6
      clear HRO HOK
      generalize hs.length = G at *
      go_enter Tryd.func18, Tryd.ntmps18
      go_wp2_with (go_at_call 39; refine (HWM.out _).mono ?_; rintro e w' ⟨rfl, rfl⟩)
      go_ret
      exact ⟨40, rfl, (fun h => absurd h (by decide)), (by repeat (first | assumption | exact Bel.refl _ | refine Bel.drew ?_ | refine Bel.drewN ?_ _ | refine Bel.alloc ?_ _ | refine Bel.setCell ?_ (by simp <;> omega) _ | refine Bel.trans ?_ (by assumption)))⟩
end Go.Proofs.YtkdcdhkhadhcfaaDoor

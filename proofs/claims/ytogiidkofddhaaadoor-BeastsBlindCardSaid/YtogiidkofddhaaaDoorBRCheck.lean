/-
  beasts: the reference's Check.
-/
import Derived.Test.YtogiidkofddhaaaDoorBRef1
namespace Go.Proofs.YtogiidkofddhaaaDoor
open Go Go.RowKit
set_option maxHeartbeats 4000000
set_option maxRecDepth 100000
/-- A door's faults, as the reference looks for them. -/
theorem doorB_eq {n : Int} (h1 : 1 ≤ n) (h2 : n ≤ 5) (d : BD) : doorB n d = (chamB n d.a && ((chamB n d.b || decide (d.b = -1)) && (!decide (d.a = d.b) && withinB d.cost 0 20))) := by
  unfold doorB
  rw [chamB_in h1 h2, chamB_in h1 h2, Bool.or_comm]
theorem R6Check_any (b : BT) (v : Value) (w : World) (hv : BTrapAt w v b) : Calls Tryd.prog 55 #[v] w fun e w' => e = .returned (.int .i64 (chkT b)) ∧ Bel w w' := by
  have HVT := Lib.hid hv
  obtain ⟨da, dc, sa, sc, pa, pc, rfl, hd, hs, hp⟩ := hv.open
  have HS := Lib.hid hs
  have HP := Lib.hid hp
  obtain ⟨db, doff, hda, hdl, _, hdc⟩ := hd.open
  obtain ⟨_, _, _, hpl, _⟩ := hp.open
  have hixd := idxDoors (c := dc) hda
  have HDC := Lib.hid hdc
  have HV := Lib.hid (show validT b = (withinB b.n 1 5 && (decide (b.doors.length ≤ 8) && (doorsB b.n b.doors && (risingB b.seen 0 (b.n - 1) && (risingB b.places 0 (b.n - 1) && (decide (b.places.length ≠ 0) && (withinB b.look 0 20 && withinB b.eats 1 9))))))) from rfl)
  have HBX := Lib.hid (fun wx hx => (BoxB.new (w := w) (b := b) (dv := .slice da b.doors.length dc) (sv := .slice sa b.seen.length sc) (pv := .slice pa b.places.length pc) (T := 25)).bel (w' := wx) hx)
  clear hd hs hp hda hdc hv
  cases h1 : withinB b.n 1 5
  · have HI := Lib.hid (chkT_false (b := b) (by rw [HV.out, h1]; rfl))
    go_enter Tryd.func55, Tryd.ntmps55
    go_wp2_with (first | (go_at_call 74; refine (R6within_any _ _ _ _).mono ?_; rintro e w' ⟨rfl, rfl⟩))
    go_ret
    exact ⟨ri HI.out, (by repeat (first | assumption | exact Bel.refl _ | refine Bel.drew ?_ | refine Bel.drewN ?_ _ | refine Bel.alloc ?_ _ | refine Bel.setCell ?_ (by simp <;> omega) _ | refine Bel.trans ?_ (by assumption)))⟩
  obtain ⟨b1, b2⟩ := withinB_true.1 h1
  by_cases h2 : b.doors.length ≤ 8
  case neg =>
    have HI := Lib.hid (chkT_false (b := b) (by rw [HV.out, h1, decide_eq_false h2]; rfl))
    have hb4 : decide (8 < b.doors.length) = true := by simp; omega
    go_enter Tryd.func55, Tryd.ntmps55
    go_wp2_with (first | (go_at_call 74; refine (R6within_any _ _ _ _).mono ?_; rintro e w' ⟨rfl, rfl⟩))
    go_ret
    exact ⟨ri HI.out, (by repeat (first | assumption | exact Bel.refl _ | refine Bel.drew ?_ | refine Bel.drewN ?_ _ | refine Bel.alloc ?_ _ | refine Bel.setCell ?_ (by simp <;> omega) _ | refine Bel.trans ?_ (by assumption)))⟩
  have hb4 : decide (8 < b.doors.length) = false := by simp; omega
  have hb5 : ¬ 8 < b.doors.length := by omega
  cases h3 : withinB b.look 0 20
  · have HI := Lib.hid (chkT_false (b := b) (by rw [HV.out, h3]; simp))
    go_enter Tryd.func55, Tryd.ntmps55
    go_wp2_with (first | (go_at_call 74; refine (R6within_any _ _ _ _).mono ?_; rintro e w' ⟨rfl, rfl⟩))
    go_ret
    exact ⟨ri HI.out, (by repeat (first | assumption | exact Bel.refl _ | refine Bel.drew ?_ | refine Bel.drewN ?_ _ | refine Bel.alloc ?_ _ | refine Bel.setCell ?_ (by simp <;> omega) _ | refine Bel.trans ?_ (by assumption)))⟩
  cases h4 : withinB b.eats 1 9
  · have HI := Lib.hid (chkT_false (b := b) (by rw [HV.out, h4]; simp))
    go_enter Tryd.func55, Tryd.ntmps55
    go_wp2_with (first | (go_at_call 74; refine (R6within_any _ _ _ _).mono ?_; rintro e w' ⟨rfl, rfl⟩))
    go_ret
    exact ⟨ri HI.out, (by repeat (first | assumption | exact Bel.refl _ | refine Bel.drew ?_ | refine Bel.drewN ?_ _ | refine Bel.alloc ?_ _ | refine Bel.setCell ?_ (by simp <;> omega) _ | refine Bel.trans ?_ (by assumption)))⟩
  have HV2 : Hid (validT b = (doorsB b.n b.doors && (risingB b.seen 0 (b.n - 1) && (risingB b.places 0 (b.n - 1) && decide (b.places.length ≠ 0))))) := Lib.hid (by
    rw [HV.out, h1, decide_eq_true h2, h3, h4]; simp)
  have HDE := Lib.hid (fun d => doorB_eq b1 b2 d)
  have HCH := Lib.hid (fun p wx hx => R6IsChamber_any b p _ wx (HVT.out.bel (w' := wx) hx))
  have HRS := Lib.hid (fun lo hi wx hx => Rising_any (.slice sa b.seen.length sc) b.seen lo hi wx (HS.out.bel (w' := wx) hx))
  have HRP := Lib.hid (fun lo hi wx hx => Rising_any (.slice pa b.places.length pc) b.places lo hi wx (HP.out.bel (w' := wx) hx))
  clear HV h2
  go_enter Tryd.func55, Tryd.ntmps55
  go_wp2_with (first | (go_at_call 74; refine (R6within_any _ _ _ _).mono ?_; rintro e w' ⟨rfl, rfl⟩))
  generalize hW0 : World.alloc _ _ = W0
  have HB0 : Hid (Bel w W0) := Lib.hid (by rw [← hW0]; exact (by repeat (first | assumption | exact Bel.refl _ | refine Bel.drew ?_ | refine Bel.drewN ?_ _ | refine Bel.alloc ?_ _ | refine Bel.setCell ?_ (by simp <;> omega) _ | refine Bel.trans ?_ (by assumption))))
  have HX : Hid (BoxB W0 w.heap.size b (.slice da b.doors.length dc) (.slice sa b.seen.length sc) (.slice pa b.places.length pc)) := Lib.hid (by rw [← hW0]; exact BoxB.new)
  clear hW0 HBX
  go_loopw [3] (fun i wr => ∃ k : Nat, k ≤ b.doors.length ∧ i = .int .i64 k ∧ Hid (allB k (fun i => doorB b.n (atD b.doors i)) = true) ∧ Bel W0 wr) (fun i _ => b.doors.length - (intOf i).toNat)
  case atStart => exact ⟨0, by omega, rfl, rfl, Bel.refl _⟩
  case round =>
    obtain ⟨k, hk, rfl, hno, hB⟩ := hrel
    obtain ⟨y0, y1, y2, y3, y4, y5⟩ := HX.out.bel hB
    have ly := cell_lt y0
    have HB := Lib.hid (HB0.out.trans hB)
    have HBR := Lib.hid hB
    by_cases hlt : k < b.doors.length
    · have hki : (k : Int) < (b.doors.length : Int) := by omega
      obtain ⟨d0, d1, d2⟩ := HDC.out k hlt
      replace d0 := HB.out.cell d0
      replace d1 := HB.out.cell d1
      replace d2 := HB.out.cell d2
      have ld := cell_lt d0
      have HD := Lib.hid (HDE.out (atD b.doors k))
      have HBAD := Lib.hid (fun (h : doorB b.n (atD b.doors k) = false) => chkT_false (b := b) (by rw [HV2.out, show doorsB b.n b.doors = false from allB_false k hlt h]; rfl))
      have HGOOD := Lib.hid (fun (h : doorB b.n (atD b.doors k) = true) => allB_succ hno.out (f := fun i => doorB b.n (atD b.doors i)) h)
      clear hB
      generalize atD b.doors k = d at *
      have HCA := Lib.hid (fun wx hx => HCH.out d.a wx hx)
      have HCB := Lib.hid (fun wx hx => HCH.out d.b wx hx)
      have WITHIN := Lib.hid (fun wx => R6within_any d.cost 0 20 wx)
      go_wp2_with fail
      refine (HCA.out _ (HB.out.trans (by repeat (first | assumption | exact Bel.refl _ | refine Bel.drew ?_ | refine Bel.drewN ?_ _ | refine Bel.alloc ?_ _ | refine Bel.setCell ?_ (by simp <;> omega) _ | refine Bel.trans ?_ (by assumption))))).mono ?_
      rintro e w3 ⟨rfl, hb⟩
      have a0 : w3.cell? ⟨wr.heap.size, 0, none⟩ = some (.int .i64 d.a) := hb.cell ((row_facts (new_row rfl)).1 0)
      have a1 : w3.cell? ⟨wr.heap.size, 1, none⟩ = some (.int .i64 d.b) := hb.cell ((row_facts (new_row rfl)).1 1)
      have a2 : w3.cell? ⟨wr.heap.size, 2, none⟩ = some (.int .i64 d.cost) := hb.cell ((row_facts (new_row rfl)).1 2)
      have la := cell_lt a0
      have HK := Lib.hid (show Bel wr w3 from Bel.trans (by repeat (first | assumption | exact Bel.refl _ | refine Bel.drew ?_ | refine Bel.drewN ?_ _ | refine Bel.alloc ?_ _ | refine Bel.setCell ?_ (by simp <;> omega) _ | refine Bel.trans ?_ (by assumption))) hb)
      replace y0 := HK.out.cell y0
      replace y1 := HK.out.cell y1
      replace y2 := HK.out.cell y2
      replace y3 := HK.out.cell y3
      replace y4 := HK.out.cell y4
      replace y5 := HK.out.cell y5
      have ly3 := cell_lt y0
      have HB3 := Lib.hid (HB.out.trans HK.out)
      have HBR3 := Lib.hid (HBR.out.trans HK.out)
      clear hb d0 d1 d2 ld HK HCA
      cases g1 : chamB b.n d.a
      · have HI := Lib.hid (HBAD.out (by rw [HD.out, g1]; rfl))
        clear g1 HBAD HGOOD HD
        go_wp2
        go_ret
        exact ⟨ri HI.out, HB3.out⟩
      rw [g1] at HD
      clear g1
      go_wp2_with fail
      refine (HCB.out _ HB3.out).mono ?_
      rintro e w4 ⟨rfl, hb⟩
      replace a0 := hb.cell a0
      replace a1 := hb.cell a1
      replace a2 := hb.cell a2
      have la4 := cell_lt a0
      have HB4 := Lib.hid (HB3.out.trans hb)
      have HBR4 := Lib.hid (HBR3.out.trans hb)
      clear hb y0 y1 y2 y3 y4 y5 ly ly3 HB3 HBR3 HCB
      cases g2 : chamB b.n d.b
      rotate_left
      all_goals
        rw [g2] at HD
        clear g2
      · cases g4 : decide (d.a = d.b)
        · have q4 : (d.a == d.b) = false := by simpa using g4
          cases g5 : withinB d.cost 0 20
          · have HI := Lib.hid (HBAD.out (by rw [HD.out, g4, g5]; rfl))
            rw [g5] at WITHIN
            clear g4 g5 HBAD HGOOD HD
            go_wp2_with (go_at_call 74; refine (WITHIN.out _).mono ?_; rintro e w' ⟨rfl, rfl⟩)
            go_ret
            exact ⟨ri HI.out, HB4.out⟩
          · have HR := Lib.hid (HGOOD.out (by rw [HD.out, g4, g5]; rfl))
            rw [g5] at WITHIN
            clear g4 g5 HBAD HGOOD HD
            go_wp2_with (go_at_call 74; refine (WITHIN.out _).mono ?_; rintro e w' ⟨rfl, rfl⟩)
            go_roundw
            case rel => exact ⟨k + 1, by omega, by go_num, HR, HBR4.out⟩
            case measure => simp [intOf]; omega
        · have q4 : (d.a == d.b) = true := by simpa using g4
          have HI := Lib.hid (HBAD.out (by rw [HD.out, g4]; rfl))
          clear g4 HBAD HGOOD HD
          go_wp2
          go_ret
          exact ⟨ri HI.out, HB4.out⟩
      · cases g3 : decide (d.b = -1)
        · have q3 : (d.b != -1) = true := by simpa using g3
          have HI := Lib.hid (HBAD.out (by rw [HD.out, g3]; rfl))
          clear g3 HBAD HGOOD HD
          go_wp2
          go_ret
          exact ⟨ri HI.out, HB4.out⟩
        have q3 : (d.b != -1) = false := by simpa using g3
        rw [g3] at HD
        clear g3
        cases g4 : decide (d.a = d.b)
        · have q4 : (d.a == d.b) = false := by simpa using g4
          cases g5 : withinB d.cost 0 20
          · have HI := Lib.hid (HBAD.out (by rw [HD.out, g4, g5]; rfl))
            rw [g5] at WITHIN
            clear g4 g5 HBAD HGOOD HD
            go_wp2_with (go_at_call 74; refine (WITHIN.out _).mono ?_; rintro e w' ⟨rfl, rfl⟩)
            go_ret
            exact ⟨ri HI.out, HB4.out⟩
          · have HR := Lib.hid (HGOOD.out (by rw [HD.out, g4, g5]; rfl))
            rw [g5] at WITHIN
            clear g4 g5 HBAD HGOOD HD
            go_wp2_with (go_at_call 74; refine (WITHIN.out _).mono ?_; rintro e w' ⟨rfl, rfl⟩)
            go_roundw
            case rel => exact ⟨k + 1, by omega, by go_num, HR, HBR4.out⟩
            case measure => simp [intOf]; omega
        · have q4 : (d.a == d.b) = true := by simpa using g4
          have HI := Lib.hid (HBAD.out (by rw [HD.out, g4]; rfl))
          clear g4 HBAD HGOOD HD
          go_wp2
          go_ret
          exact ⟨ri HI.out, HB4.out⟩
    · have hki : ¬ (k : Int) < (b.doors.length : Int) := by omega
      have HV3 : Hid (validT b = (risingB b.seen 0 (b.n - 1) && (risingB b.places 0 (b.n - 1) && decide (b.places.length ≠ 0)))) := Lib.hid (by
        rw [HV2.out, show doorsB b.n b.doors = true from by unfold doorsB; rw [show b.doors.length = k by omega]; exact hno.out]; rfl)
      have HRS1 := Lib.hid (fun wx hx => HRS.out 0 (b.n - 1) wx hx)
      have HRP1 := Lib.hid (fun wx hx => HRP.out 0 (b.n - 1) wx hx)
      clear hB HV2
      cases r1 : risingB b.seen 0 (b.n - 1)
      · have HI := Lib.hid (chkT_false (b := b) (by rw [HV3.out, r1]; rfl))
        rw [r1] at HRS1
        clear r1
        go_wp2_with fail
        refine (HRS1.out _ (HB.out.trans (by repeat (first | assumption | exact Bel.refl _ | refine Bel.drew ?_ | refine Bel.drewN ?_ _ | refine Bel.alloc ?_ _ | refine Bel.setCell ?_ (by simp <;> omega) _ | refine Bel.trans ?_ (by assumption))))).mono ?_
        rintro e w3 ⟨rfl, hb⟩
        have HF := Lib.hid (HB.out.trans (Bel.trans (by repeat (first | assumption | exact Bel.refl _ | refine Bel.drew ?_ | refine Bel.drewN ?_ _ | refine Bel.alloc ?_ _ | refine Bel.setCell ?_ (by simp <;> omega) _ | refine Bel.trans ?_ (by assumption))) hb))
        clear hb
        go_wp2
        go_ret
        exact ⟨ri HI.out, HF.out⟩
      rw [r1] at HRS1
      cases r2 : risingB b.places 0 (b.n - 1)
      all_goals
        by_cases r3 : b.places.length = 0
        all_goals
          have HI : Hid (chkT b = _) := Lib.hid (by unfold chkT; rw [HV3.out, r1, r2, show decide (b.places.length ≠ 0) = _ from by first | exact decide_eq_true r3 | exact decide_eq_false (fun q => q r3)])
          first
            | (have hz : ((b.places.length : Int) == 0) = true := by simp [r3])
            | (have hz : ((b.places.length : Int) == 0) = false := by rw [beq_eq_false_iff_ne]; omega)
          rw [r2] at HRP1
          clear r1 r2 r3
          go_wp2_with fail
          refine (HRS1.out _ (HB.out.trans (by repeat (first | assumption | exact Bel.refl _ | refine Bel.drew ?_ | refine Bel.drewN ?_ _ | refine Bel.alloc ?_ _ | refine Bel.setCell ?_ (by simp <;> omega) _ | refine Bel.trans ?_ (by assumption))))).mono ?_
          rintro e w3 ⟨rfl, hb⟩
          have HK := Lib.hid (show Bel wr w3 from Bel.trans (by repeat (first | assumption | exact Bel.refl _ | refine Bel.drew ?_ | refine Bel.drewN ?_ _ | refine Bel.alloc ?_ _ | refine Bel.setCell ?_ (by simp <;> omega) _ | refine Bel.trans ?_ (by assumption))) hb)
          replace y0 := HK.out.cell y0
          replace y1 := HK.out.cell y1
          replace y5 := HK.out.cell y5
          have HB3 := Lib.hid (HB.out.trans HK.out)
          clear hb
          go_wp2_with fail
          refine (HRP1.out _ (HB3.out.trans (by repeat (first | assumption | exact Bel.refl _ | refine Bel.drew ?_ | refine Bel.drewN ?_ _ | refine Bel.alloc ?_ _ | refine Bel.setCell ?_ (by simp <;> omega) _ | refine Bel.trans ?_ (by assumption))))).mono ?_
          rintro e w4 ⟨rfl, hb⟩
          have HK4 := Lib.hid (show Bel w3 w4 from Bel.trans (by repeat (first | assumption | exact Bel.refl _ | refine Bel.drew ?_ | refine Bel.drewN ?_ _ | refine Bel.alloc ?_ _ | refine Bel.setCell ?_ (by simp <;> omega) _ | refine Bel.trans ?_ (by assumption))) hb)
          replace y0 := HK4.out.cell y0
          replace y1 := HK4.out.cell y1
          replace y5 := HK4.out.cell y5
          have HB4 := Lib.hid (HB3.out.trans HK4.out)
          clear hb
          go_wp2
          go_ret
          exact ⟨ri (by rw [HI.out]; rfl), HB4.out⟩
end Go.Proofs.YtogiidkofddhaaaDoor

/-
  anchors: the reference's Check and IsTruth, the law's Huge.
-/
import Derived.Test.YtkdcdhkhadhcfaaDoorNRow
namespace Go.Proofs.YtkdcdhkhadhcfaaDoor
open Go Go.RowKit
set_option maxHeartbeats 4000000
set_option maxRecDepth 100000
theorem R2within_any (n l h : Int) (w : World) : Calls Tryd.prog 27 #[.int .i64 n, .int .i64 l, .int .i64 h] w fun e w' => e = .returned (.bool (withinB n l h)) ∧ w = w' := by
  go_enter Tryd.func27, Tryd.ntmps27
  go_wp2_with (first | (go_at_call 24; refine (Within_any _ _ _ _).mono ?_; rintro e w' ⟨rfl, rfl⟩))
  go_ret
  exact ⟨rfl, rfl⟩
theorem R2isSpan_any (s : NSp) (m : Int) (w : World) : Calls Tryd.prog 26 #[.agg #[.int .i64 s.lo, .int .i64 s.hi], .int .i64 m] w fun e w' => e = .returned (.bool (spB s m)) ∧ Bel w w' := by
  have HX := Lib.hid (show spB s m = (withinB s.hi 0 m && withinB s.lo 0 s.hi) from rfl)
  cases h1 : withinB s.hi 0 m
  · rw [h1] at HX
    go_enter Tryd.func26, Tryd.ntmps26
    go_wp2_with (first | (go_at_call 27; refine (R2within_any _ _ _ _).mono ?_; rintro e w' ⟨rfl, rfl⟩))
    go_ret
    exact ⟨rb (by rw [HX.out]; rfl), (by repeat (first | assumption | exact Bel.refl _ | refine Bel.drew ?_ | refine Bel.drewN ?_ _ | refine Bel.alloc ?_ _ | refine Bel.setCell ?_ (by simp <;> omega) _ | refine Bel.trans ?_ (by assumption)))⟩
  · rw [h1] at HX
    go_enter Tryd.func26, Tryd.ntmps26
    go_wp2_with (first | (go_at_call 27; refine (R2within_any _ _ _ _).mono ?_; rintro e w' ⟨rfl, rfl⟩))
    go_ret
    exact ⟨rb (by rw [HX.out]; rfl), (by repeat (first | assumption | exact Bel.refl _ | refine Bel.drew ?_ | refine Bel.drewN ?_ _ | refine Bel.alloc ?_ _ | refine Bel.setCell ?_ (by simp <;> omega) _ | refine Bel.trans ?_ (by assumption)))⟩
theorem R2Check_any (n : Net) (v : Value) (w : World) (hv : NetAt w v n) : Calls Tryd.prog 8 #[v] w fun e w' => e = .returned (.int .i64 (netE n)) ∧ Bel w w' := by
  have HX := Lib.hid (show netE n = if netB n then 0 else 20 from rfl)
  unfold netB headB at HX
  obtain ⟨ga, gc, aa, ac, xa, xc, rfl, hg, ha, hx⟩ := hv.open
  have HS := Lib.hid (fun s m wx => R2isSpan_any s m wx)
  obtain ⟨ga', gc', gb, go, ge, hga, ⟨lg, _⟩, hgc⟩ := hg
  injection ge with ge1 _ ge3
  subst ge1 ge3
  obtain ⟨aa', ac', ab, ao, ae, haa, ⟨la, _⟩, hac⟩ := ha
  injection ae with ae1 _ ae3
  subst ae1 ae3
  obtain ⟨xa', xc', xb, xo, xe, hxa, ⟨lx, _⟩, hxc⟩ := hx
  injection xe with xe1 _ xe3
  subst xe1 xe3
  have hixg := idxGrips (c := gc) hga
  have hixa := idxAns (c := ac) haa
  have hixx := idxWalls (c := xc) hxa
  have HGC := Lib.hid hgc
  have HAC := Lib.hid hac
  have HXC := Lib.hid hxc
  have HGB := Lib.hid (show gripsB n.grips = allB n.grips.length fun i => spB (atG n.grips i) 9 from rfl)
  have HAB := Lib.hid (show ansB n.grips.length n.an = allB n.an.length fun i => anB n.grips.length (atA n.an i) from rfl)
  have HWB := Lib.hid (show wallsB n.walls = allB n.walls.length fun i => wlB (atWl n.walls i) from rfl)
  clear hv hgc hac hxc hga haa hxa
  generalize n.grips.length = G at *
  generalize n.an.length = A at *
  generalize n.walls.length = X at *
  cases h0 : spB n.wind 20
  · skip
    rw [h0] at HX
    have C0 := Lib.hid (fun wx => show Calls Tryd.prog 26 #[.agg #[.int .i64 n.wind.lo, .int .i64 n.wind.hi], .int .i64 20] wx (fun e w' => e = .returned (.bool false) ∧ Bel wx w') from by rw [← h0]; exact HS.out n.wind 20 wx)
    clear HS HGB HAB HWB HGC HAC HXC h0
    go_enter Tryd.func8, Tryd.ntmps8
    go_wp2_with fail
    refine (C0.out _).mono ?_
    rintro e w1 ⟨rfl, hb⟩
    have hn := new_row (w := w) (o := .cells #[.int .i64 n.wind.lo, .int .i64 n.wind.hi, .int .i64 n.cur.lo, .int .i64 n.cur.hi, .slice ga G gc, .slice aa A ac, .slice xa X xc] 32) rfl
    have x0 := hb.cell ((row_facts hn).1 0)
    have x1 := hb.cell ((row_facts hn).1 1)
    have x2 := hb.cell ((row_facts hn).1 2)
    have x3 := hb.cell ((row_facts hn).1 3)
    have x4 := hb.cell ((row_facts hn).1 4)
    have x5 := hb.cell ((row_facts hn).1 5)
    have x6 := hb.cell ((row_facts hn).1 6)
    have hB1 : Bel w w1 := Bel.trans (by repeat (first | assumption | exact Bel.refl _ | refine Bel.drew ?_ | refine Bel.drewN ?_ _ | refine Bel.alloc ?_ _ | refine Bel.setCell ?_ (by simp <;> omega) _ | refine Bel.trans ?_ (by assumption))) hb
    have lb := cell_lt x0
    clear hb C0 hn
    have HB := Lib.hid hB1
    clear hB1
    go_wp2
    go_ret
    exact ⟨ri (by rw [HX.out]; rfl), HB.out⟩
  · skip
    cases h1 : spB n.cur 20
    · skip
      rw [h0] at HX
      rw [h1] at HX
      have C0 := Lib.hid (fun wx => show Calls Tryd.prog 26 #[.agg #[.int .i64 n.wind.lo, .int .i64 n.wind.hi], .int .i64 20] wx (fun e w' => e = .returned (.bool true) ∧ Bel wx w') from by rw [← h0]; exact HS.out n.wind 20 wx)
      have C1 := Lib.hid (fun wx => show Calls Tryd.prog 26 #[.agg #[.int .i64 n.cur.lo, .int .i64 n.cur.hi], .int .i64 20] wx (fun e w' => e = .returned (.bool false) ∧ Bel wx w') from by rw [← h1]; exact HS.out n.cur 20 wx)
      clear HS HGB HAB HWB HGC HAC HXC h0 h1
      go_enter Tryd.func8, Tryd.ntmps8
      go_wp2_with fail
      refine (C0.out _).mono ?_
      rintro e w1 ⟨rfl, hb⟩
      have hn := new_row (w := w) (o := .cells #[.int .i64 n.wind.lo, .int .i64 n.wind.hi, .int .i64 n.cur.lo, .int .i64 n.cur.hi, .slice ga G gc, .slice aa A ac, .slice xa X xc] 32) rfl
      have x0 := hb.cell ((row_facts hn).1 0)
      have x1 := hb.cell ((row_facts hn).1 1)
      have x2 := hb.cell ((row_facts hn).1 2)
      have x3 := hb.cell ((row_facts hn).1 3)
      have x4 := hb.cell ((row_facts hn).1 4)
      have x5 := hb.cell ((row_facts hn).1 5)
      have x6 := hb.cell ((row_facts hn).1 6)
      have hB1 : Bel w w1 := Bel.trans (by repeat (first | assumption | exact Bel.refl _ | refine Bel.drew ?_ | refine Bel.drewN ?_ _ | refine Bel.alloc ?_ _ | refine Bel.setCell ?_ (by simp <;> omega) _ | refine Bel.trans ?_ (by assumption))) hb
      have lb := cell_lt x0
      clear hb C0 hn
      go_wp2_with fail
      refine (C1.out _).mono ?_
      rintro e w2 ⟨rfl, hb⟩
      have hk : Bel w1 w2 := Bel.trans (by repeat (first | assumption | exact Bel.refl _ | refine Bel.drew ?_ | refine Bel.drewN ?_ _ | refine Bel.alloc ?_ _ | refine Bel.setCell ?_ (by simp <;> omega) _ | refine Bel.trans ?_ (by assumption))) hb
      replace x0 := hk.cell x0
      replace x1 := hk.cell x1
      replace x2 := hk.cell x2
      replace x3 := hk.cell x3
      replace x4 := hk.cell x4
      replace x5 := hk.cell x5
      replace x6 := hk.cell x6
      replace lb := cell_lt x0
      have hB2 : Bel w w2 := hB1.trans hk
      clear hb hk hB1 C1
      have HB := Lib.hid hB2
      clear hB2
      go_wp2
      go_ret
      exact ⟨ri (by rw [HX.out]; rfl), HB.out⟩
    · skip
      cases h2 : decide (G ≤ 3)
      · skip
        rw [h0] at HX
        rw [h1] at HX
        rw [h2] at HX
        have f2 : (3 : Int) < (G : Int) := by have := of_decide_eq_false h2; omega
        have g2 : decide ((3 : Int) < (G : Int)) = true := decide_eq_true f2
        have e2 : 3 < G := by omega
        have d2 : decide (3 < G) = true := decide_eq_true e2
        have C0 := Lib.hid (fun wx => show Calls Tryd.prog 26 #[.agg #[.int .i64 n.wind.lo, .int .i64 n.wind.hi], .int .i64 20] wx (fun e w' => e = .returned (.bool true) ∧ Bel wx w') from by rw [← h0]; exact HS.out n.wind 20 wx)
        have C1 := Lib.hid (fun wx => show Calls Tryd.prog 26 #[.agg #[.int .i64 n.cur.lo, .int .i64 n.cur.hi], .int .i64 20] wx (fun e w' => e = .returned (.bool true) ∧ Bel wx w') from by rw [← h1]; exact HS.out n.cur 20 wx)
        clear HS HGB HAB HWB HGC HAC HXC h0 h1 h2
        go_enter Tryd.func8, Tryd.ntmps8
        go_wp2_with fail
        refine (C0.out _).mono ?_
        rintro e w1 ⟨rfl, hb⟩
        have hn := new_row (w := w) (o := .cells #[.int .i64 n.wind.lo, .int .i64 n.wind.hi, .int .i64 n.cur.lo, .int .i64 n.cur.hi, .slice ga G gc, .slice aa A ac, .slice xa X xc] 32) rfl
        have x0 := hb.cell ((row_facts hn).1 0)
        have x1 := hb.cell ((row_facts hn).1 1)
        have x2 := hb.cell ((row_facts hn).1 2)
        have x3 := hb.cell ((row_facts hn).1 3)
        have x4 := hb.cell ((row_facts hn).1 4)
        have x5 := hb.cell ((row_facts hn).1 5)
        have x6 := hb.cell ((row_facts hn).1 6)
        have hB1 : Bel w w1 := Bel.trans (by repeat (first | assumption | exact Bel.refl _ | refine Bel.drew ?_ | refine Bel.drewN ?_ _ | refine Bel.alloc ?_ _ | refine Bel.setCell ?_ (by simp <;> omega) _ | refine Bel.trans ?_ (by assumption))) hb
        have lb := cell_lt x0
        clear hb C0 hn
        go_wp2_with fail
        refine (C1.out _).mono ?_
        rintro e w2 ⟨rfl, hb⟩
        have hk : Bel w1 w2 := Bel.trans (by repeat (first | assumption | exact Bel.refl _ | refine Bel.drew ?_ | refine Bel.drewN ?_ _ | refine Bel.alloc ?_ _ | refine Bel.setCell ?_ (by simp <;> omega) _ | refine Bel.trans ?_ (by assumption))) hb
        replace x0 := hk.cell x0
        replace x1 := hk.cell x1
        replace x2 := hk.cell x2
        replace x3 := hk.cell x3
        replace x4 := hk.cell x4
        replace x5 := hk.cell x5
        replace x6 := hk.cell x6
        replace lb := cell_lt x0
        have hB2 : Bel w w2 := hB1.trans hk
        clear hb hk hB1 C1
        have HB := Lib.hid hB2
        clear hB2
        go_wp2
        go_ret
        exact ⟨ri (by rw [HX.out]; rfl), HB.out⟩
      · skip
        cases h3 : decide (A ≤ 6)
        · skip
          rw [h0] at HX
          rw [h1] at HX
          rw [h2] at HX
          rw [h3] at HX
          have f2 : ¬ (3 : Int) < (G : Int) := by have := of_decide_eq_true h2; omega
          have g2 : decide ((3 : Int) < (G : Int)) = false := decide_eq_false f2
          have e2 : ¬ 3 < G := by omega
          have d2 : decide (3 < G) = false := decide_eq_false e2
          have f3 : (6 : Int) < (A : Int) := by have := of_decide_eq_false h3; omega
          have g3 : decide ((6 : Int) < (A : Int)) = true := decide_eq_true f3
          have e3 : 6 < A := by omega
          have d3 : decide (6 < A) = true := decide_eq_true e3
          have C0 := Lib.hid (fun wx => show Calls Tryd.prog 26 #[.agg #[.int .i64 n.wind.lo, .int .i64 n.wind.hi], .int .i64 20] wx (fun e w' => e = .returned (.bool true) ∧ Bel wx w') from by rw [← h0]; exact HS.out n.wind 20 wx)
          have C1 := Lib.hid (fun wx => show Calls Tryd.prog 26 #[.agg #[.int .i64 n.cur.lo, .int .i64 n.cur.hi], .int .i64 20] wx (fun e w' => e = .returned (.bool true) ∧ Bel wx w') from by rw [← h1]; exact HS.out n.cur 20 wx)
          clear HS HGB HAB HWB HGC HAC HXC h0 h1 h2 h3
          go_enter Tryd.func8, Tryd.ntmps8
          go_wp2_with fail
          refine (C0.out _).mono ?_
          rintro e w1 ⟨rfl, hb⟩
          have hn := new_row (w := w) (o := .cells #[.int .i64 n.wind.lo, .int .i64 n.wind.hi, .int .i64 n.cur.lo, .int .i64 n.cur.hi, .slice ga G gc, .slice aa A ac, .slice xa X xc] 32) rfl
          have x0 := hb.cell ((row_facts hn).1 0)
          have x1 := hb.cell ((row_facts hn).1 1)
          have x2 := hb.cell ((row_facts hn).1 2)
          have x3 := hb.cell ((row_facts hn).1 3)
          have x4 := hb.cell ((row_facts hn).1 4)
          have x5 := hb.cell ((row_facts hn).1 5)
          have x6 := hb.cell ((row_facts hn).1 6)
          have hB1 : Bel w w1 := Bel.trans (by repeat (first | assumption | exact Bel.refl _ | refine Bel.drew ?_ | refine Bel.drewN ?_ _ | refine Bel.alloc ?_ _ | refine Bel.setCell ?_ (by simp <;> omega) _ | refine Bel.trans ?_ (by assumption))) hb
          have lb := cell_lt x0
          clear hb C0 hn
          go_wp2_with fail
          refine (C1.out _).mono ?_
          rintro e w2 ⟨rfl, hb⟩
          have hk : Bel w1 w2 := Bel.trans (by repeat (first | assumption | exact Bel.refl _ | refine Bel.drew ?_ | refine Bel.drewN ?_ _ | refine Bel.alloc ?_ _ | refine Bel.setCell ?_ (by simp <;> omega) _ | refine Bel.trans ?_ (by assumption))) hb
          replace x0 := hk.cell x0
          replace x1 := hk.cell x1
          replace x2 := hk.cell x2
          replace x3 := hk.cell x3
          replace x4 := hk.cell x4
          replace x5 := hk.cell x5
          replace x6 := hk.cell x6
          replace lb := cell_lt x0
          have hB2 : Bel w w2 := hB1.trans hk
          clear hb hk hB1 C1
          have HB := Lib.hid hB2
          clear hB2
          go_wp2
          go_ret
          exact ⟨ri (by rw [HX.out]; rfl), HB.out⟩
        · skip
          cases h4 : decide (X = A - 1)
          · skip
            rw [h0] at HX
            rw [h1] at HX
            rw [h2] at HX
            rw [h3] at HX
            rw [h4] at HX
            have f2 : ¬ (3 : Int) < (G : Int) := by have := of_decide_eq_true h2; omega
            have g2 : decide ((3 : Int) < (G : Int)) = false := decide_eq_false f2
            have e2 : ¬ 3 < G := by omega
            have d2 : decide (3 < G) = false := decide_eq_false e2
            have f3 : ¬ (6 : Int) < (A : Int) := by have := of_decide_eq_true h3; omega
            have g3 : decide ((6 : Int) < (A : Int)) = false := decide_eq_false f3
            have e3 : ¬ 6 < A := by omega
            have d3 : decide (6 < A) = false := decide_eq_false e3
            rcases Nat.lt_or_ge 1 A with q0 | q0
            · have q1 : (1 : Int) < (A : Int) := by omega
              have q2 : ¬ (A : Int) ≤ 1 := by omega
              have f4 : ((X : Int) != (A : Int) - 1) = true := by rw [bne_iff_ne]; have := of_decide_eq_false h4; omega
              clear q0
              have C0 := Lib.hid (fun wx => show Calls Tryd.prog 26 #[.agg #[.int .i64 n.wind.lo, .int .i64 n.wind.hi], .int .i64 20] wx (fun e w' => e = .returned (.bool true) ∧ Bel wx w') from by rw [← h0]; exact HS.out n.wind 20 wx)
              have C1 := Lib.hid (fun wx => show Calls Tryd.prog 26 #[.agg #[.int .i64 n.cur.lo, .int .i64 n.cur.hi], .int .i64 20] wx (fun e w' => e = .returned (.bool true) ∧ Bel wx w') from by rw [← h1]; exact HS.out n.cur 20 wx)
              clear HS HGB HAB HWB HGC HAC HXC h0 h1 h2 h3 h4
              go_enter Tryd.func8, Tryd.ntmps8
              go_wp2_with fail
              refine (C0.out _).mono ?_
              rintro e w1 ⟨rfl, hb⟩
              have hn := new_row (w := w) (o := .cells #[.int .i64 n.wind.lo, .int .i64 n.wind.hi, .int .i64 n.cur.lo, .int .i64 n.cur.hi, .slice ga G gc, .slice aa A ac, .slice xa X xc] 32) rfl
              have x0 := hb.cell ((row_facts hn).1 0)
              have x1 := hb.cell ((row_facts hn).1 1)
              have x2 := hb.cell ((row_facts hn).1 2)
              have x3 := hb.cell ((row_facts hn).1 3)
              have x4 := hb.cell ((row_facts hn).1 4)
              have x5 := hb.cell ((row_facts hn).1 5)
              have x6 := hb.cell ((row_facts hn).1 6)
              have hB1 : Bel w w1 := Bel.trans (by repeat (first | assumption | exact Bel.refl _ | refine Bel.drew ?_ | refine Bel.drewN ?_ _ | refine Bel.alloc ?_ _ | refine Bel.setCell ?_ (by simp <;> omega) _ | refine Bel.trans ?_ (by assumption))) hb
              have lb := cell_lt x0
              clear hb C0 hn
              go_wp2_with fail
              refine (C1.out _).mono ?_
              rintro e w2 ⟨rfl, hb⟩
              have hk : Bel w1 w2 := Bel.trans (by repeat (first | assumption | exact Bel.refl _ | refine Bel.drew ?_ | refine Bel.drewN ?_ _ | refine Bel.alloc ?_ _ | refine Bel.setCell ?_ (by simp <;> omega) _ | refine Bel.trans ?_ (by assumption))) hb
              replace x0 := hk.cell x0
              replace x1 := hk.cell x1
              replace x2 := hk.cell x2
              replace x3 := hk.cell x3
              replace x4 := hk.cell x4
              replace x5 := hk.cell x5
              replace x6 := hk.cell x6
              replace lb := cell_lt x0
              have hB2 : Bel w w2 := hB1.trans hk
              clear hb hk hB1 C1
              have HB := Lib.hid hB2
              clear hB2
              go_wp2
              go_ret
              exact ⟨ri (by rw [HX.out]; rfl), HB.out⟩
            · have q1 : (A : Int) ≤ 1 := by omega
              have q2 : ¬ (1 : Int) < (A : Int) := by omega
              have f4 : ((X : Int) != 0) = true := by rw [bne_iff_ne]; have := of_decide_eq_false h4; omega
              have f5 : decide (X = 0) = false := by rw [decide_eq_false_iff_not]; have := of_decide_eq_false h4; omega
              clear q0
              have C0 := Lib.hid (fun wx => show Calls Tryd.prog 26 #[.agg #[.int .i64 n.wind.lo, .int .i64 n.wind.hi], .int .i64 20] wx (fun e w' => e = .returned (.bool true) ∧ Bel wx w') from by rw [← h0]; exact HS.out n.wind 20 wx)
              have C1 := Lib.hid (fun wx => show Calls Tryd.prog 26 #[.agg #[.int .i64 n.cur.lo, .int .i64 n.cur.hi], .int .i64 20] wx (fun e w' => e = .returned (.bool true) ∧ Bel wx w') from by rw [← h1]; exact HS.out n.cur 20 wx)
              clear HS HGB HAB HWB HGC HAC HXC h0 h1 h2 h3 h4
              go_enter Tryd.func8, Tryd.ntmps8
              go_wp2_with fail
              refine (C0.out _).mono ?_
              rintro e w1 ⟨rfl, hb⟩
              have hn := new_row (w := w) (o := .cells #[.int .i64 n.wind.lo, .int .i64 n.wind.hi, .int .i64 n.cur.lo, .int .i64 n.cur.hi, .slice ga G gc, .slice aa A ac, .slice xa X xc] 32) rfl
              have x0 := hb.cell ((row_facts hn).1 0)
              have x1 := hb.cell ((row_facts hn).1 1)
              have x2 := hb.cell ((row_facts hn).1 2)
              have x3 := hb.cell ((row_facts hn).1 3)
              have x4 := hb.cell ((row_facts hn).1 4)
              have x5 := hb.cell ((row_facts hn).1 5)
              have x6 := hb.cell ((row_facts hn).1 6)
              have hB1 : Bel w w1 := Bel.trans (by repeat (first | assumption | exact Bel.refl _ | refine Bel.drew ?_ | refine Bel.drewN ?_ _ | refine Bel.alloc ?_ _ | refine Bel.setCell ?_ (by simp <;> omega) _ | refine Bel.trans ?_ (by assumption))) hb
              have lb := cell_lt x0
              clear hb C0 hn
              go_wp2_with fail
              refine (C1.out _).mono ?_
              rintro e w2 ⟨rfl, hb⟩
              have hk : Bel w1 w2 := Bel.trans (by repeat (first | assumption | exact Bel.refl _ | refine Bel.drew ?_ | refine Bel.drewN ?_ _ | refine Bel.alloc ?_ _ | refine Bel.setCell ?_ (by simp <;> omega) _ | refine Bel.trans ?_ (by assumption))) hb
              replace x0 := hk.cell x0
              replace x1 := hk.cell x1
              replace x2 := hk.cell x2
              replace x3 := hk.cell x3
              replace x4 := hk.cell x4
              replace x5 := hk.cell x5
              replace x6 := hk.cell x6
              replace lb := cell_lt x0
              have hB2 : Bel w w2 := hB1.trans hk
              clear hb hk hB1 C1
              have HB := Lib.hid hB2
              clear hB2
              go_wp2
              go_ret
              exact ⟨ri (by rw [HX.out]; rfl), HB.out⟩
          rw [h0] at HX
          rw [h1] at HX
          rw [h2] at HX
          rw [h3] at HX
          rw [h4] at HX
          have f2 : ¬ (3 : Int) < (G : Int) := by have := of_decide_eq_true h2; omega
          have g2 : decide ((3 : Int) < (G : Int)) = false := decide_eq_false f2
          have e2 : ¬ 3 < G := by omega
          have d2 : decide (3 < G) = false := decide_eq_false e2
          have f3 : ¬ (6 : Int) < (A : Int) := by have := of_decide_eq_true h3; omega
          have g3 : decide ((6 : Int) < (A : Int)) = false := decide_eq_false f3
          have e3 : ¬ 6 < A := by omega
          have d3 : decide (6 < A) = false := decide_eq_false e3
          have HS9 := Lib.hid (fun s wx => HS.out s 9 wx)
          skip
          have C0 := Lib.hid (fun wx => show Calls Tryd.prog 26 #[.agg #[.int .i64 n.wind.lo, .int .i64 n.wind.hi], .int .i64 20] wx (fun e w' => e = .returned (.bool true) ∧ Bel wx w') from by rw [← h0]; exact HS.out n.wind 20 wx)
          have C1 := Lib.hid (fun wx => show Calls Tryd.prog 26 #[.agg #[.int .i64 n.cur.lo, .int .i64 n.cur.hi], .int .i64 20] wx (fun e w' => e = .returned (.bool true) ∧ Bel wx w') from by rw [← h1]; exact HS.out n.cur 20 wx)
          have hl4 : X = A - 1 := of_decide_eq_true h4
          clear HS
          rcases Nat.lt_or_ge 1 A with q0 | q0
          · have q1 : (1 : Int) < (A : Int) := by omega
            have q2 : ¬ (A : Int) ≤ 1 := by omega
            have f4 : ((X : Int) != (A : Int) - 1) = false := by rw [bne_eq_false_iff_eq]; have := of_decide_eq_true h4; omega
            clear q0
            clear hl4 h0 h1 h2 h3 h4
            go_enter Tryd.func8, Tryd.ntmps8
            go_wp2_with fail
            refine (C0.out _).mono ?_
            rintro e w1 ⟨rfl, hb⟩
            have hn := new_row (w := w) (o := .cells #[.int .i64 n.wind.lo, .int .i64 n.wind.hi, .int .i64 n.cur.lo, .int .i64 n.cur.hi, .slice ga G gc, .slice aa A ac, .slice xa X xc] 32) rfl
            have x0 := hb.cell ((row_facts hn).1 0)
            have x1 := hb.cell ((row_facts hn).1 1)
            have x2 := hb.cell ((row_facts hn).1 2)
            have x3 := hb.cell ((row_facts hn).1 3)
            have x4 := hb.cell ((row_facts hn).1 4)
            have x5 := hb.cell ((row_facts hn).1 5)
            have x6 := hb.cell ((row_facts hn).1 6)
            have hB1 : Bel w w1 := Bel.trans (by repeat (first | assumption | exact Bel.refl _ | refine Bel.drew ?_ | refine Bel.drewN ?_ _ | refine Bel.alloc ?_ _ | refine Bel.setCell ?_ (by simp <;> omega) _ | refine Bel.trans ?_ (by assumption))) hb
            have lb := cell_lt x0
            clear hb C0 hn
            go_wp2_with fail
            refine (C1.out _).mono ?_
            rintro e w2 ⟨rfl, hb⟩
            have hk : Bel w1 w2 := Bel.trans (by repeat (first | assumption | exact Bel.refl _ | refine Bel.drew ?_ | refine Bel.drewN ?_ _ | refine Bel.alloc ?_ _ | refine Bel.setCell ?_ (by simp <;> omega) _ | refine Bel.trans ?_ (by assumption))) hb
            replace x0 := hk.cell x0
            replace x1 := hk.cell x1
            replace x2 := hk.cell x2
            replace x3 := hk.cell x3
            replace x4 := hk.cell x4
            replace x5 := hk.cell x5
            replace x6 := hk.cell x6
            replace lb := cell_lt x0
            have hB2 : Bel w w2 := hB1.trans hk
            clear hb hk hB1 C1
            have HX := HX
            have HY := Lib.hid (And.intro x0 (And.intro x1 (And.intro x2 (And.intro x3 (And.intro x4 (And.intro x5 x6))))))
            have HB2 := Lib.hid hB2
            clear hB2
            go_wp2
            clear x0 x1 x2 x3 x4 x5 x6 lb
            go_loopw [3] (fun i wr => ∃ k : Nat, k ≤ G ∧ i = .int .i64 k ∧ Hid (allB k (fun i => spB (atG n.grips i) 9) = true) ∧ Bel w2 wr) (fun i _ => G - (intOf i).toNat)
            case atStart => exact ⟨0, by omega, rfl, rfl, Bel.refl _⟩
            case round =>
              obtain ⟨k, hk, rfl, hno, hw⟩ := hrel
              have x4 := hw.cell HY.out.2.2.2.2.1
              have lb := cell_lt x4
              have HW := Lib.hid hw
              by_cases hlt : k < G
              · have hlti : (k : Int) < (G : Int) := by omega
                have k0 := (HB2.out.trans hw).cell (HGC.out k hlt).1
                have k1 := (HB2.out.trans hw).cell (HGC.out k hlt).2
                have lk := cell_lt k0
                have HCC := Lib.hid (fun wx => HS9.out (atG n.grips k) wx)
                have HI := Lib.hid (fun (h : spB (atG n.grips k) 9 = false) => show gripsB n.grips = false from HGB.out.trans (allB_false k hlt h))
                have HR := Lib.hid (fun (h : spB (atG n.grips k) 9 = true) => allB_succ hno.out (f := fun i => spB (atG n.grips i) 9) h)
                clear hw
                cases hwk : spB (atG n.grips k) 9
                · have HI2 := Lib.hid (HI.out hwk)
                  rw [hwk] at HCC
                  clear HI HR hwk
                  generalize atG n.grips k = s at *
                  go_wp2_with (go_at_call 26; refine (HCC.out _).mono ?_; rintro e w5 ⟨rfl, hb⟩; have HF := Lib.hid (HB2.out.trans (HW.out.trans hb)); clear hb)
                  go_ret
                  exact ⟨ri (by rw [HX.out, HI2.out]; rfl), HF.out⟩
                · have HR2 := Lib.hid (HR.out hwk)
                  rw [hwk] at HCC
                  clear HI HR hwk
                  generalize atG n.grips k = s at *
                  go_wp2_with (go_at_call 26; refine (HCC.out _).mono ?_; rintro e w5 ⟨rfl, hb⟩; have HF := Lib.hid (HW.out.trans hb); clear hb)
                  go_roundw
                  case rel => exact ⟨k + 1, by omega, by go_num, HR2.out, HF.out⟩
                  case measure => simp [intOf]; omega
              · have HG1 := Lib.hid (show gripsB n.grips = true by rw [HGB.out, show G = k by omega]; exact hno.out)
                have hlti : ¬ (k : Int) < (G : Int) := by omega
                clear hw
                go_wp2
                clear x4 lb
                go_loopw [4] (fun i wi => ∃ k : Nat, k ≤ A ∧ i = .int .i64 k ∧ Hid (allB k (fun i => anB G (atA n.an i)) = true) ∧ Bel w2 wi) (fun i _ => A - (intOf i).toNat)
                case atStart => exact ⟨0, by omega, rfl, rfl, HW.out⟩
                case round =>
                  clear hk hlt hlti
                  obtain ⟨m, hm, rfl, hno2, hw⟩ := hrel
                  have x4 := hw.cell HY.out.2.2.2.2.1
                  have x5 := hw.cell HY.out.2.2.2.2.2.1
                  have lb := cell_lt x5
                  have HW2 := Lib.hid hw
                  by_cases hlt : m < A
                  · have hlti : (m : Int) < (A : Int) := by omega
                    have k0 := (HB2.out.trans hw).cell (HAC.out m hlt).1
                    have k1 := (HB2.out.trans hw).cell (HAC.out m hlt).2
                    have lk := cell_lt k0
                    have HI := Lib.hid (fun (h : anB G (atA n.an m) = false) => show ansB G n.an = false from HAB.out.trans (allB_false m hlt h))
                    have HR := Lib.hid (fun (h : anB G (atA n.an m) = true) => allB_succ hno2.out (f := fun i => anB G (atA n.an i)) h)
                    have HAN := Lib.hid (show anB G (atA n.an m) = (withinB (atA n.an m).wt 0 20 && withinB (atA n.an m).bt 0 ((G : Int) - 1)) from rfl)
                    clear hw
                    generalize atA n.an m = s at *
                    cases c0 : withinB s.wt 0 20
                    · have HI2 := Lib.hid (HI.out (by rw [HAN.out, c0]; rfl))
                      clear HI HR HAN
                      go_wp2
                      refine wp_region_mixD (Plan.seq [0, 1, 2, 3, 4, 5, 1006, 7, 8, 9, 10, 11, 12, 13, 14, 15, 16, 17, 18, 1019, 20, 21] .nil) (by kernel_rfl) (by kernel_rfl) (fun hcur => ?_)
                      simp only [Plan.seq, Plan.fill, List.getD_cons_zero, List.getD_cons_succ, Nat.reduceLT, ↓reduceIte, Nat.reduceSub]
                      apply mix_pure _ rfl
                      · intro w' hw'
                        obtain ⟨n, rfl⟩ := hw'
                        go_simp
                        rfl
                      intro K hK
                      go_simp
                      refine hK _ ?_
                      clear hK K
                      apply mix_pure _ rfl
                      · intro w' hw'
                        obtain ⟨n, rfl⟩ := hw'
                        go_simp
                        rfl
                      intro K hK
                      go_simp
                      refine hK _ ?_
                      clear hK K
                      apply mix_pure _ rfl
                      · intro w' hw'
                        obtain ⟨n, rfl⟩ := hw'
                        go_simp
                        rfl
                      intro K hK
                      go_simp
                      refine hK _ ?_
                      clear hK K
                      apply mix_pure _ rfl
                      · intro w' hw'
                        obtain ⟨n, rfl⟩ := hw'
                        go_simp
                        rfl
                      intro K hK
                      go_simp
                      refine hK _ ?_
                      clear hK K
                      apply mix_pure _ rfl
                      · intro w' hw'
                        obtain ⟨n, rfl⟩ := hw'
                        go_simp
                        rfl
                      intro K hK
                      go_simp
                      refine hK _ ?_
                      clear hK K
                      apply mix_pure _ rfl
                      · intro w' hw'
                        obtain ⟨n, rfl⟩ := hw'
                        go_simp
                        rfl
                      intro K hK
                      go_simp
                      refine hK _ ?_
                      clear hK K
                      refine mix_act rfl (fun K hK => ?_)
                      go_simp
                      refine (R2within_any _ _ _ _).mono ?_
                      rintro e w' ⟨rfl, rfl⟩
                      simp only []
                      refine hK _ _ hcur (fun hcur => ?_)
                      clear hK K
                      apply mix_pure _ rfl
                      · intro w' hw'
                        obtain ⟨n, rfl⟩ := hw'
                        go_simp
                        rfl
                      intro K hK
                      go_simp
                      refine hK _ ?_
                      clear hK K
                      apply mix_pure _ rfl
                      · intro w' hw'
                        obtain ⟨n, rfl⟩ := hw'
                        go_simp
                        rfl
                      intro K hK
                      go_simp
                      refine hK _ ?_
                      clear hK K
                      refine mix_skip (by go_simp) ?_
                      intro K hK
                      go_simp
                      refine hK _ ?_
                      clear hK K
                      refine mix_skip (by go_simp) ?_
                      intro K hK
                      go_simp
                      refine hK _ ?_
                      clear hK K
                      refine mix_skip (by go_simp) ?_
                      intro K hK
                      go_simp
                      refine hK _ ?_
                      clear hK K
                      refine mix_skip (by go_simp) ?_
                      intro K hK
                      go_simp
                      refine hK _ ?_
                      clear hK K
                      refine mix_skip (by go_simp) ?_
                      intro K hK
                      go_simp
                      refine hK _ ?_
                      clear hK K
                      refine mix_skip (by go_simp) ?_
                      intro K hK
                      go_simp
                      refine hK _ ?_
                      clear hK K
                      refine mix_skip (by go_simp) ?_
                      intro K hK
                      go_simp
                      refine hK _ ?_
                      clear hK K
                      refine mix_skip (by go_simp) ?_
                      intro K hK
                      go_simp
                      refine hK _ ?_
                      clear hK K
                      refine mix_skip (by go_simp) ?_
                      intro K hK
                      go_simp
                      refine hK _ ?_
                      clear hK K
                      refine mix_skip (by go_simp) ?_
                      intro K hK
                      go_simp
                      refine hK _ ?_
                      clear hK K
                      refine mix_askip (by go_simp) ?_
                      intro K hK
                      go_simp
                      refine hK _ ?_
                      clear hK K
                      refine mix_skip (by go_simp) ?_
                      intro K hK
                      go_simp
                      refine hK _ ?_
                      clear hK K
                      apply mix_pure _ rfl
                      · intro w' hw'
                        obtain ⟨n, rfl⟩ := hw'
                        go_simp
                        rfl
                      intro K hK
                      go_simp
                      refine hK _ ?_
                      clear hK K
                      refine mix_nil ?_
                      go_wp2
                      go_ret
                      exact ⟨ri (by rw [HX.out, HG1.out, HI2.out]; rfl), Bel.trans (HB2.out.trans HW2.out) (by repeat (first | assumption | exact Bel.refl _ | refine Bel.drew ?_ | refine Bel.drewN ?_ _ | refine Bel.alloc ?_ _ | refine Bel.setCell ?_ (by simp <;> omega) _ | refine Bel.trans ?_ (by assumption)))⟩
                    · cases c1 : withinB s.bt 0 ((G : Int) - 1)
                      · have HI2 := Lib.hid (HI.out (by rw [HAN.out, c0, c1]; rfl))
                        clear HI HR HAN
                        go_wp2
                        refine wp_region_mixD (Plan.seq [0, 1, 2, 3, 4, 5, 1006, 7, 8, 9, 10, 11, 12, 13, 14, 15, 16, 17, 18, 1019, 20, 21] .nil) (by kernel_rfl) (by kernel_rfl) (fun hcur => ?_)
                        simp only [Plan.seq, Plan.fill, List.getD_cons_zero, List.getD_cons_succ, Nat.reduceLT, ↓reduceIte, Nat.reduceSub]
                        apply mix_pure _ rfl
                        · intro w' hw'
                          obtain ⟨n, rfl⟩ := hw'
                          go_simp
                          rfl
                        intro K hK
                        go_simp
                        refine hK _ ?_
                        clear hK K
                        apply mix_pure _ rfl
                        · intro w' hw'
                          obtain ⟨n, rfl⟩ := hw'
                          go_simp
                          rfl
                        intro K hK
                        go_simp
                        refine hK _ ?_
                        clear hK K
                        apply mix_pure _ rfl
                        · intro w' hw'
                          obtain ⟨n, rfl⟩ := hw'
                          go_simp
                          rfl
                        intro K hK
                        go_simp
                        refine hK _ ?_
                        clear hK K
                        apply mix_pure _ rfl
                        · intro w' hw'
                          obtain ⟨n, rfl⟩ := hw'
                          go_simp
                          rfl
                        intro K hK
                        go_simp
                        refine hK _ ?_
                        clear hK K
                        apply mix_pure _ rfl
                        · intro w' hw'
                          obtain ⟨n, rfl⟩ := hw'
                          go_simp
                          rfl
                        intro K hK
                        go_simp
                        refine hK _ ?_
                        clear hK K
                        apply mix_pure _ rfl
                        · intro w' hw'
                          obtain ⟨n, rfl⟩ := hw'
                          go_simp
                          rfl
                        intro K hK
                        go_simp
                        refine hK _ ?_
                        clear hK K
                        refine mix_act rfl (fun K hK => ?_)
                        go_simp
                        refine (R2within_any _ _ _ _).mono ?_
                        rintro e w' ⟨rfl, rfl⟩
                        simp only []
                        refine hK _ _ hcur (fun hcur => ?_)
                        clear hK K
                        apply mix_pure _ rfl
                        · intro w' hw'
                          obtain ⟨n, rfl⟩ := hw'
                          go_simp
                          rfl
                        intro K hK
                        go_simp
                        refine hK _ ?_
                        clear hK K
                        apply mix_pure _ rfl
                        · intro w' hw'
                          obtain ⟨n, rfl⟩ := hw'
                          go_simp
                          rfl
                        intro K hK
                        go_simp
                        refine hK _ ?_
                        clear hK K
                        apply mix_pureG _ (by go_simp)
                        · intro w' hw'
                          obtain ⟨n, rfl⟩ := hw'
                          go_simp
                          rfl
                        intro K hK
                        go_simp
                        refine hK _ ?_
                        clear hK K
                        apply mix_pureG _ (by go_simp)
                        · intro w' hw'
                          obtain ⟨n, rfl⟩ := hw'
                          go_simp
                          rfl
                        intro K hK
                        go_simp
                        refine hK _ ?_
                        clear hK K
                        apply mix_pureG _ (by go_simp)
                        · intro w' hw'
                          obtain ⟨n, rfl⟩ := hw'
                          go_simp
                          rfl
                        intro K hK
                        go_simp
                        refine hK _ ?_
                        clear hK K
                        apply mix_pureG _ (by go_simp)
                        · intro w' hw'
                          obtain ⟨n, rfl⟩ := hw'
                          go_simp
                          rfl
                        intro K hK
                        go_simp
                        refine hK _ ?_
                        clear hK K
                        apply mix_pureG _ (by go_simp)
                        · intro w' hw'
                          obtain ⟨n, rfl⟩ := hw'
                          go_simp
                          rfl
                        intro K hK
                        go_simp
                        refine hK _ ?_
                        clear hK K
                        apply mix_pureG _ (by go_simp)
                        · intro w' hw'
                          obtain ⟨n, rfl⟩ := hw'
                          go_simp
                          rfl
                        intro K hK
                        go_simp
                        refine hK _ ?_
                        clear hK K
                        apply mix_pureG _ (by go_simp)
                        · intro w' hw'
                          obtain ⟨n, rfl⟩ := hw'
                          go_simp
                          rfl
                        intro K hK
                        go_simp
                        refine hK _ ?_
                        clear hK K
                        apply mix_pureG _ (by go_simp)
                        · intro w' hw'
                          obtain ⟨n, rfl⟩ := hw'
                          go_simp
                          rfl
                        intro K hK
                        go_simp
                        refine hK _ ?_
                        clear hK K
                        apply mix_pureG _ (by go_simp)
                        · intro w' hw'
                          obtain ⟨n, rfl⟩ := hw'
                          go_simp
                          rfl
                        intro K hK
                        go_simp
                        refine hK _ ?_
                        clear hK K
                        apply mix_pureG _ (by go_simp)
                        · intro w' hw'
                          obtain ⟨n, rfl⟩ := hw'
                          go_simp
                          first | (rw [IntWalk.i64_in]; all_goals first | omega | rfl) | rfl
                        intro K hK
                        go_simp
                        refine hK _ ?_
                        clear hK K
                        refine mix_actG (by go_simp) (fun K hK => ?_)
                        go_simp
                        refine (R2within_any _ _ _ _).mono ?_
                        rintro e w' ⟨rfl, rfl⟩
                        simp only []
                        refine hK _ _ hcur (fun hcur => ?_)
                        clear hK K
                        apply mix_pureG _ (by go_simp)
                        · intro w' hw'
                          obtain ⟨n, rfl⟩ := hw'
                          go_simp
                          rfl
                        intro K hK
                        go_simp
                        refine hK _ ?_
                        clear hK K
                        apply mix_pure _ rfl
                        · intro w' hw'
                          obtain ⟨n, rfl⟩ := hw'
                          go_simp
                          rfl
                        intro K hK
                        go_simp
                        refine hK _ ?_
                        clear hK K
                        refine mix_nil ?_
                        go_wp2
                        go_ret
                        exact ⟨ri (by rw [HX.out, HG1.out, HI2.out]; rfl), Bel.trans (HB2.out.trans HW2.out) (by repeat (first | assumption | exact Bel.refl _ | refine Bel.drew ?_ | refine Bel.drewN ?_ _ | refine Bel.alloc ?_ _ | refine Bel.setCell ?_ (by simp <;> omega) _ | refine Bel.trans ?_ (by assumption)))⟩
                      · have HR2 := Lib.hid (HR.out (by rw [HAN.out, c0, c1]; rfl))
                        clear HI HR HAN
                        go_wp2
                        refine wp_region_mixD (Plan.seq [0, 1, 2, 3, 4, 5, 1006, 7, 8, 9, 10, 11, 12, 13, 14, 15, 16, 17, 18, 1019, 20, 21] .nil) (by kernel_rfl) (by kernel_rfl) (fun hcur => ?_)
                        simp only [Plan.seq, Plan.fill, List.getD_cons_zero, List.getD_cons_succ, Nat.reduceLT, ↓reduceIte, Nat.reduceSub]
                        apply mix_pure _ rfl
                        · intro w' hw'
                          obtain ⟨n, rfl⟩ := hw'
                          go_simp
                          rfl
                        intro K hK
                        go_simp
                        refine hK _ ?_
                        clear hK K
                        apply mix_pure _ rfl
                        · intro w' hw'
                          obtain ⟨n, rfl⟩ := hw'
                          go_simp
                          rfl
                        intro K hK
                        go_simp
                        refine hK _ ?_
                        clear hK K
                        apply mix_pure _ rfl
                        · intro w' hw'
                          obtain ⟨n, rfl⟩ := hw'
                          go_simp
                          rfl
                        intro K hK
                        go_simp
                        refine hK _ ?_
                        clear hK K
                        apply mix_pure _ rfl
                        · intro w' hw'
                          obtain ⟨n, rfl⟩ := hw'
                          go_simp
                          rfl
                        intro K hK
                        go_simp
                        refine hK _ ?_
                        clear hK K
                        apply mix_pure _ rfl
                        · intro w' hw'
                          obtain ⟨n, rfl⟩ := hw'
                          go_simp
                          rfl
                        intro K hK
                        go_simp
                        refine hK _ ?_
                        clear hK K
                        apply mix_pure _ rfl
                        · intro w' hw'
                          obtain ⟨n, rfl⟩ := hw'
                          go_simp
                          rfl
                        intro K hK
                        go_simp
                        refine hK _ ?_
                        clear hK K
                        refine mix_act rfl (fun K hK => ?_)
                        go_simp
                        refine (R2within_any _ _ _ _).mono ?_
                        rintro e w' ⟨rfl, rfl⟩
                        simp only []
                        refine hK _ _ hcur (fun hcur => ?_)
                        clear hK K
                        apply mix_pure _ rfl
                        · intro w' hw'
                          obtain ⟨n, rfl⟩ := hw'
                          go_simp
                          rfl
                        intro K hK
                        go_simp
                        refine hK _ ?_
                        clear hK K
                        apply mix_pure _ rfl
                        · intro w' hw'
                          obtain ⟨n, rfl⟩ := hw'
                          go_simp
                          rfl
                        intro K hK
                        go_simp
                        refine hK _ ?_
                        clear hK K
                        apply mix_pureG _ (by go_simp)
                        · intro w' hw'
                          obtain ⟨n, rfl⟩ := hw'
                          go_simp
                          rfl
                        intro K hK
                        go_simp
                        refine hK _ ?_
                        clear hK K
                        apply mix_pureG _ (by go_simp)
                        · intro w' hw'
                          obtain ⟨n, rfl⟩ := hw'
                          go_simp
                          rfl
                        intro K hK
                        go_simp
                        refine hK _ ?_
                        clear hK K
                        apply mix_pureG _ (by go_simp)
                        · intro w' hw'
                          obtain ⟨n, rfl⟩ := hw'
                          go_simp
                          rfl
                        intro K hK
                        go_simp
                        refine hK _ ?_
                        clear hK K
                        apply mix_pureG _ (by go_simp)
                        · intro w' hw'
                          obtain ⟨n, rfl⟩ := hw'
                          go_simp
                          rfl
                        intro K hK
                        go_simp
                        refine hK _ ?_
                        clear hK K
                        apply mix_pureG _ (by go_simp)
                        · intro w' hw'
                          obtain ⟨n, rfl⟩ := hw'
                          go_simp
                          rfl
                        intro K hK
                        go_simp
                        refine hK _ ?_
                        clear hK K
                        apply mix_pureG _ (by go_simp)
                        · intro w' hw'
                          obtain ⟨n, rfl⟩ := hw'
                          go_simp
                          rfl
                        intro K hK
                        go_simp
                        refine hK _ ?_
                        clear hK K
                        apply mix_pureG _ (by go_simp)
                        · intro w' hw'
                          obtain ⟨n, rfl⟩ := hw'
                          go_simp
                          rfl
                        intro K hK
                        go_simp
                        refine hK _ ?_
                        clear hK K
                        apply mix_pureG _ (by go_simp)
                        · intro w' hw'
                          obtain ⟨n, rfl⟩ := hw'
                          go_simp
                          rfl
                        intro K hK
                        go_simp
                        refine hK _ ?_
                        clear hK K
                        apply mix_pureG _ (by go_simp)
                        · intro w' hw'
                          obtain ⟨n, rfl⟩ := hw'
                          go_simp
                          rfl
                        intro K hK
                        go_simp
                        refine hK _ ?_
                        clear hK K
                        apply mix_pureG _ (by go_simp)
                        · intro w' hw'
                          obtain ⟨n, rfl⟩ := hw'
                          go_simp
                          first | (rw [IntWalk.i64_in]; all_goals first | omega | rfl) | rfl
                        intro K hK
                        go_simp
                        refine hK _ ?_
                        clear hK K
                        refine mix_actG (by go_simp) (fun K hK => ?_)
                        go_simp
                        refine (R2within_any _ _ _ _).mono ?_
                        rintro e w' ⟨rfl, rfl⟩
                        simp only []
                        refine hK _ _ hcur (fun hcur => ?_)
                        clear hK K
                        apply mix_pureG _ (by go_simp)
                        · intro w' hw'
                          obtain ⟨n, rfl⟩ := hw'
                          go_simp
                          rfl
                        intro K hK
                        go_simp
                        refine hK _ ?_
                        clear hK K
                        apply mix_pure _ rfl
                        · intro w' hw'
                          obtain ⟨n, rfl⟩ := hw'
                          go_simp
                          rfl
                        intro K hK
                        go_simp
                        refine hK _ ?_
                        clear hK K
                        refine mix_nil ?_
                        go_wp2
                        go_roundw
                        case rel => exact ⟨m + 1, by omega, by go_num, HR2.out, Bel.trans HW2.out (by repeat (first | assumption | exact Bel.refl _ | refine Bel.drew ?_ | refine Bel.drewN ?_ _ | refine Bel.alloc ?_ _ | refine Bel.setCell ?_ (by simp <;> omega) _ | refine Bel.trans ?_ (by assumption)))⟩
                        case measure => simp [intOf]; omega
                  · have HA1 := Lib.hid (show ansB G n.an = true by rw [HAB.out, show A = m by omega]; exact hno2.out)
                    have hlti : ¬ (m : Int) < (A : Int) := by omega
                    clear hw
                    go_wp2
                    clear x4 x5 lb
                    go_loopw [5] (fun i wi => ∃ k : Nat, k ≤ X ∧ i = .int .i64 k ∧ Hid (allB k (fun i => wlB (atWl n.walls i)) = true) ∧ Bel w2 wi) (fun i _ => X - (intOf i).toNat)
                    case atStart => exact ⟨0, by omega, rfl, rfl, HW2.out⟩
                    case round =>
                      clear hm hlt hlti
                      obtain ⟨m, hm, rfl, hno3, hw⟩ := hrel
                      have x6 := hw.cell HY.out.2.2.2.2.2.2
                      have lb := cell_lt x6
                      have HW3 := Lib.hid hw
                      by_cases hlt : m < X
                      · have hlti : (m : Int) < (X : Int) := by omega
                        have hc := HXC.out m hlt
                        have k0 := (HB2.out.trans hw).cell hc.1
                        have k1 := (HB2.out.trans hw).cell hc.2.1
                        have k2 := (HB2.out.trans hw).cell hc.2.2.1
                        have k3 := (HB2.out.trans hw).cell hc.2.2.2.1
                        have k4 := (HB2.out.trans hw).cell hc.2.2.2.2
                        have lk := cell_lt k0
                        have HI := Lib.hid (fun (h : wlB (atWl n.walls m) = false) => show wallsB n.walls = false from HWB.out.trans (allB_false m hlt h))
                        have HR := Lib.hid (fun (h : wlB (atWl n.walls m) = true) => allB_succ hno3.out (f := fun i => wlB (atWl n.walls i)) h)
                        have HAN := Lib.hid (show wlB (atWl n.walls m) = (withinB (atWl n.walls m).sail 0 9 && (withinB (atWl n.walls m).drag 0 9 && (withinB (atWl n.walls m).lean 0 9 && (withinB (atWl n.walls m).corks 0 99 && withinB (atWl n.walls m).stones 0 99)))) from rfl)
                        clear hw hc
                        generalize atWl n.walls m = s at *
                        cases c0 : withinB s.sail 0 9
                        · have HI2 := Lib.hid (HI.out (by rw [HAN.out, c0]; rfl))
                          clear HI HR HAN
                          go_wp2_with (first | (go_at_call 27; refine (R2within_any _ _ _ _).mono ?_; rintro e w' ⟨rfl, rfl⟩))
                          go_ret
                          exact ⟨ri (by rw [HX.out, HG1.out, HA1.out, HI2.out]; rfl), Bel.trans (HB2.out.trans HW3.out) (by repeat (first | assumption | exact Bel.refl _ | refine Bel.drew ?_ | refine Bel.drewN ?_ _ | refine Bel.alloc ?_ _ | refine Bel.setCell ?_ (by simp <;> omega) _ | refine Bel.trans ?_ (by assumption)))⟩
                        · cases c1 : withinB s.drag 0 9
                          · have HI2 := Lib.hid (HI.out (by rw [HAN.out, c0, c1]; rfl))
                            clear HI HR HAN
                            go_wp2_with (first | (go_at_call 27; refine (R2within_any _ _ _ _).mono ?_; rintro e w' ⟨rfl, rfl⟩))
                            go_ret
                            exact ⟨ri (by rw [HX.out, HG1.out, HA1.out, HI2.out]; rfl), Bel.trans (HB2.out.trans HW3.out) (by repeat (first | assumption | exact Bel.refl _ | refine Bel.drew ?_ | refine Bel.drewN ?_ _ | refine Bel.alloc ?_ _ | refine Bel.setCell ?_ (by simp <;> omega) _ | refine Bel.trans ?_ (by assumption)))⟩
                          · cases c2 : withinB s.lean 0 9
                            · have HI2 := Lib.hid (HI.out (by rw [HAN.out, c0, c1, c2]; rfl))
                              clear HI HR HAN
                              go_wp2_with (first | (go_at_call 27; refine (R2within_any _ _ _ _).mono ?_; rintro e w' ⟨rfl, rfl⟩))
                              go_ret
                              exact ⟨ri (by rw [HX.out, HG1.out, HA1.out, HI2.out]; rfl), Bel.trans (HB2.out.trans HW3.out) (by repeat (first | assumption | exact Bel.refl _ | refine Bel.drew ?_ | refine Bel.drewN ?_ _ | refine Bel.alloc ?_ _ | refine Bel.setCell ?_ (by simp <;> omega) _ | refine Bel.trans ?_ (by assumption)))⟩
                            · cases c3 : withinB s.corks 0 99
                              · have HI2 := Lib.hid (HI.out (by rw [HAN.out, c0, c1, c2, c3]; rfl))
                                clear HI HR HAN
                                go_wp2_with (first | (go_at_call 27; refine (R2within_any _ _ _ _).mono ?_; rintro e w' ⟨rfl, rfl⟩))
                                go_ret
                                exact ⟨ri (by rw [HX.out, HG1.out, HA1.out, HI2.out]; rfl), Bel.trans (HB2.out.trans HW3.out) (by repeat (first | assumption | exact Bel.refl _ | refine Bel.drew ?_ | refine Bel.drewN ?_ _ | refine Bel.alloc ?_ _ | refine Bel.setCell ?_ (by simp <;> omega) _ | refine Bel.trans ?_ (by assumption)))⟩
                              · cases c4 : withinB s.stones 0 99
                                · have HI2 := Lib.hid (HI.out (by rw [HAN.out, c0, c1, c2, c3, c4]; rfl))
                                  clear HI HR HAN
                                  go_wp2_with (first | (go_at_call 27; refine (R2within_any _ _ _ _).mono ?_; rintro e w' ⟨rfl, rfl⟩))
                                  go_ret
                                  exact ⟨ri (by rw [HX.out, HG1.out, HA1.out, HI2.out]; rfl), Bel.trans (HB2.out.trans HW3.out) (by repeat (first | assumption | exact Bel.refl _ | refine Bel.drew ?_ | refine Bel.drewN ?_ _ | refine Bel.alloc ?_ _ | refine Bel.setCell ?_ (by simp <;> omega) _ | refine Bel.trans ?_ (by assumption)))⟩
                                · have HR2 := Lib.hid (HR.out (by rw [HAN.out, c0, c1, c2, c3, c4]; rfl))
                                  clear HI HR HAN
                                  go_wp2_with (first | (go_at_call 27; refine (R2within_any _ _ _ _).mono ?_; rintro e w' ⟨rfl, rfl⟩))
                                  go_roundw
                                  case rel => exact ⟨m + 1, by omega, by go_num, HR2.out, Bel.trans HW3.out (by repeat (first | assumption | exact Bel.refl _ | refine Bel.drew ?_ | refine Bel.drewN ?_ _ | refine Bel.alloc ?_ _ | refine Bel.setCell ?_ (by simp <;> omega) _ | refine Bel.trans ?_ (by assumption)))⟩
                                  case measure => simp [intOf]; omega
                      · have HE := Lib.hid (show wallsB n.walls = true by rw [HWB.out, show X = m by omega]; exact hno3.out)
                        have hlti : ¬ (m : Int) < (X : Int) := by omega
                        clear hw
                        go_wp2
                        go_ret
                        exact ⟨ri (by rw [HX.out, HG1.out, HA1.out, HE.out]; rfl), HB2.out.trans HW3.out⟩
          · have q1 : (A : Int) ≤ 1 := by omega
            have q2 : ¬ (1 : Int) < (A : Int) := by omega
            have f4 : ((X : Int) != 0) = false := by rw [bne_eq_false_iff_eq]; have := of_decide_eq_true h4; omega
            have f5 : decide (X = 0) = true := by rw [decide_eq_true_eq]; have := of_decide_eq_true h4; omega
            clear q0
            clear hl4 h0 h1 h2 h3 h4
            go_enter Tryd.func8, Tryd.ntmps8
            go_wp2_with fail
            refine (C0.out _).mono ?_
            rintro e w1 ⟨rfl, hb⟩
            have hn := new_row (w := w) (o := .cells #[.int .i64 n.wind.lo, .int .i64 n.wind.hi, .int .i64 n.cur.lo, .int .i64 n.cur.hi, .slice ga G gc, .slice aa A ac, .slice xa X xc] 32) rfl
            have x0 := hb.cell ((row_facts hn).1 0)
            have x1 := hb.cell ((row_facts hn).1 1)
            have x2 := hb.cell ((row_facts hn).1 2)
            have x3 := hb.cell ((row_facts hn).1 3)
            have x4 := hb.cell ((row_facts hn).1 4)
            have x5 := hb.cell ((row_facts hn).1 5)
            have x6 := hb.cell ((row_facts hn).1 6)
            have hB1 : Bel w w1 := Bel.trans (by repeat (first | assumption | exact Bel.refl _ | refine Bel.drew ?_ | refine Bel.drewN ?_ _ | refine Bel.alloc ?_ _ | refine Bel.setCell ?_ (by simp <;> omega) _ | refine Bel.trans ?_ (by assumption))) hb
            have lb := cell_lt x0
            clear hb C0 hn
            go_wp2_with fail
            refine (C1.out _).mono ?_
            rintro e w2 ⟨rfl, hb⟩
            have hk : Bel w1 w2 := Bel.trans (by repeat (first | assumption | exact Bel.refl _ | refine Bel.drew ?_ | refine Bel.drewN ?_ _ | refine Bel.alloc ?_ _ | refine Bel.setCell ?_ (by simp <;> omega) _ | refine Bel.trans ?_ (by assumption))) hb
            replace x0 := hk.cell x0
            replace x1 := hk.cell x1
            replace x2 := hk.cell x2
            replace x3 := hk.cell x3
            replace x4 := hk.cell x4
            replace x5 := hk.cell x5
            replace x6 := hk.cell x6
            replace lb := cell_lt x0
            have hB2 : Bel w w2 := hB1.trans hk
            clear hb hk hB1 C1
            have HX := HX
            have HY := Lib.hid (And.intro x0 (And.intro x1 (And.intro x2 (And.intro x3 (And.intro x4 (And.intro x5 x6))))))
            have HB2 := Lib.hid hB2
            clear hB2
            go_wp2
            clear x0 x1 x2 x3 x4 x5 x6 lb
            go_loopw [3] (fun i wr => ∃ k : Nat, k ≤ G ∧ i = .int .i64 k ∧ Hid (allB k (fun i => spB (atG n.grips i) 9) = true) ∧ Bel w2 wr) (fun i _ => G - (intOf i).toNat)
            case atStart => exact ⟨0, by omega, rfl, rfl, Bel.refl _⟩
            case round =>
              obtain ⟨k, hk, rfl, hno, hw⟩ := hrel
              have x4 := hw.cell HY.out.2.2.2.2.1
              have lb := cell_lt x4
              have HW := Lib.hid hw
              by_cases hlt : k < G
              · have hlti : (k : Int) < (G : Int) := by omega
                have k0 := (HB2.out.trans hw).cell (HGC.out k hlt).1
                have k1 := (HB2.out.trans hw).cell (HGC.out k hlt).2
                have lk := cell_lt k0
                have HCC := Lib.hid (fun wx => HS9.out (atG n.grips k) wx)
                have HI := Lib.hid (fun (h : spB (atG n.grips k) 9 = false) => show gripsB n.grips = false from HGB.out.trans (allB_false k hlt h))
                have HR := Lib.hid (fun (h : spB (atG n.grips k) 9 = true) => allB_succ hno.out (f := fun i => spB (atG n.grips i) 9) h)
                clear hw
                cases hwk : spB (atG n.grips k) 9
                · have HI2 := Lib.hid (HI.out hwk)
                  rw [hwk] at HCC
                  clear HI HR hwk
                  generalize atG n.grips k = s at *
                  go_wp2_with (go_at_call 26; refine (HCC.out _).mono ?_; rintro e w5 ⟨rfl, hb⟩; have HF := Lib.hid (HB2.out.trans (HW.out.trans hb)); clear hb)
                  go_ret
                  exact ⟨ri (by rw [HX.out, HI2.out]; rfl), HF.out⟩
                · have HR2 := Lib.hid (HR.out hwk)
                  rw [hwk] at HCC
                  clear HI HR hwk
                  generalize atG n.grips k = s at *
                  go_wp2_with (go_at_call 26; refine (HCC.out _).mono ?_; rintro e w5 ⟨rfl, hb⟩; have HF := Lib.hid (HW.out.trans hb); clear hb)
                  go_roundw
                  case rel => exact ⟨k + 1, by omega, by go_num, HR2.out, HF.out⟩
                  case measure => simp [intOf]; omega
              · have HG1 := Lib.hid (show gripsB n.grips = true by rw [HGB.out, show G = k by omega]; exact hno.out)
                have hlti : ¬ (k : Int) < (G : Int) := by omega
                clear hw
                go_wp2
                clear x4 lb
                go_loopw [4] (fun i wi => ∃ k : Nat, k ≤ A ∧ i = .int .i64 k ∧ Hid (allB k (fun i => anB G (atA n.an i)) = true) ∧ Bel w2 wi) (fun i _ => A - (intOf i).toNat)
                case atStart => exact ⟨0, by omega, rfl, rfl, HW.out⟩
                case round =>
                  clear hk hlt hlti
                  obtain ⟨m, hm, rfl, hno2, hw⟩ := hrel
                  have x4 := hw.cell HY.out.2.2.2.2.1
                  have x5 := hw.cell HY.out.2.2.2.2.2.1
                  have lb := cell_lt x5
                  have HW2 := Lib.hid hw
                  by_cases hlt : m < A
                  · have hlti : (m : Int) < (A : Int) := by omega
                    have k0 := (HB2.out.trans hw).cell (HAC.out m hlt).1
                    have k1 := (HB2.out.trans hw).cell (HAC.out m hlt).2
                    have lk := cell_lt k0
                    have HI := Lib.hid (fun (h : anB G (atA n.an m) = false) => show ansB G n.an = false from HAB.out.trans (allB_false m hlt h))
                    have HR := Lib.hid (fun (h : anB G (atA n.an m) = true) => allB_succ hno2.out (f := fun i => anB G (atA n.an i)) h)
                    have HAN := Lib.hid (show anB G (atA n.an m) = (withinB (atA n.an m).wt 0 20 && withinB (atA n.an m).bt 0 ((G : Int) - 1)) from rfl)
                    clear hw
                    generalize atA n.an m = s at *
                    cases c0 : withinB s.wt 0 20
                    · have HI2 := Lib.hid (HI.out (by rw [HAN.out, c0]; rfl))
                      clear HI HR HAN
                      go_wp2
                      refine wp_region_mixD (Plan.seq [0, 1, 2, 3, 4, 5, 1006, 7, 8, 9, 10, 11, 12, 13, 14, 15, 16, 17, 18, 1019, 20, 21] .nil) (by kernel_rfl) (by kernel_rfl) (fun hcur => ?_)
                      simp only [Plan.seq, Plan.fill, List.getD_cons_zero, List.getD_cons_succ, Nat.reduceLT, ↓reduceIte, Nat.reduceSub]
                      apply mix_pure _ rfl
                      · intro w' hw'
                        obtain ⟨n, rfl⟩ := hw'
                        go_simp
                        rfl
                      intro K hK
                      go_simp
                      refine hK _ ?_
                      clear hK K
                      apply mix_pure _ rfl
                      · intro w' hw'
                        obtain ⟨n, rfl⟩ := hw'
                        go_simp
                        rfl
                      intro K hK
                      go_simp
                      refine hK _ ?_
                      clear hK K
                      apply mix_pure _ rfl
                      · intro w' hw'
                        obtain ⟨n, rfl⟩ := hw'
                        go_simp
                        rfl
                      intro K hK
                      go_simp
                      refine hK _ ?_
                      clear hK K
                      apply mix_pure _ rfl
                      · intro w' hw'
                        obtain ⟨n, rfl⟩ := hw'
                        go_simp
                        rfl
                      intro K hK
                      go_simp
                      refine hK _ ?_
                      clear hK K
                      apply mix_pure _ rfl
                      · intro w' hw'
                        obtain ⟨n, rfl⟩ := hw'
                        go_simp
                        rfl
                      intro K hK
                      go_simp
                      refine hK _ ?_
                      clear hK K
                      apply mix_pure _ rfl
                      · intro w' hw'
                        obtain ⟨n, rfl⟩ := hw'
                        go_simp
                        rfl
                      intro K hK
                      go_simp
                      refine hK _ ?_
                      clear hK K
                      refine mix_act rfl (fun K hK => ?_)
                      go_simp
                      refine (R2within_any _ _ _ _).mono ?_
                      rintro e w' ⟨rfl, rfl⟩
                      simp only []
                      refine hK _ _ hcur (fun hcur => ?_)
                      clear hK K
                      apply mix_pure _ rfl
                      · intro w' hw'
                        obtain ⟨n, rfl⟩ := hw'
                        go_simp
                        rfl
                      intro K hK
                      go_simp
                      refine hK _ ?_
                      clear hK K
                      apply mix_pure _ rfl
                      · intro w' hw'
                        obtain ⟨n, rfl⟩ := hw'
                        go_simp
                        rfl
                      intro K hK
                      go_simp
                      refine hK _ ?_
                      clear hK K
                      refine mix_skip (by go_simp) ?_
                      intro K hK
                      go_simp
                      refine hK _ ?_
                      clear hK K
                      refine mix_skip (by go_simp) ?_
                      intro K hK
                      go_simp
                      refine hK _ ?_
                      clear hK K
                      refine mix_skip (by go_simp) ?_
                      intro K hK
                      go_simp
                      refine hK _ ?_
                      clear hK K
                      refine mix_skip (by go_simp) ?_
                      intro K hK
                      go_simp
                      refine hK _ ?_
                      clear hK K
                      refine mix_skip (by go_simp) ?_
                      intro K hK
                      go_simp
                      refine hK _ ?_
                      clear hK K
                      refine mix_skip (by go_simp) ?_
                      intro K hK
                      go_simp
                      refine hK _ ?_
                      clear hK K
                      refine mix_skip (by go_simp) ?_
                      intro K hK
                      go_simp
                      refine hK _ ?_
                      clear hK K
                      refine mix_skip (by go_simp) ?_
                      intro K hK
                      go_simp
                      refine hK _ ?_
                      clear hK K
                      refine mix_skip (by go_simp) ?_
                      intro K hK
                      go_simp
                      refine hK _ ?_
                      clear hK K
                      refine mix_skip (by go_simp) ?_
                      intro K hK
                      go_simp
                      refine hK _ ?_
                      clear hK K
                      refine mix_askip (by go_simp) ?_
                      intro K hK
                      go_simp
                      refine hK _ ?_
                      clear hK K
                      refine mix_skip (by go_simp) ?_
                      intro K hK
                      go_simp
                      refine hK _ ?_
                      clear hK K
                      apply mix_pure _ rfl
                      · intro w' hw'
                        obtain ⟨n, rfl⟩ := hw'
                        go_simp
                        rfl
                      intro K hK
                      go_simp
                      refine hK _ ?_
                      clear hK K
                      refine mix_nil ?_
                      go_wp2
                      go_ret
                      exact ⟨ri (by rw [HX.out, HG1.out, HI2.out]; rfl), Bel.trans (HB2.out.trans HW2.out) (by repeat (first | assumption | exact Bel.refl _ | refine Bel.drew ?_ | refine Bel.drewN ?_ _ | refine Bel.alloc ?_ _ | refine Bel.setCell ?_ (by simp <;> omega) _ | refine Bel.trans ?_ (by assumption)))⟩
                    · cases c1 : withinB s.bt 0 ((G : Int) - 1)
                      · have HI2 := Lib.hid (HI.out (by rw [HAN.out, c0, c1]; rfl))
                        clear HI HR HAN
                        go_wp2
                        refine wp_region_mixD (Plan.seq [0, 1, 2, 3, 4, 5, 1006, 7, 8, 9, 10, 11, 12, 13, 14, 15, 16, 17, 18, 1019, 20, 21] .nil) (by kernel_rfl) (by kernel_rfl) (fun hcur => ?_)
                        simp only [Plan.seq, Plan.fill, List.getD_cons_zero, List.getD_cons_succ, Nat.reduceLT, ↓reduceIte, Nat.reduceSub]
                        apply mix_pure _ rfl
                        · intro w' hw'
                          obtain ⟨n, rfl⟩ := hw'
                          go_simp
                          rfl
                        intro K hK
                        go_simp
                        refine hK _ ?_
                        clear hK K
                        apply mix_pure _ rfl
                        · intro w' hw'
                          obtain ⟨n, rfl⟩ := hw'
                          go_simp
                          rfl
                        intro K hK
                        go_simp
                        refine hK _ ?_
                        clear hK K
                        apply mix_pure _ rfl
                        · intro w' hw'
                          obtain ⟨n, rfl⟩ := hw'
                          go_simp
                          rfl
                        intro K hK
                        go_simp
                        refine hK _ ?_
                        clear hK K
                        apply mix_pure _ rfl
                        · intro w' hw'
                          obtain ⟨n, rfl⟩ := hw'
                          go_simp
                          rfl
                        intro K hK
                        go_simp
                        refine hK _ ?_
                        clear hK K
                        apply mix_pure _ rfl
                        · intro w' hw'
                          obtain ⟨n, rfl⟩ := hw'
                          go_simp
                          rfl
                        intro K hK
                        go_simp
                        refine hK _ ?_
                        clear hK K
                        apply mix_pure _ rfl
                        · intro w' hw'
                          obtain ⟨n, rfl⟩ := hw'
                          go_simp
                          rfl
                        intro K hK
                        go_simp
                        refine hK _ ?_
                        clear hK K
                        refine mix_act rfl (fun K hK => ?_)
                        go_simp
                        refine (R2within_any _ _ _ _).mono ?_
                        rintro e w' ⟨rfl, rfl⟩
                        simp only []
                        refine hK _ _ hcur (fun hcur => ?_)
                        clear hK K
                        apply mix_pure _ rfl
                        · intro w' hw'
                          obtain ⟨n, rfl⟩ := hw'
                          go_simp
                          rfl
                        intro K hK
                        go_simp
                        refine hK _ ?_
                        clear hK K
                        apply mix_pure _ rfl
                        · intro w' hw'
                          obtain ⟨n, rfl⟩ := hw'
                          go_simp
                          rfl
                        intro K hK
                        go_simp
                        refine hK _ ?_
                        clear hK K
                        apply mix_pureG _ (by go_simp)
                        · intro w' hw'
                          obtain ⟨n, rfl⟩ := hw'
                          go_simp
                          rfl
                        intro K hK
                        go_simp
                        refine hK _ ?_
                        clear hK K
                        apply mix_pureG _ (by go_simp)
                        · intro w' hw'
                          obtain ⟨n, rfl⟩ := hw'
                          go_simp
                          rfl
                        intro K hK
                        go_simp
                        refine hK _ ?_
                        clear hK K
                        apply mix_pureG _ (by go_simp)
                        · intro w' hw'
                          obtain ⟨n, rfl⟩ := hw'
                          go_simp
                          rfl
                        intro K hK
                        go_simp
                        refine hK _ ?_
                        clear hK K
                        apply mix_pureG _ (by go_simp)
                        · intro w' hw'
                          obtain ⟨n, rfl⟩ := hw'
                          go_simp
                          rfl
                        intro K hK
                        go_simp
                        refine hK _ ?_
                        clear hK K
                        apply mix_pureG _ (by go_simp)
                        · intro w' hw'
                          obtain ⟨n, rfl⟩ := hw'
                          go_simp
                          rfl
                        intro K hK
                        go_simp
                        refine hK _ ?_
                        clear hK K
                        apply mix_pureG _ (by go_simp)
                        · intro w' hw'
                          obtain ⟨n, rfl⟩ := hw'
                          go_simp
                          rfl
                        intro K hK
                        go_simp
                        refine hK _ ?_
                        clear hK K
                        apply mix_pureG _ (by go_simp)
                        · intro w' hw'
                          obtain ⟨n, rfl⟩ := hw'
                          go_simp
                          rfl
                        intro K hK
                        go_simp
                        refine hK _ ?_
                        clear hK K
                        apply mix_pureG _ (by go_simp)
                        · intro w' hw'
                          obtain ⟨n, rfl⟩ := hw'
                          go_simp
                          rfl
                        intro K hK
                        go_simp
                        refine hK _ ?_
                        clear hK K
                        apply mix_pureG _ (by go_simp)
                        · intro w' hw'
                          obtain ⟨n, rfl⟩ := hw'
                          go_simp
                          rfl
                        intro K hK
                        go_simp
                        refine hK _ ?_
                        clear hK K
                        apply mix_pureG _ (by go_simp)
                        · intro w' hw'
                          obtain ⟨n, rfl⟩ := hw'
                          go_simp
                          first | (rw [IntWalk.i64_in]; all_goals first | omega | rfl) | rfl
                        intro K hK
                        go_simp
                        refine hK _ ?_
                        clear hK K
                        refine mix_actG (by go_simp) (fun K hK => ?_)
                        go_simp
                        refine (R2within_any _ _ _ _).mono ?_
                        rintro e w' ⟨rfl, rfl⟩
                        simp only []
                        refine hK _ _ hcur (fun hcur => ?_)
                        clear hK K
                        apply mix_pureG _ (by go_simp)
                        · intro w' hw'
                          obtain ⟨n, rfl⟩ := hw'
                          go_simp
                          rfl
                        intro K hK
                        go_simp
                        refine hK _ ?_
                        clear hK K
                        apply mix_pure _ rfl
                        · intro w' hw'
                          obtain ⟨n, rfl⟩ := hw'
                          go_simp
                          rfl
                        intro K hK
                        go_simp
                        refine hK _ ?_
                        clear hK K
                        refine mix_nil ?_
                        go_wp2
                        go_ret
                        exact ⟨ri (by rw [HX.out, HG1.out, HI2.out]; rfl), Bel.trans (HB2.out.trans HW2.out) (by repeat (first | assumption | exact Bel.refl _ | refine Bel.drew ?_ | refine Bel.drewN ?_ _ | refine Bel.alloc ?_ _ | refine Bel.setCell ?_ (by simp <;> omega) _ | refine Bel.trans ?_ (by assumption)))⟩
                      · have HR2 := Lib.hid (HR.out (by rw [HAN.out, c0, c1]; rfl))
                        clear HI HR HAN
                        go_wp2
                        refine wp_region_mixD (Plan.seq [0, 1, 2, 3, 4, 5, 1006, 7, 8, 9, 10, 11, 12, 13, 14, 15, 16, 17, 18, 1019, 20, 21] .nil) (by kernel_rfl) (by kernel_rfl) (fun hcur => ?_)
                        simp only [Plan.seq, Plan.fill, List.getD_cons_zero, List.getD_cons_succ, Nat.reduceLT, ↓reduceIte, Nat.reduceSub]
                        apply mix_pure _ rfl
                        · intro w' hw'
                          obtain ⟨n, rfl⟩ := hw'
                          go_simp
                          rfl
                        intro K hK
                        go_simp
                        refine hK _ ?_
                        clear hK K
                        apply mix_pure _ rfl
                        · intro w' hw'
                          obtain ⟨n, rfl⟩ := hw'
                          go_simp
                          rfl
                        intro K hK
                        go_simp
                        refine hK _ ?_
                        clear hK K
                        apply mix_pure _ rfl
                        · intro w' hw'
                          obtain ⟨n, rfl⟩ := hw'
                          go_simp
                          rfl
                        intro K hK
                        go_simp
                        refine hK _ ?_
                        clear hK K
                        apply mix_pure _ rfl
                        · intro w' hw'
                          obtain ⟨n, rfl⟩ := hw'
                          go_simp
                          rfl
                        intro K hK
                        go_simp
                        refine hK _ ?_
                        clear hK K
                        apply mix_pure _ rfl
                        · intro w' hw'
                          obtain ⟨n, rfl⟩ := hw'
                          go_simp
                          rfl
                        intro K hK
                        go_simp
                        refine hK _ ?_
                        clear hK K
                        apply mix_pure _ rfl
                        · intro w' hw'
                          obtain ⟨n, rfl⟩ := hw'
                          go_simp
                          rfl
                        intro K hK
                        go_simp
                        refine hK _ ?_
                        clear hK K
                        refine mix_act rfl (fun K hK => ?_)
                        go_simp
                        refine (R2within_any _ _ _ _).mono ?_
                        rintro e w' ⟨rfl, rfl⟩
                        simp only []
                        refine hK _ _ hcur (fun hcur => ?_)
                        clear hK K
                        apply mix_pure _ rfl
                        · intro w' hw'
                          obtain ⟨n, rfl⟩ := hw'
                          go_simp
                          rfl
                        intro K hK
                        go_simp
                        refine hK _ ?_
                        clear hK K
                        apply mix_pure _ rfl
                        · intro w' hw'
                          obtain ⟨n, rfl⟩ := hw'
                          go_simp
                          rfl
                        intro K hK
                        go_simp
                        refine hK _ ?_
                        clear hK K
                        apply mix_pureG _ (by go_simp)
                        · intro w' hw'
                          obtain ⟨n, rfl⟩ := hw'
                          go_simp
                          rfl
                        intro K hK
                        go_simp
                        refine hK _ ?_
                        clear hK K
                        apply mix_pureG _ (by go_simp)
                        · intro w' hw'
                          obtain ⟨n, rfl⟩ := hw'
                          go_simp
                          rfl
                        intro K hK
                        go_simp
                        refine hK _ ?_
                        clear hK K
                        apply mix_pureG _ (by go_simp)
                        · intro w' hw'
                          obtain ⟨n, rfl⟩ := hw'
                          go_simp
                          rfl
                        intro K hK
                        go_simp
                        refine hK _ ?_
                        clear hK K
                        apply mix_pureG _ (by go_simp)
                        · intro w' hw'
                          obtain ⟨n, rfl⟩ := hw'
                          go_simp
                          rfl
                        intro K hK
                        go_simp
                        refine hK _ ?_
                        clear hK K
                        apply mix_pureG _ (by go_simp)
                        · intro w' hw'
                          obtain ⟨n, rfl⟩ := hw'
                          go_simp
                          rfl
                        intro K hK
                        go_simp
                        refine hK _ ?_
                        clear hK K
                        apply mix_pureG _ (by go_simp)
                        · intro w' hw'
                          obtain ⟨n, rfl⟩ := hw'
                          go_simp
                          rfl
                        intro K hK
                        go_simp
                        refine hK _ ?_
                        clear hK K
                        apply mix_pureG _ (by go_simp)
                        · intro w' hw'
                          obtain ⟨n, rfl⟩ := hw'
                          go_simp
                          rfl
                        intro K hK
                        go_simp
                        refine hK _ ?_
                        clear hK K
                        apply mix_pureG _ (by go_simp)
                        · intro w' hw'
                          obtain ⟨n, rfl⟩ := hw'
                          go_simp
                          rfl
                        intro K hK
                        go_simp
                        refine hK _ ?_
                        clear hK K
                        apply mix_pureG _ (by go_simp)
                        · intro w' hw'
                          obtain ⟨n, rfl⟩ := hw'
                          go_simp
                          rfl
                        intro K hK
                        go_simp
                        refine hK _ ?_
                        clear hK K
                        apply mix_pureG _ (by go_simp)
                        · intro w' hw'
                          obtain ⟨n, rfl⟩ := hw'
                          go_simp
                          first | (rw [IntWalk.i64_in]; all_goals first | omega | rfl) | rfl
                        intro K hK
                        go_simp
                        refine hK _ ?_
                        clear hK K
                        refine mix_actG (by go_simp) (fun K hK => ?_)
                        go_simp
                        refine (R2within_any _ _ _ _).mono ?_
                        rintro e w' ⟨rfl, rfl⟩
                        simp only []
                        refine hK _ _ hcur (fun hcur => ?_)
                        clear hK K
                        apply mix_pureG _ (by go_simp)
                        · intro w' hw'
                          obtain ⟨n, rfl⟩ := hw'
                          go_simp
                          rfl
                        intro K hK
                        go_simp
                        refine hK _ ?_
                        clear hK K
                        apply mix_pure _ rfl
                        · intro w' hw'
                          obtain ⟨n, rfl⟩ := hw'
                          go_simp
                          rfl
                        intro K hK
                        go_simp
                        refine hK _ ?_
                        clear hK K
                        refine mix_nil ?_
                        go_wp2
                        go_roundw
                        case rel => exact ⟨m + 1, by omega, by go_num, HR2.out, Bel.trans HW2.out (by repeat (first | assumption | exact Bel.refl _ | refine Bel.drew ?_ | refine Bel.drewN ?_ _ | refine Bel.alloc ?_ _ | refine Bel.setCell ?_ (by simp <;> omega) _ | refine Bel.trans ?_ (by assumption)))⟩
                        case measure => simp [intOf]; omega
                  · have HA1 := Lib.hid (show ansB G n.an = true by rw [HAB.out, show A = m by omega]; exact hno2.out)
                    have hlti : ¬ (m : Int) < (A : Int) := by omega
                    clear hw
                    go_wp2
                    clear x4 x5 lb
                    go_loopw [5] (fun i wi => ∃ k : Nat, k ≤ X ∧ i = .int .i64 k ∧ Hid (allB k (fun i => wlB (atWl n.walls i)) = true) ∧ Bel w2 wi) (fun i _ => X - (intOf i).toNat)
                    case atStart => exact ⟨0, by omega, rfl, rfl, HW2.out⟩
                    case round =>
                      clear hm hlt hlti
                      obtain ⟨m, hm, rfl, hno3, hw⟩ := hrel
                      have x6 := hw.cell HY.out.2.2.2.2.2.2
                      have lb := cell_lt x6
                      have HW3 := Lib.hid hw
                      by_cases hlt : m < X
                      · have hlti : (m : Int) < (X : Int) := by omega
                        have hc := HXC.out m hlt
                        have k0 := (HB2.out.trans hw).cell hc.1
                        have k1 := (HB2.out.trans hw).cell hc.2.1
                        have k2 := (HB2.out.trans hw).cell hc.2.2.1
                        have k3 := (HB2.out.trans hw).cell hc.2.2.2.1
                        have k4 := (HB2.out.trans hw).cell hc.2.2.2.2
                        have lk := cell_lt k0
                        have HI := Lib.hid (fun (h : wlB (atWl n.walls m) = false) => show wallsB n.walls = false from HWB.out.trans (allB_false m hlt h))
                        have HR := Lib.hid (fun (h : wlB (atWl n.walls m) = true) => allB_succ hno3.out (f := fun i => wlB (atWl n.walls i)) h)
                        have HAN := Lib.hid (show wlB (atWl n.walls m) = (withinB (atWl n.walls m).sail 0 9 && (withinB (atWl n.walls m).drag 0 9 && (withinB (atWl n.walls m).lean 0 9 && (withinB (atWl n.walls m).corks 0 99 && withinB (atWl n.walls m).stones 0 99)))) from rfl)
                        clear hw hc
                        generalize atWl n.walls m = s at *
                        cases c0 : withinB s.sail 0 9
                        · have HI2 := Lib.hid (HI.out (by rw [HAN.out, c0]; rfl))
                          clear HI HR HAN
                          go_wp2_with (first | (go_at_call 27; refine (R2within_any _ _ _ _).mono ?_; rintro e w' ⟨rfl, rfl⟩))
                          go_ret
                          exact ⟨ri (by rw [HX.out, HG1.out, HA1.out, HI2.out]; rfl), Bel.trans (HB2.out.trans HW3.out) (by repeat (first | assumption | exact Bel.refl _ | refine Bel.drew ?_ | refine Bel.drewN ?_ _ | refine Bel.alloc ?_ _ | refine Bel.setCell ?_ (by simp <;> omega) _ | refine Bel.trans ?_ (by assumption)))⟩
                        · cases c1 : withinB s.drag 0 9
                          · have HI2 := Lib.hid (HI.out (by rw [HAN.out, c0, c1]; rfl))
                            clear HI HR HAN
                            go_wp2_with (first | (go_at_call 27; refine (R2within_any _ _ _ _).mono ?_; rintro e w' ⟨rfl, rfl⟩))
                            go_ret
                            exact ⟨ri (by rw [HX.out, HG1.out, HA1.out, HI2.out]; rfl), Bel.trans (HB2.out.trans HW3.out) (by repeat (first | assumption | exact Bel.refl _ | refine Bel.drew ?_ | refine Bel.drewN ?_ _ | refine Bel.alloc ?_ _ | refine Bel.setCell ?_ (by simp <;> omega) _ | refine Bel.trans ?_ (by assumption)))⟩
                          · cases c2 : withinB s.lean 0 9
                            · have HI2 := Lib.hid (HI.out (by rw [HAN.out, c0, c1, c2]; rfl))
                              clear HI HR HAN
                              go_wp2_with (first | (go_at_call 27; refine (R2within_any _ _ _ _).mono ?_; rintro e w' ⟨rfl, rfl⟩))
                              go_ret
                              exact ⟨ri (by rw [HX.out, HG1.out, HA1.out, HI2.out]; rfl), Bel.trans (HB2.out.trans HW3.out) (by repeat (first | assumption | exact Bel.refl _ | refine Bel.drew ?_ | refine Bel.drewN ?_ _ | refine Bel.alloc ?_ _ | refine Bel.setCell ?_ (by simp <;> omega) _ | refine Bel.trans ?_ (by assumption)))⟩
                            · cases c3 : withinB s.corks 0 99
                              · have HI2 := Lib.hid (HI.out (by rw [HAN.out, c0, c1, c2, c3]; rfl))
                                clear HI HR HAN
                                go_wp2_with (first | (go_at_call 27; refine (R2within_any _ _ _ _).mono ?_; rintro e w' ⟨rfl, rfl⟩))
                                go_ret
                                exact ⟨ri (by rw [HX.out, HG1.out, HA1.out, HI2.out]; rfl), Bel.trans (HB2.out.trans HW3.out) (by repeat (first | assumption | exact Bel.refl _ | refine Bel.drew ?_ | refine Bel.drewN ?_ _ | refine Bel.alloc ?_ _ | refine Bel.setCell ?_ (by simp <;> omega) _ | refine Bel.trans ?_ (by assumption)))⟩
                              · cases c4 : withinB s.stones 0 99
                                · have HI2 := Lib.hid (HI.out (by rw [HAN.out, c0, c1, c2, c3, c4]; rfl))
                                  clear HI HR HAN
                                  go_wp2_with (first | (go_at_call 27; refine (R2within_any _ _ _ _).mono ?_; rintro e w' ⟨rfl, rfl⟩))
                                  go_ret
                                  exact ⟨ri (by rw [HX.out, HG1.out, HA1.out, HI2.out]; rfl), Bel.trans (HB2.out.trans HW3.out) (by repeat (first | assumption | exact Bel.refl _ | refine Bel.drew ?_ | refine Bel.drewN ?_ _ | refine Bel.alloc ?_ _ | refine Bel.setCell ?_ (by simp <;> omega) _ | refine Bel.trans ?_ (by assumption)))⟩
                                · have HR2 := Lib.hid (HR.out (by rw [HAN.out, c0, c1, c2, c3, c4]; rfl))
                                  clear HI HR HAN
                                  go_wp2_with (first | (go_at_call 27; refine (R2within_any _ _ _ _).mono ?_; rintro e w' ⟨rfl, rfl⟩))
                                  go_roundw
                                  case rel => exact ⟨m + 1, by omega, by go_num, HR2.out, Bel.trans HW3.out (by repeat (first | assumption | exact Bel.refl _ | refine Bel.drew ?_ | refine Bel.drewN ?_ _ | refine Bel.alloc ?_ _ | refine Bel.setCell ?_ (by simp <;> omega) _ | refine Bel.trans ?_ (by assumption)))⟩
                                  case measure => simp [intOf]; omega
                      · have HE := Lib.hid (show wallsB n.walls = true by rw [HWB.out, show X = m by omega]; exact hno3.out)
                        have hlti : ¬ (m : Int) < (X : Int) := by omega
                        clear hw
                        go_wp2
                        go_ret
                        exact ⟨ri (by rw [HX.out, HG1.out, HA1.out, HE.out]; rfl), HB2.out.trans HW3.out⟩
end Go.Proofs.YtkdcdhkhadhcfaaDoor

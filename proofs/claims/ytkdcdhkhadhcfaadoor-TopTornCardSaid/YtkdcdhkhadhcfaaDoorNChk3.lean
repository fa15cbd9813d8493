/-
  anchors: the program's Check.
-/
import Derived.Test.YtkdcdhkhadhcfaaDoorNChk2
namespace Go.Proofs.YtkdcdhkhadhcfaaDoor
open Go Go.RowKit
set_option maxHeartbeats 4000000
set_option maxRecDepth 100000
theorem nCheck_any (n : Net) (v : Value) (w : World) (hv : NetAt w v n) : Calls Tryd.prog 54 #[v] w fun e w' => e = .returned (.int .i64 (netE n)) ∧ Bel w w' := by
  have HX := Lib.hid (show netE n = if netB n then 0 else 20 from rfl)
  unfold netB headB at HX
  obtain ⟨ga, gc, aa, ac, xa, xc, rfl, hg, ha, hx⟩ := hv.open
  have HG := Lib.hid (fun wx (hb : Bel w wx) => everyG_any _ n.grips wx (hg.bel hb))
  have HA := Lib.hid (fun wx (hb : Bel w wx) tb (hc : wx.cell? ⟨tb, 4, none⟩ = some (.slice ga n.grips.length gc)) (hl : n.grips.length ≤ 140737488355328) => everyA_any tb n.grips.length ga gc _ n.an wx (ha.bel hb) hc hl)
  have HW := Lib.hid (fun wx (hb : Bel w wx) => everyW_any _ n.walls wx (hx.bel hb))
  have HS := Lib.hid (fun s wx => nisSpan_any s 20 wx)
  have lg : n.grips.length ≤ 140737488355328 := by obtain ⟨_, _, _, _, e, _, h, _⟩ := hg; exact h.1
  have la : n.an.length ≤ 140737488355328 := by obtain ⟨_, _, _, _, e, _, h, _⟩ := ha; exact h.1
  have lx : n.walls.length ≤ 140737488355328 := by obtain ⟨_, _, _, _, e, _, h, _⟩ := hx; exact h.1
  have HLG := Lib.hid lg
  clear hg ha hx hv
  generalize n.grips.length = G at *
  generalize n.an.length = A at *
  generalize n.walls.length = X at *
  cases h0 : spB n.wind 20
  · skip
    rw [h0] at HX
    skip
    have C0 := Lib.hid (fun wx => show Calls Tryd.prog 73 #[.agg #[.int .i64 n.wind.lo, .int .i64 n.wind.hi], .int .i64 20] wx (fun e w' => e = .returned (.bool false) ∧ Bel wx w') from by rw [← h0]; exact HS.out n.wind wx)
    clear HS h0
    go_enter Tryd.func54, Tryd.ntmps54
    go_wp2_with fail
    refine (C0.out _).mono ?_
    rintro e w1 ⟨rfl, hb⟩
    have hn := new_row (w := w) (o := .cells #[.int .i64 n.wind.lo, .int .i64 n.wind.hi, .int .i64 n.cur.lo, .int .i64 n.cur.hi, .slice ga G gc, .slice aa A ac, .slice xa X xc] 32) rfl
    have x0 := hb.cell ((row_facts hn).1 0)
    have x1 := hb.cell ((row_facts hn).1 1)
    have x2 := hb.cell ((row_facts hn).1 2)
    have x3 := hb.cell ((row_facts hn).1 3)
    have x4 := hb.cell ((row_facts hn).1 4)
    have x5 := hb.cell ((row_facts hn).1 5)
    have x6 := hb.cell ((row_facts hn).1 6)
    clear hn
    have hB1 : Bel w w1 := Bel.trans (by repeat (first | assumption | exact Bel.refl _ | refine Bel.drew ?_ | refine Bel.drewN ?_ _ | refine Bel.alloc ?_ _ | refine Bel.setCell ?_ (by simp <;> omega) _ | refine Bel.trans ?_ (by assumption))) hb
    have lb := cell_lt x0
    clear hb C0
    have HB := Lib.hid hB1
    clear hB1
    go_wp2
    go_ret
    exact ⟨ri (by rw [HX.out]; rfl), Bel.trans HB.out (by repeat (first | assumption | exact Bel.refl _ | refine Bel.drew ?_ | refine Bel.drewN ?_ _ | refine Bel.alloc ?_ _ | refine Bel.setCell ?_ (by simp <;> omega) _ | refine Bel.trans ?_ (by assumption)))⟩
  · skip
    cases h1 : spB n.cur 20
    · skip
      rw [h0] at HX
      rw [h1] at HX
      skip
      have C0 := Lib.hid (fun wx => show Calls Tryd.prog 73 #[.agg #[.int .i64 n.wind.lo, .int .i64 n.wind.hi], .int .i64 20] wx (fun e w' => e = .returned (.bool true) ∧ Bel wx w') from by rw [← h0]; exact HS.out n.wind wx)
      have C1 := Lib.hid (fun wx => show Calls Tryd.prog 73 #[.agg #[.int .i64 n.cur.lo, .int .i64 n.cur.hi], .int .i64 20] wx (fun e w' => e = .returned (.bool false) ∧ Bel wx w') from by rw [← h1]; exact HS.out n.cur wx)
      clear HS h0 h1
      go_enter Tryd.func54, Tryd.ntmps54
      go_wp2_with fail
      refine (C0.out _).mono ?_
      rintro e w1 ⟨rfl, hb⟩
      have hn := new_row (w := w) (o := .cells #[.int .i64 n.wind.lo, .int .i64 n.wind.hi, .int .i64 n.cur.lo, .int .i64 n.cur.hi, .slice ga G gc, .slice aa A ac, .slice xa X xc] 32) rfl
      have x0 := hb.cell ((row_facts hn).1 0)
      have x1 := hb.cell ((row_facts hn).1 1)
      have x2 := hb.cell ((row_facts hn).1 2)
      have x3 := hb.cell ((row_facts hn).1 3)
      have x4 := hb.cell ((row_facts hn).1 4)
      have x5 := hb.cell ((row_facts hn).1 5)
      have x6 := hb.cell ((row_facts hn).1 6)
      clear hn
      have hB1 : Bel w w1 := Bel.trans (by repeat (first | assumption | exact Bel.refl _ | refine Bel.drew ?_ | refine Bel.drewN ?_ _ | refine Bel.alloc ?_ _ | refine Bel.setCell ?_ (by simp <;> omega) _ | refine Bel.trans ?_ (by assumption))) hb
      have lb := cell_lt x0
      clear hb C0
      go_wp2_with fail
      refine (C1.out _).mono ?_
      rintro e w2 ⟨rfl, hb⟩
      have hk : Bel w1 w2 := Bel.trans (by repeat (first | assumption | exact Bel.refl _ | refine Bel.drew ?_ | refine Bel.drewN ?_ _ | refine Bel.alloc ?_ _ | refine Bel.setCell ?_ (by simp <;> omega) _ | refine Bel.trans ?_ (by assumption))) hb
      replace x0 := hk.cell x0
      replace x1 := hk.cell x1
      replace x2 := hk.cell x2
      replace x3 := hk.cell x3
      replace x4 := hk.cell x4
      replace x5 := hk.cell x5
      replace x6 := hk.cell x6
      replace lb := cell_lt x0
      have hB2 : Bel w w2 := hB1.trans hk
      clear hb hk hB1
      have HB := Lib.hid hB2
      clear hB2
      go_wp2
      go_ret
      exact ⟨ri (by rw [HX.out]; rfl), Bel.trans HB.out (by repeat (first | assumption | exact Bel.refl _ | refine Bel.drew ?_ | refine Bel.drewN ?_ _ | refine Bel.alloc ?_ _ | refine Bel.setCell ?_ (by simp <;> omega) _ | refine Bel.trans ?_ (by assumption)))⟩
    · skip
      cases h2 : decide (G ≤ 3)
      · skip
        rw [h0] at HX
        rw [h1] at HX
        rw [h2] at HX
        skip
        have f2 : ¬ ((G : Int) ≤ 3) := by have := of_decide_eq_false h2; omega
        have g2 : decide ((G : Int) ≤ 3) = false := decide_eq_false f2
        have C0 := Lib.hid (fun wx => show Calls Tryd.prog 73 #[.agg #[.int .i64 n.wind.lo, .int .i64 n.wind.hi], .int .i64 20] wx (fun e w' => e = .returned (.bool true) ∧ Bel wx w') from by rw [← h0]; exact HS.out n.wind wx)
        have C1 := Lib.hid (fun wx => show Calls Tryd.prog 73 #[.agg #[.int .i64 n.cur.lo, .int .i64 n.cur.hi], .int .i64 20] wx (fun e w' => e = .returned (.bool true) ∧ Bel wx w') from by rw [← h1]; exact HS.out n.cur wx)
        clear HS h0 h1 h2
        go_enter Tryd.func54, Tryd.ntmps54
        go_wp2_with fail
        refine (C0.out _).mono ?_
        rintro e w1 ⟨rfl, hb⟩
        have hn := new_row (w := w) (o := .cells #[.int .i64 n.wind.lo, .int .i64 n.wind.hi, .int .i64 n.cur.lo, .int .i64 n.cur.hi, .slice ga G gc, .slice aa A ac, .slice xa X xc] 32) rfl
        have x0 := hb.cell ((row_facts hn).1 0)
        have x1 := hb.cell ((row_facts hn).1 1)
        have x2 := hb.cell ((row_facts hn).1 2)
        have x3 := hb.cell ((row_facts hn).1 3)
        have x4 := hb.cell ((row_facts hn).1 4)
        have x5 := hb.cell ((row_facts hn).1 5)
        have x6 := hb.cell ((row_facts hn).1 6)
        clear hn
        have hB1 : Bel w w1 := Bel.trans (by repeat (first | assumption | exact Bel.refl _ | refine Bel.drew ?_ | refine Bel.drewN ?_ _ | refine Bel.alloc ?_ _ | refine Bel.setCell ?_ (by simp <;> omega) _ | refine Bel.trans ?_ (by assumption))) hb
        have lb := cell_lt x0
        clear hb C0
        go_wp2_with fail
        refine (C1.out _).mono ?_
        rintro e w2 ⟨rfl, hb⟩
        have hk : Bel w1 w2 := Bel.trans (by repeat (first | assumption | exact Bel.refl _ | refine Bel.drew ?_ | refine Bel.drewN ?_ _ | refine Bel.alloc ?_ _ | refine Bel.setCell ?_ (by simp <;> omega) _ | refine Bel.trans ?_ (by assumption))) hb
        replace x0 := hk.cell x0
        replace x1 := hk.cell x1
        replace x2 := hk.cell x2
        replace x3 := hk.cell x3
        replace x4 := hk.cell x4
        replace x5 := hk.cell x5
        replace x6 := hk.cell x6
        replace lb := cell_lt x0
        have hB2 : Bel w w2 := hB1.trans hk
        clear hb hk hB1
        have HB := Lib.hid hB2
        clear hB2
        go_wp2
        go_ret
        exact ⟨ri (by rw [HX.out]; rfl), Bel.trans HB.out (by repeat (first | assumption | exact Bel.refl _ | refine Bel.drew ?_ | refine Bel.drewN ?_ _ | refine Bel.alloc ?_ _ | refine Bel.setCell ?_ (by simp <;> omega) _ | refine Bel.trans ?_ (by assumption)))⟩
      · skip
        cases h3 : decide (A ≤ 6)
        · skip
          rw [h0] at HX
          rw [h1] at HX
          rw [h2] at HX
          rw [h3] at HX
          skip
          have f2 : ((G : Int) ≤ 3) := by have := of_decide_eq_true h2; omega
          have g2 : decide ((G : Int) ≤ 3) = true := decide_eq_true f2
          have f3 : ¬ ((A : Int) ≤ 6) := by have := of_decide_eq_false h3; omega
          have g3 : decide ((A : Int) ≤ 6) = false := decide_eq_false f3
          have C0 := Lib.hid (fun wx => show Calls Tryd.prog 73 #[.agg #[.int .i64 n.wind.lo, .int .i64 n.wind.hi], .int .i64 20] wx (fun e w' => e = .returned (.bool true) ∧ Bel wx w') from by rw [← h0]; exact HS.out n.wind wx)
          have C1 := Lib.hid (fun wx => show Calls Tryd.prog 73 #[.agg #[.int .i64 n.cur.lo, .int .i64 n.cur.hi], .int .i64 20] wx (fun e w' => e = .returned (.bool true) ∧ Bel wx w') from by rw [← h1]; exact HS.out n.cur wx)
          clear HS h0 h1 h2 h3
          go_enter Tryd.func54, Tryd.ntmps54
          go_wp2_with fail
          refine (C0.out _).mono ?_
          rintro e w1 ⟨rfl, hb⟩
          have hn := new_row (w := w) (o := .cells #[.int .i64 n.wind.lo, .int .i64 n.wind.hi, .int .i64 n.cur.lo, .int .i64 n.cur.hi, .slice ga G gc, .slice aa A ac, .slice xa X xc] 32) rfl
          have x0 := hb.cell ((row_facts hn).1 0)
          have x1 := hb.cell ((row_facts hn).1 1)
          have x2 := hb.cell ((row_facts hn).1 2)
          have x3 := hb.cell ((row_facts hn).1 3)
          have x4 := hb.cell ((row_facts hn).1 4)
          have x5 := hb.cell ((row_facts hn).1 5)
          have x6 := hb.cell ((row_facts hn).1 6)
          clear hn
          have hB1 : Bel w w1 := Bel.trans (by repeat (first | assumption | exact Bel.refl _ | refine Bel.drew ?_ | refine Bel.drewN ?_ _ | refine Bel.alloc ?_ _ | refine Bel.setCell ?_ (by simp <;> omega) _ | refine Bel.trans ?_ (by assumption))) hb
          have lb := cell_lt x0
          clear hb C0
          go_wp2_with fail
          refine (C1.out _).mono ?_
          rintro e w2 ⟨rfl, hb⟩
          have hk : Bel w1 w2 := Bel.trans (by repeat (first | assumption | exact Bel.refl _ | refine Bel.drew ?_ | refine Bel.drewN ?_ _ | refine Bel.alloc ?_ _ | refine Bel.setCell ?_ (by simp <;> omega) _ | refine Bel.trans ?_ (by assumption))) hb
          replace x0 := hk.cell x0
          replace x1 := hk.cell x1
          replace x2 := hk.cell x2
          replace x3 := hk.cell x3
          replace x4 := hk.cell x4
          replace x5 := hk.cell x5
          replace x6 := hk.cell x6
          replace lb := cell_lt x0
          have hB2 : Bel w w2 := hB1.trans hk
          clear hb hk hB1
          have HB := Lib.hid hB2
          clear hB2
          go_wp2
          go_ret
          exact ⟨ri (by rw [HX.out]; rfl), Bel.trans HB.out (by repeat (first | assumption | exact Bel.refl _ | refine Bel.drew ?_ | refine Bel.drewN ?_ _ | refine Bel.alloc ?_ _ | refine Bel.setCell ?_ (by simp <;> omega) _ | refine Bel.trans ?_ (by assumption)))⟩
        · skip
          cases h4 : decide (X = A - 1)
          · skip
            rw [h0] at HX
            rw [h1] at HX
            rw [h2] at HX
            rw [h3] at HX
            rw [h4] at HX
            skip
            have f2 : ((G : Int) ≤ 3) := by have := of_decide_eq_true h2; omega
            have g2 : decide ((G : Int) ≤ 3) = true := decide_eq_true f2
            have f3 : ((A : Int) ≤ 6) := by have := of_decide_eq_true h3; omega
            have g3 : decide ((A : Int) ≤ 6) = true := decide_eq_true f3
            rcases Nat.lt_or_ge 1 A with q0 | q0
            · have q1 : (1 : Int) < (A : Int) := by omega
              have q2 : ¬ (A : Int) ≤ 1 := by omega
              have f4 : ((X : Int) == (A : Int) - 1) = false := by rw [beq_eq_false_iff_ne]; have := of_decide_eq_false h4; omega
              clear q0
              have C0 := Lib.hid (fun wx => show Calls Tryd.prog 73 #[.agg #[.int .i64 n.wind.lo, .int .i64 n.wind.hi], .int .i64 20] wx (fun e w' => e = .returned (.bool true) ∧ Bel wx w') from by rw [← h0]; exact HS.out n.wind wx)
              have C1 := Lib.hid (fun wx => show Calls Tryd.prog 73 #[.agg #[.int .i64 n.cur.lo, .int .i64 n.cur.hi], .int .i64 20] wx (fun e w' => e = .returned (.bool true) ∧ Bel wx w') from by rw [← h1]; exact HS.out n.cur wx)
              clear HS h0 h1 h2 h3 h4
              go_enter Tryd.func54, Tryd.ntmps54
              go_wp2_with fail
              refine (C0.out _).mono ?_
              rintro e w1 ⟨rfl, hb⟩
              have hn := new_row (w := w) (o := .cells #[.int .i64 n.wind.lo, .int .i64 n.wind.hi, .int .i64 n.cur.lo, .int .i64 n.cur.hi, .slice ga G gc, .slice aa A ac, .slice xa X xc] 32) rfl
              have x0 := hb.cell ((row_facts hn).1 0)
              have x1 := hb.cell ((row_facts hn).1 1)
              have x2 := hb.cell ((row_facts hn).1 2)
              have x3 := hb.cell ((row_facts hn).1 3)
              have x4 := hb.cell ((row_facts hn).1 4)
              have x5 := hb.cell ((row_facts hn).1 5)
              have x6 := hb.cell ((row_facts hn).1 6)
              clear hn
              have hB1 : Bel w w1 := Bel.trans (by repeat (first | assumption | exact Bel.refl _ | refine Bel.drew ?_ | refine Bel.drewN ?_ _ | refine Bel.alloc ?_ _ | refine Bel.setCell ?_ (by simp <;> omega) _ | refine Bel.trans ?_ (by assumption))) hb
              have lb := cell_lt x0
              clear hb C0
              go_wp2_with fail
              refine (C1.out _).mono ?_
              rintro e w2 ⟨rfl, hb⟩
              have hk : Bel w1 w2 := Bel.trans (by repeat (first | assumption | exact Bel.refl _ | refine Bel.drew ?_ | refine Bel.drewN ?_ _ | refine Bel.alloc ?_ _ | refine Bel.setCell ?_ (by simp <;> omega) _ | refine Bel.trans ?_ (by assumption))) hb
              replace x0 := hk.cell x0
              replace x1 := hk.cell x1
              replace x2 := hk.cell x2
              replace x3 := hk.cell x3
              replace x4 := hk.cell x4
              replace x5 := hk.cell x5
              replace x6 := hk.cell x6
              replace lb := cell_lt x0
              have hB2 : Bel w w2 := hB1.trans hk
              clear hb hk hB1
              have HB := Lib.hid hB2
              clear hB2
              go_wp2
              go_ret
              exact ⟨ri (by rw [HX.out]; rfl), Bel.trans HB.out (by repeat (first | assumption | exact Bel.refl _ | refine Bel.drew ?_ | refine Bel.drewN ?_ _ | refine Bel.alloc ?_ _ | refine Bel.setCell ?_ (by simp <;> omega) _ | refine Bel.trans ?_ (by assumption)))⟩
            · have q1 : (A : Int) ≤ 1 := by omega
              have q2 : ¬ (1 : Int) < (A : Int) := by omega
              have f4 : ((X : Int) == 0) = false := by rw [beq_eq_false_iff_ne]; have := of_decide_eq_false h4; omega
              have f5 : decide (X = 0) = false := by rw [decide_eq_false_iff_not]; have := of_decide_eq_false h4; omega
              clear q0
              have C0 := Lib.hid (fun wx => show Calls Tryd.prog 73 #[.agg #[.int .i64 n.wind.lo, .int .i64 n.wind.hi], .int .i64 20] wx (fun e w' => e = .returned (.bool true) ∧ Bel wx w') from by rw [← h0]; exact HS.out n.wind wx)
              have C1 := Lib.hid (fun wx => show Calls Tryd.prog 73 #[.agg #[.int .i64 n.cur.lo, .int .i64 n.cur.hi], .int .i64 20] wx (fun e w' => e = .returned (.bool true) ∧ Bel wx w') from by rw [← h1]; exact HS.out n.cur wx)
              clear HS h0 h1 h2 h3 h4
              go_enter Tryd.func54, Tryd.ntmps54
              go_wp2_with fail
              refine (C0.out _).mono ?_
              rintro e w1 ⟨rfl, hb⟩
              have hn := new_row (w := w) (o := .cells #[.int .i64 n.wind.lo, .int .i64 n.wind.hi, .int .i64 n.cur.lo, .int .i64 n.cur.hi, .slice ga G gc, .slice aa A ac, .slice xa X xc] 32) rfl
              have x0 := hb.cell ((row_facts hn).1 0)
              have x1 := hb.cell ((row_facts hn).1 1)
              have x2 := hb.cell ((row_facts hn).1 2)
              have x3 := hb.cell ((row_facts hn).1 3)
              have x4 := hb.cell ((row_facts hn).1 4)
              have x5 := hb.cell ((row_facts hn).1 5)
              have x6 := hb.cell ((row_facts hn).1 6)
              clear hn
              have hB1 : Bel w w1 := Bel.trans (by repeat (first | assumption | exact Bel.refl _ | refine Bel.drew ?_ | refine Bel.drewN ?_ _ | refine Bel.alloc ?_ _ | refine Bel.setCell ?_ (by simp <;> omega) _ | refine Bel.trans ?_ (by assumption))) hb
              have lb := cell_lt x0
              clear hb C0
              go_wp2_with fail
              refine (C1.out _).mono ?_
              rintro e w2 ⟨rfl, hb⟩
              have hk : Bel w1 w2 := Bel.trans (by repeat (first | assumption | exact Bel.refl _ | refine Bel.drew ?_ | refine Bel.drewN ?_ _ | refine Bel.alloc ?_ _ | refine Bel.setCell ?_ (by simp <;> omega) _ | refine Bel.trans ?_ (by assumption))) hb
              replace x0 := hk.cell x0
              replace x1 := hk.cell x1
              replace x2 := hk.cell x2
              replace x3 := hk.cell x3
              replace x4 := hk.cell x4
              replace x5 := hk.cell x5
              replace x6 := hk.cell x6
              replace lb := cell_lt x0
              have hB2 : Bel w w2 := hB1.trans hk
              clear hb hk hB1
              have HB := Lib.hid hB2
              clear hB2
              go_wp2
              go_ret
              exact ⟨ri (by rw [HX.out]; rfl), Bel.trans HB.out (by repeat (first | assumption | exact Bel.refl _ | refine Bel.drew ?_ | refine Bel.drewN ?_ _ | refine Bel.alloc ?_ _ | refine Bel.setCell ?_ (by simp <;> omega) _ | refine Bel.trans ?_ (by assumption)))⟩
          · skip
            cases h5 : gripsB n.grips
            · skip
              rw [h0] at HX
              rw [h1] at HX
              rw [h2] at HX
              rw [h3] at HX
              rw [h4] at HX
              rw [h5] at HX
              skip
              have f2 : ((G : Int) ≤ 3) := by have := of_decide_eq_true h2; omega
              have g2 : decide ((G : Int) ≤ 3) = true := decide_eq_true f2
              have f3 : ((A : Int) ≤ 6) := by have := of_decide_eq_true h3; omega
              have g3 : decide ((A : Int) ≤ 6) = true := decide_eq_true f3
              rcases Nat.lt_or_ge 1 A with q0 | q0
              · have q1 : (1 : Int) < (A : Int) := by omega
                have q2 : ¬ (A : Int) ≤ 1 := by omega
                have f4 : ((X : Int) == (A : Int) - 1) = true := by rw [beq_iff_eq]; have := of_decide_eq_true h4; omega
                clear q0
                have C0 := Lib.hid (fun wx => show Calls Tryd.prog 73 #[.agg #[.int .i64 n.wind.lo, .int .i64 n.wind.hi], .int .i64 20] wx (fun e w' => e = .returned (.bool true) ∧ Bel wx w') from by rw [← h0]; exact HS.out n.wind wx)
                have C1 := Lib.hid (fun wx => show Calls Tryd.prog 73 #[.agg #[.int .i64 n.cur.lo, .int .i64 n.cur.hi], .int .i64 20] wx (fun e w' => e = .returned (.bool true) ∧ Bel wx w') from by rw [← h1]; exact HS.out n.cur wx)
                rw [h5] at HG
                clear HS h0 h1 h2 h3 h4 h5
                go_enter Tryd.func54, Tryd.ntmps54
                go_wp2_with fail
                refine (C0.out _).mono ?_
                rintro e w1 ⟨rfl, hb⟩
                have hn := new_row (w := w) (o := .cells #[.int .i64 n.wind.lo, .int .i64 n.wind.hi, .int .i64 n.cur.lo, .int .i64 n.cur.hi, .slice ga G gc, .slice aa A ac, .slice xa X xc] 32) rfl
                have x0 := hb.cell ((row_facts hn).1 0)
                have x1 := hb.cell ((row_facts hn).1 1)
                have x2 := hb.cell ((row_facts hn).1 2)
                have x3 := hb.cell ((row_facts hn).1 3)
                have x4 := hb.cell ((row_facts hn).1 4)
                have x5 := hb.cell ((row_facts hn).1 5)
                have x6 := hb.cell ((row_facts hn).1 6)
                clear hn
                have hB1 : Bel w w1 := Bel.trans (by repeat (first | assumption | exact Bel.refl _ | refine Bel.drew ?_ | refine Bel.drewN ?_ _ | refine Bel.alloc ?_ _ | refine Bel.setCell ?_ (by simp <;> omega) _ | refine Bel.trans ?_ (by assumption))) hb
                have lb := cell_lt x0
                clear hb C0
                go_wp2_with fail
                refine (C1.out _).mono ?_
                rintro e w2 ⟨rfl, hb⟩
                have hk : Bel w1 w2 := Bel.trans (by repeat (first | assumption | exact Bel.refl _ | refine Bel.drew ?_ | refine Bel.drewN ?_ _ | refine Bel.alloc ?_ _ | refine Bel.setCell ?_ (by simp <;> omega) _ | refine Bel.trans ?_ (by assumption))) hb
                replace x0 := hk.cell x0
                replace x1 := hk.cell x1
                replace x2 := hk.cell x2
                replace x3 := hk.cell x3
                replace x4 := hk.cell x4
                replace x5 := hk.cell x5
                replace x6 := hk.cell x6
                replace lb := cell_lt x0
                have hB2 : Bel w w2 := hB1.trans hk
                clear hb hk hB1
                go_wp2_with fail
                refine (HG.out _ (Bel.trans hB2 (by repeat (first | assumption | exact Bel.refl _ | refine Bel.drew ?_ | refine Bel.drewN ?_ _ | refine Bel.alloc ?_ _ | refine Bel.setCell ?_ (by simp <;> omega) _ | refine Bel.trans ?_ (by assumption))))).mono ?_
                rintro e w3 ⟨rfl, hb⟩
                have hk : Bel w2 w3 := Bel.trans (by repeat (first | assumption | exact Bel.refl _ | refine Bel.drew ?_ | refine Bel.drewN ?_ _ | refine Bel.alloc ?_ _ | refine Bel.setCell ?_ (by simp <;> omega) _ | refine Bel.trans ?_ (by assumption))) hb
                replace x0 := hk.cell x0
                replace x1 := hk.cell x1
                replace x2 := hk.cell x2
                replace x3 := hk.cell x3
                replace x4 := hk.cell x4
                replace x5 := hk.cell x5
                replace x6 := hk.cell x6
                replace lb := cell_lt x0
                have hB3 : Bel w w3 := hB2.trans hk
                clear hb hk hB2
                have HB := Lib.hid hB3
                clear hB3
                go_wp2
                go_ret
                exact ⟨ri (by rw [HX.out]; rfl), Bel.trans HB.out (by repeat (first | assumption | exact Bel.refl _ | refine Bel.drew ?_ | refine Bel.drewN ?_ _ | refine Bel.alloc ?_ _ | refine Bel.setCell ?_ (by simp <;> omega) _ | refine Bel.trans ?_ (by assumption)))⟩
              · have q1 : (A : Int) ≤ 1 := by omega
                have q2 : ¬ (1 : Int) < (A : Int) := by omega
                have f4 : ((X : Int) == 0) = true := by rw [beq_iff_eq]; have := of_decide_eq_true h4; omega
                have f5 : decide (X = 0) = true := by rw [decide_eq_true_eq]; have := of_decide_eq_true h4; omega
                clear q0
                have C0 := Lib.hid (fun wx => show Calls Tryd.prog 73 #[.agg #[.int .i64 n.wind.lo, .int .i64 n.wind.hi], .int .i64 20] wx (fun e w' => e = .returned (.bool true) ∧ Bel wx w') from by rw [← h0]; exact HS.out n.wind wx)
                have C1 := Lib.hid (fun wx => show Calls Tryd.prog 73 #[.agg #[.int .i64 n.cur.lo, .int .i64 n.cur.hi], .int .i64 20] wx (fun e w' => e = .returned (.bool true) ∧ Bel wx w') from by rw [← h1]; exact HS.out n.cur wx)
                rw [h5] at HG
                clear HS h0 h1 h2 h3 h4 h5
                go_enter Tryd.func54, Tryd.ntmps54
                go_wp2_with fail
                refine (C0.out _).mono ?_
                rintro e w1 ⟨rfl, hb⟩
                have hn := new_row (w := w) (o := .cells #[.int .i64 n.wind.lo, .int .i64 n.wind.hi, .int .i64 n.cur.lo, .int .i64 n.cur.hi, .slice ga G gc, .slice aa A ac, .slice xa X xc] 32) rfl
                have x0 := hb.cell ((row_facts hn).1 0)
                have x1 := hb.cell ((row_facts hn).1 1)
                have x2 := hb.cell ((row_facts hn).1 2)
                have x3 := hb.cell ((row_facts hn).1 3)
                have x4 := hb.cell ((row_facts hn).1 4)
                have x5 := hb.cell ((row_facts hn).1 5)
                have x6 := hb.cell ((row_facts hn).1 6)
                clear hn
                have hB1 : Bel w w1 := Bel.trans (by repeat (first | assumption | exact Bel.refl _ | refine Bel.drew ?_ | refine Bel.drewN ?_ _ | refine Bel.alloc ?_ _ | refine Bel.setCell ?_ (by simp <;> omega) _ | refine Bel.trans ?_ (by assumption))) hb
                have lb := cell_lt x0
                clear hb C0
                go_wp2_with fail
                refine (C1.out _).mono ?_
                rintro e w2 ⟨rfl, hb⟩
                have hk : Bel w1 w2 := Bel.trans (by repeat (first | assumption | exact Bel.refl _ | refine Bel.drew ?_ | refine Bel.drewN ?_ _ | refine Bel.alloc ?_ _ | refine Bel.setCell ?_ (by simp <;> omega) _ | refine Bel.trans ?_ (by assumption))) hb
                replace x0 := hk.cell x0
                replace x1 := hk.cell x1
                replace x2 := hk.cell x2
                replace x3 := hk.cell x3
                replace x4 := hk.cell x4
                replace x5 := hk.cell x5
                replace x6 := hk.cell x6
                replace lb := cell_lt x0
                have hB2 : Bel w w2 := hB1.trans hk
                clear hb hk hB1
                go_wp2_with fail
                refine (HG.out _ (Bel.trans hB2 (by repeat (first | assumption | exact Bel.refl _ | refine Bel.drew ?_ | refine Bel.drewN ?_ _ | refine Bel.alloc ?_ _ | refine Bel.setCell ?_ (by simp <;> omega) _ | refine Bel.trans ?_ (by assumption))))).mono ?_
                rintro e w3 ⟨rfl, hb⟩
                have hk : Bel w2 w3 := Bel.trans (by repeat (first | assumption | exact Bel.refl _ | refine Bel.drew ?_ | refine Bel.drewN ?_ _ | refine Bel.alloc ?_ _ | refine Bel.setCell ?_ (by simp <;> omega) _ | refine Bel.trans ?_ (by assumption))) hb
                replace x0 := hk.cell x0
                replace x1 := hk.cell x1
                replace x2 := hk.cell x2
                replace x3 := hk.cell x3
                replace x4 := hk.cell x4
                replace x5 := hk.cell x5
                replace x6 := hk.cell x6
                replace lb := cell_lt x0
                have hB3 : Bel w w3 := hB2.trans hk
                clear hb hk hB2
                have HB := Lib.hid hB3
                clear hB3
                go_wp2
                go_ret
                exact ⟨ri (by rw [HX.out]; rfl), Bel.trans HB.out (by repeat (first | assumption | exact Bel.refl _ | refine Bel.drew ?_ | refine Bel.drewN ?_ _ | refine Bel.alloc ?_ _ | refine Bel.setCell ?_ (by simp <;> omega) _ | refine Bel.trans ?_ (by assumption)))⟩
            · skip
              cases h6 : ansB G n.an
              · skip
                rw [h0] at HX
                rw [h1] at HX
                rw [h2] at HX
                rw [h3] at HX
                rw [h4] at HX
                rw [h5] at HX
                rw [h6] at HX
                skip
                have f2 : ((G : Int) ≤ 3) := by have := of_decide_eq_true h2; omega
                have g2 : decide ((G : Int) ≤ 3) = true := decide_eq_true f2
                have f3 : ((A : Int) ≤ 6) := by have := of_decide_eq_true h3; omega
                have g3 : decide ((A : Int) ≤ 6) = true := decide_eq_true f3
                rcases Nat.lt_or_ge 1 A with q0 | q0
                · have q1 : (1 : Int) < (A : Int) := by omega
                  have q2 : ¬ (A : Int) ≤ 1 := by omega
                  have f4 : ((X : Int) == (A : Int) - 1) = true := by rw [beq_iff_eq]; have := of_decide_eq_true h4; omega
                  clear q0
                  have C0 := Lib.hid (fun wx => show Calls Tryd.prog 73 #[.agg #[.int .i64 n.wind.lo, .int .i64 n.wind.hi], .int .i64 20] wx (fun e w' => e = .returned (.bool true) ∧ Bel wx w') from by rw [← h0]; exact HS.out n.wind wx)
                  have C1 := Lib.hid (fun wx => show Calls Tryd.prog 73 #[.agg #[.int .i64 n.cur.lo, .int .i64 n.cur.hi], .int .i64 20] wx (fun e w' => e = .returned (.bool true) ∧ Bel wx w') from by rw [← h1]; exact HS.out n.cur wx)
                  rw [h5] at HG
                  rw [h6] at HA
                  clear HS h0 h1 h2 h3 h4 h5 h6
                  go_enter Tryd.func54, Tryd.ntmps54
                  go_wp2_with fail
                  refine (C0.out _).mono ?_
                  rintro e w1 ⟨rfl, hb⟩
                  have hn := new_row (w := w) (o := .cells #[.int .i64 n.wind.lo, .int .i64 n.wind.hi, .int .i64 n.cur.lo, .int .i64 n.cur.hi, .slice ga G gc, .slice aa A ac, .slice xa X xc] 32) rfl
                  have x0 := hb.cell ((row_facts hn).1 0)
                  have x1 := hb.cell ((row_facts hn).1 1)
                  have x2 := hb.cell ((row_facts hn).1 2)
                  have x3 := hb.cell ((row_facts hn).1 3)
                  have x4 := hb.cell ((row_facts hn).1 4)
                  have x5 := hb.cell ((row_facts hn).1 5)
                  have x6 := hb.cell ((row_facts hn).1 6)
                  clear hn
                  have hB1 : Bel w w1 := Bel.trans (by repeat (first | assumption | exact Bel.refl _ | refine Bel.drew ?_ | refine Bel.drewN ?_ _ | refine Bel.alloc ?_ _ | refine Bel.setCell ?_ (by simp <;> omega) _ | refine Bel.trans ?_ (by assumption))) hb
                  have lb := cell_lt x0
                  clear hb C0
                  go_wp2_with fail
                  refine (C1.out _).mono ?_
                  rintro e w2 ⟨rfl, hb⟩
                  have hk : Bel w1 w2 := Bel.trans (by repeat (first | assumption | exact Bel.refl _ | refine Bel.drew ?_ | refine Bel.drewN ?_ _ | refine Bel.alloc ?_ _ | refine Bel.setCell ?_ (by simp <;> omega) _ | refine Bel.trans ?_ (by assumption))) hb
                  replace x0 := hk.cell x0
                  replace x1 := hk.cell x1
                  replace x2 := hk.cell x2
                  replace x3 := hk.cell x3
                  replace x4 := hk.cell x4
                  replace x5 := hk.cell x5
                  replace x6 := hk.cell x6
                  replace lb := cell_lt x0
                  have hB2 : Bel w w2 := hB1.trans hk
                  clear hb hk hB1
                  go_wp2_with fail
                  refine (HG.out _ (Bel.trans hB2 (by repeat (first | assumption | exact Bel.refl _ | refine Bel.drew ?_ | refine Bel.drewN ?_ _ | refine Bel.alloc ?_ _ | refine Bel.setCell ?_ (by simp <;> omega) _ | refine Bel.trans ?_ (by assumption))))).mono ?_
                  rintro e w3 ⟨rfl, hb⟩
                  have hk : Bel w2 w3 := Bel.trans (by repeat (first | assumption | exact Bel.refl _ | refine Bel.drew ?_ | refine Bel.drewN ?_ _ | refine Bel.alloc ?_ _ | refine Bel.setCell ?_ (by simp <;> omega) _ | refine Bel.trans ?_ (by assumption))) hb
                  replace x0 := hk.cell x0
                  replace x1 := hk.cell x1
                  replace x2 := hk.cell x2
                  replace x3 := hk.cell x3
                  replace x4 := hk.cell x4
                  replace x5 := hk.cell x5
                  replace x6 := hk.cell x6
                  replace lb := cell_lt x0
                  have hB3 : Bel w w3 := hB2.trans hk
                  clear hb hk hB2
                  go_wp2_with fail
                  refine (HA.out _ (Bel.trans hB3 (by repeat (first | assumption | exact Bel.refl _ | refine Bel.drew ?_ | refine Bel.drewN ?_ _ | refine Bel.alloc ?_ _ | refine Bel.setCell ?_ (by simp <;> omega) _ | refine Bel.trans ?_ (by assumption)))) _ (by assumption) HLG.out).mono ?_
                  rintro e w4 ⟨rfl, hb⟩
                  have hk : Bel w3 w4 := Bel.trans (by repeat (first | assumption | exact Bel.refl _ | refine Bel.drew ?_ | refine Bel.drewN ?_ _ | refine Bel.alloc ?_ _ | refine Bel.setCell ?_ (by simp <;> omega) _ | refine Bel.trans ?_ (by assumption))) hb
                  replace x0 := hk.cell x0
                  replace x1 := hk.cell x1
                  replace x2 := hk.cell x2
                  replace x3 := hk.cell x3
                  replace x4 := hk.cell x4
                  replace x5 := hk.cell x5
                  replace x6 := hk.cell x6
                  replace lb := cell_lt x0
                  have hB4 : Bel w w4 := hB3.trans hk
                  clear hb hk hB3
                  have HB := Lib.hid hB4
                  clear hB4
                  go_wp2
                  go_ret
                  exact ⟨ri (by rw [HX.out]; rfl), Bel.trans HB.out (by repeat (first | assumption | exact Bel.refl _ | refine Bel.drew ?_ | refine Bel.drewN ?_ _ | refine Bel.alloc ?_ _ | refine Bel.setCell ?_ (by simp <;> omega) _ | refine Bel.trans ?_ (by assumption)))⟩
                · have q1 : (A : Int) ≤ 1 := by omega
                  have q2 : ¬ (1 : Int) < (A : Int) := by omega
                  have f4 : ((X : Int) == 0) = true := by rw [beq_iff_eq]; have := of_decide_eq_true h4; omega
                  have f5 : decide (X = 0) = true := by rw [decide_eq_true_eq]; have := of_decide_eq_true h4; omega
                  clear q0
                  have C0 := Lib.hid (fun wx => show Calls Tryd.prog 73 #[.agg #[.int .i64 n.wind.lo, .int .i64 n.wind.hi], .int .i64 20] wx (fun e w' => e = .returned (.bool true) ∧ Bel wx w') from by rw [← h0]; exact HS.out n.wind wx)
                  have C1 := Lib.hid (fun wx => show Calls Tryd.prog 73 #[.agg #[.int .i64 n.cur.lo, .int .i64 n.cur.hi], .int .i64 20] wx (fun e w' => e = .returned (.bool true) ∧ Bel wx w') from by rw [← h1]; exact HS.out n.cur wx)
                  rw [h5] at HG
                  rw [h6] at HA
                  clear HS h0 h1 h2 h3 h4 h5 h6
                  go_enter Tryd.func54, Tryd.ntmps54
                  go_wp2_with fail
                  refine (C0.out _).mono ?_
                  rintro e w1 ⟨rfl, hb⟩
                  have hn := new_row (w := w) (o := .cells #[.int .i64 n.wind.lo, .int .i64 n.wind.hi, .int .i64 n.cur.lo, .int .i64 n.cur.hi, .slice ga G gc, .slice aa A ac, .slice xa X xc] 32) rfl
                  have x0 := hb.cell ((row_facts hn).1 0)
                  have x1 := hb.cell ((row_facts hn).1 1)
                  have x2 := hb.cell ((row_facts hn).1 2)
                  have x3 := hb.cell ((row_facts hn).1 3)
                  have x4 := hb.cell ((row_facts hn).1 4)
                  have x5 := hb.cell ((row_facts hn).1 5)
                  have x6 := hb.cell ((row_facts hn).1 6)
                  clear hn
                  have hB1 : Bel w w1 := Bel.trans (by repeat (first | assumption | exact Bel.refl _ | refine Bel.drew ?_ | refine Bel.drewN ?_ _ | refine Bel.alloc ?_ _ | refine Bel.setCell ?_ (by simp <;> omega) _ | refine Bel.trans ?_ (by assumption))) hb
                  have lb := cell_lt x0
                  clear hb C0
                  go_wp2_with fail
                  refine (C1.out _).mono ?_
                  rintro e w2 ⟨rfl, hb⟩
                  have hk : Bel w1 w2 := Bel.trans (by repeat (first | assumption | exact Bel.refl _ | refine Bel.drew ?_ | refine Bel.drewN ?_ _ | refine Bel.alloc ?_ _ | refine Bel.setCell ?_ (by simp <;> omega) _ | refine Bel.trans ?_ (by assumption))) hb
                  replace x0 := hk.cell x0
                  replace x1 := hk.cell x1
                  replace x2 := hk.cell x2
                  replace x3 := hk.cell x3
                  replace x4 := hk.cell x4
                  replace x5 := hk.cell x5
                  replace x6 := hk.cell x6
                  replace lb := cell_lt x0
                  have hB2 : Bel w w2 := hB1.trans hk
                  clear hb hk hB1
                  go_wp2_with fail
                  refine (HG.out _ (Bel.trans hB2 (by repeat (first | assumption | exact Bel.refl _ | refine Bel.drew ?_ | refine Bel.drewN ?_ _ | refine Bel.alloc ?_ _ | refine Bel.setCell ?_ (by simp <;> omega) _ | refine Bel.trans ?_ (by assumption))))).mono ?_
                  rintro e w3 ⟨rfl, hb⟩
                  have hk : Bel w2 w3 := Bel.trans (by repeat (first | assumption | exact Bel.refl _ | refine Bel.drew ?_ | refine Bel.drewN ?_ _ | refine Bel.alloc ?_ _ | refine Bel.setCell ?_ (by simp <;> omega) _ | refine Bel.trans ?_ (by assumption))) hb
                  replace x0 := hk.cell x0
                  replace x1 := hk.cell x1
                  replace x2 := hk.cell x2
                  replace x3 := hk.cell x3
                  replace x4 := hk.cell x4
                  replace x5 := hk.cell x5
                  replace x6 := hk.cell x6
                  replace lb := cell_lt x0
                  have hB3 : Bel w w3 := hB2.trans hk
                  clear hb hk hB2
                  go_wp2_with fail
                  refine (HA.out _ (Bel.trans hB3 (by repeat (first | assumption | exact Bel.refl _ | refine Bel.drew ?_ | refine Bel.drewN ?_ _ | refine Bel.alloc ?_ _ | refine Bel.setCell ?_ (by simp <;> omega) _ | refine Bel.trans ?_ (by assumption)))) _ (by assumption) HLG.out).mono ?_
                  rintro e w4 ⟨rfl, hb⟩
                  have hk : Bel w3 w4 := Bel.trans (by repeat (first | assumption | exact Bel.refl _ | refine Bel.drew ?_ | refine Bel.drewN ?_ _ | refine Bel.alloc ?_ _ | refine Bel.setCell ?_ (by simp <;> omega) _ | refine Bel.trans ?_ (by assumption))) hb
                  replace x0 := hk.cell x0
                  replace x1 := hk.cell x1
                  replace x2 := hk.cell x2
                  replace x3 := hk.cell x3
                  replace x4 := hk.cell x4
                  replace x5 := hk.cell x5
                  replace x6 := hk.cell x6
                  replace lb := cell_lt x0
                  have hB4 : Bel w w4 := hB3.trans hk
                  clear hb hk hB3
                  have HB := Lib.hid hB4
                  clear hB4
                  go_wp2
                  go_ret
                  exact ⟨ri (by rw [HX.out]; rfl), Bel.trans HB.out (by repeat (first | assumption | exact Bel.refl _ | refine Bel.drew ?_ | refine Bel.drewN ?_ _ | refine Bel.alloc ?_ _ | refine Bel.setCell ?_ (by simp <;> omega) _ | refine Bel.trans ?_ (by assumption)))⟩
              · skip
                cases h7 : wallsB n.walls
                · skip
                  rw [h0] at HX
                  rw [h1] at HX
                  rw [h2] at HX
                  rw [h3] at HX
                  rw [h4] at HX
                  rw [h5] at HX
                  rw [h6] at HX
                  rw [h7] at HX
                  skip
                  have f2 : ((G : Int) ≤ 3) := by have := of_decide_eq_true h2; omega
                  have g2 : decide ((G : Int) ≤ 3) = true := decide_eq_true f2
                  have f3 : ((A : Int) ≤ 6) := by have := of_decide_eq_true h3; omega
                  have g3 : decide ((A : Int) ≤ 6) = true := decide_eq_true f3
                  rcases Nat.lt_or_ge 1 A with q0 | q0
                  · have q1 : (1 : Int) < (A : Int) := by omega
                    have q2 : ¬ (A : Int) ≤ 1 := by omega
                    have f4 : ((X : Int) == (A : Int) - 1) = true := by rw [beq_iff_eq]; have := of_decide_eq_true h4; omega
                    clear q0
                    have C0 := Lib.hid (fun wx => show Calls Tryd.prog 73 #[.agg #[.int .i64 n.wind.lo, .int .i64 n.wind.hi], .int .i64 20] wx (fun e w' => e = .returned (.bool true) ∧ Bel wx w') from by rw [← h0]; exact HS.out n.wind wx)
                    have C1 := Lib.hid (fun wx => show Calls Tryd.prog 73 #[.agg #[.int .i64 n.cur.lo, .int .i64 n.cur.hi], .int .i64 20] wx (fun e w' => e = .returned (.bool true) ∧ Bel wx w') from by rw [← h1]; exact HS.out n.cur wx)
                    rw [h5] at HG
                    rw [h6] at HA
                    rw [h7] at HW
                    clear HS h0 h1 h2 h3 h4 h5 h6 h7
                    go_enter Tryd.func54, Tryd.ntmps54
                    go_wp2_with fail
                    refine (C0.out _).mono ?_
                    rintro e w1 ⟨rfl, hb⟩
                    have hn := new_row (w := w) (o := .cells #[.int .i64 n.wind.lo, .int .i64 n.wind.hi, .int .i64 n.cur.lo, .int .i64 n.cur.hi, .slice ga G gc, .slice aa A ac, .slice xa X xc] 32) rfl
                    have x0 := hb.cell ((row_facts hn).1 0)
                    have x1 := hb.cell ((row_facts hn).1 1)
                    have x2 := hb.cell ((row_facts hn).1 2)
                    have x3 := hb.cell ((row_facts hn).1 3)
                    have x4 := hb.cell ((row_facts hn).1 4)
                    have x5 := hb.cell ((row_facts hn).1 5)
                    have x6 := hb.cell ((row_facts hn).1 6)
                    clear hn
                    have hB1 : Bel w w1 := Bel.trans (by repeat (first | assumption | exact Bel.refl _ | refine Bel.drew ?_ | refine Bel.drewN ?_ _ | refine Bel.alloc ?_ _ | refine Bel.setCell ?_ (by simp <;> omega) _ | refine Bel.trans ?_ (by assumption))) hb
                    have lb := cell_lt x0
                    clear hb C0
                    go_wp2_with fail
                    refine (C1.out _).mono ?_
                    rintro e w2 ⟨rfl, hb⟩
                    have hk : Bel w1 w2 := Bel.trans (by repeat (first | assumption | exact Bel.refl _ | refine Bel.drew ?_ | refine Bel.drewN ?_ _ | refine Bel.alloc ?_ _ | refine Bel.setCell ?_ (by simp <;> omega) _ | refine Bel.trans ?_ (by assumption))) hb
                    replace x0 := hk.cell x0
                    replace x1 := hk.cell x1
                    replace x2 := hk.cell x2
                    replace x3 := hk.cell x3
                    replace x4 := hk.cell x4
                    replace x5 := hk.cell x5
                    replace x6 := hk.cell x6
                    replace lb := cell_lt x0
                    have hB2 : Bel w w2 := hB1.trans hk
                    clear hb hk hB1
                    go_wp2_with fail
                    refine (HG.out _ (Bel.trans hB2 (by repeat (first | assumption | exact Bel.refl _ | refine Bel.drew ?_ | refine Bel.drewN ?_ _ | refine Bel.alloc ?_ _ | refine Bel.setCell ?_ (by simp <;> omega) _ | refine Bel.trans ?_ (by assumption))))).mono ?_
                    rintro e w3 ⟨rfl, hb⟩
                    have hk : Bel w2 w3 := Bel.trans (by repeat (first | assumption | exact Bel.refl _ | refine Bel.drew ?_ | refine Bel.drewN ?_ _ | refine Bel.alloc ?_ _ | refine Bel.setCell ?_ (by simp <;> omega) _ | refine Bel.trans ?_ (by assumption))) hb
                    replace x0 := hk.cell x0
                    replace x1 := hk.cell x1
                    replace x2 := hk.cell x2
                    replace x3 := hk.cell x3
                    replace x4 := hk.cell x4
                    replace x5 := hk.cell x5
                    replace x6 := hk.cell x6
                    replace lb := cell_lt x0
                    have hB3 : Bel w w3 := hB2.trans hk
                    clear hb hk hB2
                    go_wp2_with fail
                    refine (HA.out _ (Bel.trans hB3 (by repeat (first | assumption | exact Bel.refl _ | refine Bel.drew ?_ | refine Bel.drewN ?_ _ | refine Bel.alloc ?_ _ | refine Bel.setCell ?_ (by simp <;> omega) _ | refine Bel.trans ?_ (by assumption)))) _ (by assumption) HLG.out).mono ?_
                    rintro e w4 ⟨rfl, hb⟩
                    have hk : Bel w3 w4 := Bel.trans (by repeat (first | assumption | exact Bel.refl _ | refine Bel.drew ?_ | refine Bel.drewN ?_ _ | refine Bel.alloc ?_ _ | refine Bel.setCell ?_ (by simp <;> omega) _ | refine Bel.trans ?_ (by assumption))) hb
                    replace x0 := hk.cell x0
                    replace x1 := hk.cell x1
                    replace x2 := hk.cell x2
                    replace x3 := hk.cell x3
                    replace x4 := hk.cell x4
                    replace x5 := hk.cell x5
                    replace x6 := hk.cell x6
                    replace lb := cell_lt x0
                    have hB4 : Bel w w4 := hB3.trans hk
                    clear hb hk hB3
                    go_wp2_with fail
                    refine (HW.out _ (Bel.trans hB4 (by repeat (first | assumption | exact Bel.refl _ | refine Bel.drew ?_ | refine Bel.drewN ?_ _ | refine Bel.alloc ?_ _ | refine Bel.setCell ?_ (by simp <;> omega) _ | refine Bel.trans ?_ (by assumption))))).mono ?_
                    rintro e w5 ⟨rfl, hb⟩
                    have hk : Bel w4 w5 := Bel.trans (by repeat (first | assumption | exact Bel.refl _ | refine Bel.drew ?_ | refine Bel.drewN ?_ _ | refine Bel.alloc ?_ _ | refine Bel.setCell ?_ (by simp <;> omega) _ | refine Bel.trans ?_ (by assumption))) hb
                    replace x0 := hk.cell x0
                    replace x1 := hk.cell x1
                    replace x2 := hk.cell x2
                    replace x3 := hk.cell x3
                    replace x4 := hk.cell x4
                    replace x5 := hk.cell x5
                    replace x6 := hk.cell x6
                    replace lb := cell_lt x0
                    have hB5 : Bel w w5 := hB4.trans hk
                    clear hb hk hB4
                    have HB := Lib.hid hB5
                    clear hB5
                    go_wp2
                    go_ret
                    exact ⟨ri (by rw [HX.out]; rfl), Bel.trans HB.out (by repeat (first | assumption | exact Bel.refl _ | refine Bel.drew ?_ | refine Bel.drewN ?_ _ | refine Bel.alloc ?_ _ | refine Bel.setCell ?_ (by simp <;> omega) _ | refine Bel.trans ?_ (by assumption)))⟩
                  · have q1 : (A : Int) ≤ 1 := by omega
                    have q2 : ¬ (1 : Int) < (A : Int) := by omega
                    have f4 : ((X : Int) == 0) = true := by rw [beq_iff_eq]; have := of_decide_eq_true h4; omega
                    have f5 : decide (X = 0) = true := by rw [decide_eq_true_eq]; have := of_decide_eq_true h4; omega
                    clear q0
                    have C0 := Lib.hid (fun wx => show Calls Tryd.prog 73 #[.agg #[.int .i64 n.wind.lo, .int .i64 n.wind.hi], .int .i64 20] wx (fun e w' => e = .returned (.bool true) ∧ Bel wx w') from by rw [← h0]; exact HS.out n.wind wx)
                    have C1 := Lib.hid (fun wx => show Calls Tryd.prog 73 #[.agg #[.int .i64 n.cur.lo, .int .i64 n.cur.hi], .int .i64 20] wx (fun e w' => e = .returned (.bool true) ∧ Bel wx w') from by rw [← h1]; exact HS.out n.cur wx)
                    rw [h5] at HG
                    rw [h6] at HA
                    rw [h7] at HW
                    clear HS h0 h1 h2 h3 h4 h5 h6 h7
                    go_enter Tryd.func54, Tryd.ntmps54
                    go_wp2_with fail
                    refine (C0.out _).mono ?_
                    rintro e w1 ⟨rfl, hb⟩
                    have hn := new_row (w := w) (o := .cells #[.int .i64 n.wind.lo, .int .i64 n.wind.hi, .int .i64 n.cur.lo, .int .i64 n.cur.hi, .slice ga G gc, .slice aa A ac, .slice xa X xc] 32) rfl
                    have x0 := hb.cell ((row_facts hn).1 0)
                    have x1 := hb.cell ((row_facts hn).1 1)
                    have x2 := hb.cell ((row_facts hn).1 2)
                    have x3 := hb.cell ((row_facts hn).1 3)
                    have x4 := hb.cell ((row_facts hn).1 4)
                    have x5 := hb.cell ((row_facts hn).1 5)
                    have x6 := hb.cell ((row_facts hn).1 6)
                    clear hn
                    have hB1 : Bel w w1 := Bel.trans (by repeat (first | assumption | exact Bel.refl _ | refine Bel.drew ?_ | refine Bel.drewN ?_ _ | refine Bel.alloc ?_ _ | refine Bel.setCell ?_ (by simp <;> omega) _ | refine Bel.trans ?_ (by assumption))) hb
                    have lb := cell_lt x0
                    clear hb C0
                    go_wp2_with fail
                    refine (C1.out _).mono ?_
                    rintro e w2 ⟨rfl, hb⟩
                    have hk : Bel w1 w2 := Bel.trans (by repeat (first | assumption | exact Bel.refl _ | refine Bel.drew ?_ | refine Bel.drewN ?_ _ | refine Bel.alloc ?_ _ | refine Bel.setCell ?_ (by simp <;> omega) _ | refine Bel.trans ?_ (by assumption))) hb
                    replace x0 := hk.cell x0
                    replace x1 := hk.cell x1
                    replace x2 := hk.cell x2
                    replace x3 := hk.cell x3
                    replace x4 := hk.cell x4
                    replace x5 := hk.cell x5
                    replace x6 := hk.cell x6
                    replace lb := cell_lt x0
                    have hB2 : Bel w w2 := hB1.trans hk
                    clear hb hk hB1
                    go_wp2_with fail
                    refine (HG.out _ (Bel.trans hB2 (by repeat (first | assumption | exact Bel.refl _ | refine Bel.drew ?_ | refine Bel.drewN ?_ _ | refine Bel.alloc ?_ _ | refine Bel.setCell ?_ (by simp <;> omega) _ | refine Bel.trans ?_ (by assumption))))).mono ?_
                    rintro e w3 ⟨rfl, hb⟩
                    have hk : Bel w2 w3 := Bel.trans (by repeat (first | assumption | exact Bel.refl _ | refine Bel.drew ?_ | refine Bel.drewN ?_ _ | refine Bel.alloc ?_ _ | refine Bel.setCell ?_ (by simp <;> omega) _ | refine Bel.trans ?_ (by assumption))) hb
                    replace x0 := hk.cell x0
                    replace x1 := hk.cell x1
                    replace x2 := hk.cell x2
                    replace x3 := hk.cell x3
                    replace x4 := hk.cell x4
                    replace x5 := hk.cell x5
                    replace x6 := hk.cell x6
                    replace lb := cell_lt x0
                    have hB3 : Bel w w3 := hB2.trans hk
                    clear hb hk hB2
                    go_wp2_with fail
                    refine (HA.out _ (Bel.trans hB3 (by repeat (first | assumption | exact Bel.refl _ | refine Bel.drew ?_ | refine Bel.drewN ?_ _ | refine Bel.alloc ?_ _ | refine Bel.setCell ?_ (by simp <;> omega) _ | refine Bel.trans ?_ (by assumption)))) _ (by assumption) HLG.out).mono ?_
                    rintro e w4 ⟨rfl, hb⟩
                    have hk : Bel w3 w4 := Bel.trans (by repeat (first | assumption | exact Bel.refl _ | refine Bel.drew ?_ | refine Bel.drewN ?_ _ | refine Bel.alloc ?_ _ | refine Bel.setCell ?_ (by simp <;> omega) _ | refine Bel.trans ?_ (by assumption))) hb
                    replace x0 := hk.cell x0
                    replace x1 := hk.cell x1
                    replace x2 := hk.cell x2
                    replace x3 := hk.cell x3
                    replace x4 := hk.cell x4
                    replace x5 := hk.cell x5
                    replace x6 := hk.cell x6
                    replace lb := cell_lt x0
                    have hB4 : Bel w w4 := hB3.trans hk
                    clear hb hk hB3
                    go_wp2_with fail
                    refine (HW.out _ (Bel.trans hB4 (by repeat (first | assumption | exact Bel.refl _ | refine Bel.drew ?_ | refine Bel.drewN ?_ _ | refine Bel.alloc ?_ _ | refine Bel.setCell ?_ (by simp <;> omega) _ | refine Bel.trans ?_ (by assumption))))).mono ?_
                    rintro e w5 ⟨rfl, hb⟩
                    have hk : Bel w4 w5 := Bel.trans (by repeat (first | assumption | exact Bel.refl _ | refine Bel.drew ?_ | refine Bel.drewN ?_ _ | refine Bel.alloc ?_ _ | refine Bel.setCell ?_ (by simp <;> omega) _ | refine Bel.trans ?_ (by assumption))) hb
                    replace x0 := hk.cell x0
                    replace x1 := hk.cell x1
                    replace x2 := hk.cell x2
                    replace x3 := hk.cell x3
                    replace x4 := hk.cell x4
                    replace x5 := hk.cell x5
                    replace x6 := hk.cell x6
                    replace lb := cell_lt x0
                    have hB5 : Bel w w5 := hB4.trans hk
                    clear hb hk hB4
                    have HB := Lib.hid hB5
                    clear hB5
                    go_wp2
                    go_ret
                    exact ⟨ri (by rw [HX.out]; rfl), Bel.trans HB.out (by repeat (first | assumption | exact Bel.refl _ | refine Bel.drew ?_ | refine Bel.drewN ?_ _ | refine Bel.alloc ?_ _ | refine Bel.setCell ?_ (by simp <;> omega) _ | refine Bel.trans ?_ (by assumption)))⟩
                · skip
                  rw [h0] at HX
                  rw [h1] at HX
                  rw [h2] at HX
                  rw [h3] at HX
                  rw [h4] at HX
                  rw [h5] at HX
                  rw [h6] at HX
                  rw [h7] at HX
                  skip
                  have f2 : ((G : Int) ≤ 3) := by have := of_decide_eq_true h2; omega
                  have g2 : decide ((G : Int) ≤ 3) = true := decide_eq_true f2
                  have f3 : ((A : Int) ≤ 6) := by have := of_decide_eq_true h3; omega
                  have g3 : decide ((A : Int) ≤ 6) = true := decide_eq_true f3
                  rcases Nat.lt_or_ge 1 A with q0 | q0
                  · have q1 : (1 : Int) < (A : Int) := by omega
                    have q2 : ¬ (A : Int) ≤ 1 := by omega
                    have f4 : ((X : Int) == (A : Int) - 1) = true := by rw [beq_iff_eq]; have := of_decide_eq_true h4; omega
                    clear q0
                    have C0 := Lib.hid (fun wx => show Calls Tryd.prog 73 #[.agg #[.int .i64 n.wind.lo, .int .i64 n.wind.hi], .int .i64 20] wx (fun e w' => e = .returned (.bool true) ∧ Bel wx w') from by rw [← h0]; exact HS.out n.wind wx)
                    have C1 := Lib.hid (fun wx => show Calls Tryd.prog 73 #[.agg #[.int .i64 n.cur.lo, .int .i64 n.cur.hi], .int .i64 20] wx (fun e w' => e = .returned (.bool true) ∧ Bel wx w') from by rw [← h1]; exact HS.out n.cur wx)
                    rw [h5] at HG
                    rw [h6] at HA
                    rw [h7] at HW
                    clear HS h0 h1 h2 h3 h4 h5 h6 h7
                    go_enter Tryd.func54, Tryd.ntmps54
                    go_wp2_with fail
                    refine (C0.out _).mono ?_
                    rintro e w1 ⟨rfl, hb⟩
                    have hn := new_row (w := w) (o := .cells #[.int .i64 n.wind.lo, .int .i64 n.wind.hi, .int .i64 n.cur.lo, .int .i64 n.cur.hi, .slice ga G gc, .slice aa A ac, .slice xa X xc] 32) rfl
                    have x0 := hb.cell ((row_facts hn).1 0)
                    have x1 := hb.cell ((row_facts hn).1 1)
                    have x2 := hb.cell ((row_facts hn).1 2)
                    have x3 := hb.cell ((row_facts hn).1 3)
                    have x4 := hb.cell ((row_facts hn).1 4)
                    have x5 := hb.cell ((row_facts hn).1 5)
                    have x6 := hb.cell ((row_facts hn).1 6)
                    clear hn
                    have hB1 : Bel w w1 := Bel.trans (by repeat (first | assumption | exact Bel.refl _ | refine Bel.drew ?_ | refine Bel.drewN ?_ _ | refine Bel.alloc ?_ _ | refine Bel.setCell ?_ (by simp <;> omega) _ | refine Bel.trans ?_ (by assumption))) hb
                    have lb := cell_lt x0
                    clear hb C0
                    go_wp2_with fail
                    refine (C1.out _).mono ?_
                    rintro e w2 ⟨rfl, hb⟩
                    have hk : Bel w1 w2 := Bel.trans (by repeat (first | assumption | exact Bel.refl _ | refine Bel.drew ?_ | refine Bel.drewN ?_ _ | refine Bel.alloc ?_ _ | refine Bel.setCell ?_ (by simp <;> omega) _ | refine Bel.trans ?_ (by assumption))) hb
                    replace x0 := hk.cell x0
                    replace x1 := hk.cell x1
                    replace x2 := hk.cell x2
                    replace x3 := hk.cell x3
                    replace x4 := hk.cell x4
                    replace x5 := hk.cell x5
                    replace x6 := hk.cell x6
                    replace lb := cell_lt x0
                    have hB2 : Bel w w2 := hB1.trans hk
                    clear hb hk hB1
                    go_wp2_with fail
                    refine (HG.out _ (Bel.trans hB2 (by repeat (first | assumption | exact Bel.refl _ | refine Bel.drew ?_ | refine Bel.drewN ?_ _ | refine Bel.alloc ?_ _ | refine Bel.setCell ?_ (by simp <;> omega) _ | refine Bel.trans ?_ (by assumption))))).mono ?_
                    rintro e w3 ⟨rfl, hb⟩
                    have hk : Bel w2 w3 := Bel.trans (by repeat (first | assumption | exact Bel.refl _ | refine Bel.drew ?_ | refine Bel.drewN ?_ _ | refine Bel.alloc ?_ _ | refine Bel.setCell ?_ (by simp <;> omega) _ | refine Bel.trans ?_ (by assumption))) hb
                    replace x0 := hk.cell x0
                    replace x1 := hk.cell x1
                    replace x2 := hk.cell x2
                    replace x3 := hk.cell x3
                    replace x4 := hk.cell x4
                    replace x5 := hk.cell x5
                    replace x6 := hk.cell x6
                    replace lb := cell_lt x0
                    have hB3 : Bel w w3 := hB2.trans hk
                    clear hb hk hB2
                    go_wp2_with fail
                    refine (HA.out _ (Bel.trans hB3 (by repeat (first | assumption | exact Bel.refl _ | refine Bel.drew ?_ | refine Bel.drewN ?_ _ | refine Bel.alloc ?_ _ | refine Bel.setCell ?_ (by simp <;> omega) _ | refine Bel.trans ?_ (by assumption)))) _ (by assumption) HLG.out).mono ?_
                    rintro e w4 ⟨rfl, hb⟩
                    have hk : Bel w3 w4 := Bel.trans (by repeat (first | assumption | exact Bel.refl _ | refine Bel.drew ?_ | refine Bel.drewN ?_ _ | refine Bel.alloc ?_ _ | refine Bel.setCell ?_ (by simp <;> omega) _ | refine Bel.trans ?_ (by assumption))) hb
                    replace x0 := hk.cell x0
                    replace x1 := hk.cell x1
                    replace x2 := hk.cell x2
                    replace x3 := hk.cell x3
                    replace x4 := hk.cell x4
                    replace x5 := hk.cell x5
                    replace x6 := hk.cell x6
                    replace lb := cell_lt x0
                    have hB4 : Bel w w4 := hB3.trans hk
                    clear hb hk hB3
                    go_wp2_with fail
                    refine (HW.out _ (Bel.trans hB4 (by repeat (first | assumption | exact Bel.refl _ | refine Bel.drew ?_ | refine Bel.drewN ?_ _ | refine Bel.alloc ?_ _ | refine Bel.setCell ?_ (by simp <;> omega) _ | refine Bel.trans ?_ (by assumption))))).mono ?_
                    rintro e w5 ⟨rfl, hb⟩
                    have hk : Bel w4 w5 := Bel.trans (by repeat (first | assumption | exact Bel.refl _ | refine Bel.drew ?_ | refine Bel.drewN ?_ _ | refine Bel.alloc ?_ _ | refine Bel.setCell ?_ (by simp <;> omega) _ | refine Bel.trans ?_ (by assumption))) hb
                    replace x0 := hk.cell x0
                    replace x1 := hk.cell x1
                    replace x2 := hk.cell x2
                    replace x3 := hk.cell x3
                    replace x4 := hk.cell x4
                    replace x5 := hk.cell x5
                    replace x6 := hk.cell x6
                    replace lb := cell_lt x0
                    have hB5 : Bel w w5 := hB4.trans hk
                    clear hb hk hB4
                    have HB := Lib.hid hB5
                    clear hB5
                    go_wp2
                    go_ret
                    exact ⟨ri (by rw [HX.out]; rfl), Bel.trans HB.out (by repeat (first | assumption | exact Bel.refl _ | refine Bel.drew ?_ | refine Bel.drewN ?_ _ | refine Bel.alloc ?_ _ | refine Bel.setCell ?_ (by simp <;> omega) _ | refine Bel.trans ?_ (by assumption)))⟩
                  · have q1 : (A : Int) ≤ 1 := by omega
                    have q2 : ¬ (1 : Int) < (A : Int) := by omega
                    have f4 : ((X : Int) == 0) = true := by rw [beq_iff_eq]; have := of_decide_eq_true h4; omega
                    have f5 : decide (X = 0) = true := by rw [decide_eq_true_eq]; have := of_decide_eq_true h4; omega
                    clear q0
                    have C0 := Lib.hid (fun wx => show Calls Tryd.prog 73 #[.agg #[.int .i64 n.wind.lo, .int .i64 n.wind.hi], .int .i64 20] wx (fun e w' => e = .returned (.bool true) ∧ Bel wx w') from by rw [← h0]; exact HS.out n.wind wx)
                    have C1 := Lib.hid (fun wx => show Calls Tryd.prog 73 #[.agg #[.int .i64 n.cur.lo, .int .i64 n.cur.hi], .int .i64 20] wx (fun e w' => e = .returned (.bool true) ∧ Bel wx w') from by rw [← h1]; exact HS.out n.cur wx)
                    rw [h5] at HG
                    rw [h6] at HA
                    rw [h7] at HW
                    clear HS h0 h1 h2 h3 h4 h5 h6 h7
                    go_enter Tryd.func54, Tryd.ntmps54
                    go_wp2_with fail
                    refine (C0.out _).mono ?_
                    rintro e w1 ⟨rfl, hb⟩
                    have hn := new_row (w := w) (o := .cells #[.int .i64 n.wind.lo, .int .i64 n.wind.hi, .int .i64 n.cur.lo, .int .i64 n.cur.hi, .slice ga G gc, .slice aa A ac, .slice xa X xc] 32) rfl
                    have x0 := hb.cell ((row_facts hn).1 0)
                    have x1 := hb.cell ((row_facts hn).1 1)
                    have x2 := hb.cell ((row_facts hn).1 2)
                    have x3 := hb.cell ((row_facts hn).1 3)
                    have x4 := hb.cell ((row_facts hn).1 4)
                    have x5 := hb.cell ((row_facts hn).1 5)
                    have x6 := hb.cell ((row_facts hn).1 6)
                    clear hn
                    have hB1 : Bel w w1 := Bel.trans (by repeat (first | assumption | exact Bel.refl _ | refine Bel.drew ?_ | refine Bel.drewN ?_ _ | refine Bel.alloc ?_ _ | refine Bel.setCell ?_ (by simp <;> omega) _ | refine Bel.trans ?_ (by assumption))) hb
                    have lb := cell_lt x0
                    clear hb C0
                    go_wp2_with fail
                    refine (C1.out _).mono ?_
                    rintro e w2 ⟨rfl, hb⟩
                    have hk : Bel w1 w2 := Bel.trans (by repeat (first | assumption | exact Bel.refl _ | refine Bel.drew ?_ | refine Bel.drewN ?_ _ | refine Bel.alloc ?_ _ | refine Bel.setCell ?_ (by simp <;> omega) _ | refine Bel.trans ?_ (by assumption))) hb
                    replace x0 := hk.cell x0
                    replace x1 := hk.cell x1
                    replace x2 := hk.cell x2
                    replace x3 := hk.cell x3
                    replace x4 := hk.cell x4
                    replace x5 := hk.cell x5
                    replace x6 := hk.cell x6
                    replace lb := cell_lt x0
                    have hB2 : Bel w w2 := hB1.trans hk
                    clear hb hk hB1
                    go_wp2_with fail
                    refine (HG.out _ (Bel.trans hB2 (by repeat (first | assumption | exact Bel.refl _ | refine Bel.drew ?_ | refine Bel.drewN ?_ _ | refine Bel.alloc ?_ _ | refine Bel.setCell ?_ (by simp <;> omega) _ | refine Bel.trans ?_ (by assumption))))).mono ?_
                    rintro e w3 ⟨rfl, hb⟩
                    have hk : Bel w2 w3 := Bel.trans (by repeat (first | assumption | exact Bel.refl _ | refine Bel.drew ?_ | refine Bel.drewN ?_ _ | refine Bel.alloc ?_ _ | refine Bel.setCell ?_ (by simp <;> omega) _ | refine Bel.trans ?_ (by assumption))) hb
                    replace x0 := hk.cell x0
                    replace x1 := hk.cell x1
                    replace x2 := hk.cell x2
                    replace x3 := hk.cell x3
                    replace x4 := hk.cell x4
                    replace x5 := hk.cell x5
                    replace x6 := hk.cell x6
                    replace lb := cell_lt x0
                    have hB3 : Bel w w3 := hB2.trans hk
                    clear hb hk hB2
                    go_wp2_with fail
                    refine (HA.out _ (Bel.trans hB3 (by repeat (first | assumption | exact Bel.refl _ | refine Bel.drew ?_ | refine Bel.drewN ?_ _ | refine Bel.alloc ?_ _ | refine Bel.setCell ?_ (by simp <;> omega) _ | refine Bel.trans ?_ (by assumption)))) _ (by assumption) HLG.out).mono ?_
                    rintro e w4 ⟨rfl, hb⟩
                    have hk : Bel w3 w4 := Bel.trans (by repeat (first | assumption | exact Bel.refl _ | refine Bel.drew ?_ | refine Bel.drewN ?_ _ | refine Bel.alloc ?_ _ | refine Bel.setCell ?_ (by simp <;> omega) _ | refine Bel.trans ?_ (by assumption))) hb
                    replace x0 := hk.cell x0
                    replace x1 := hk.cell x1
                    replace x2 := hk.cell x2
                    replace x3 := hk.cell x3
                    replace x4 := hk.cell x4
                    replace x5 := hk.cell x5
                    replace x6 := hk.cell x6
                    replace lb := cell_lt x0
                    have hB4 : Bel w w4 := hB3.trans hk
                    clear hb hk hB3
                    go_wp2_with fail
                    refine (HW.out _ (Bel.trans hB4 (by repeat (first | assumption | exact Bel.refl _ | refine Bel.drew ?_ | refine Bel.drewN ?_ _ | refine Bel.alloc ?_ _ | refine Bel.setCell ?_ (by simp <;> omega) _ | refine Bel.trans ?_ (by assumption))))).mono ?_
                    rintro e w5 ⟨rfl, hb⟩
                    have hk : Bel w4 w5 := Bel.trans (by repeat (first | assumption | exact Bel.refl _ | refine Bel.drew ?_ | refine Bel.drewN ?_ _ | refine Bel.alloc ?_ _ | refine Bel.setCell ?_ (by simp <;> omega) _ | refine Bel.trans ?_ (by assumption))) hb
                    replace x0 := hk.cell x0
                    replace x1 := hk.cell x1
                    replace x2 := hk.cell x2
                    replace x3 := hk.cell x3
                    replace x4 := hk.cell x4
                    replace x5 := hk.cell x5
                    replace x6 := hk.cell x6
                    replace lb := cell_lt x0
                    have hB5 : Bel w w5 := hB4.trans hk
                    clear hb hk hB4
                    have HB := Lib.hid hB5
                    clear hB5
                    go_wp2
                    go_ret
                    exact ⟨ri (by rw [HX.out]; rfl), Bel.trans HB.out (by repeat (first | assumption | exact Bel.refl _ | refine Bel.drew ?_ | refine Bel.drewN ?_ _ | refine Bel.alloc ?_ _ | refine Bel.setCell ?_ (by simp <;> omega) _ | refine Bel.trans ?_ (by assumption)))⟩

end Go.Proofs.YtkdcdhkhadhcfaaDoor

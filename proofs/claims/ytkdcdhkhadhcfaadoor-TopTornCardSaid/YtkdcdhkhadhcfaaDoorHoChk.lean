/-
  mesh: the check of a valid net.
-/
import Derived.Test.YtkdcdhkhadhcfaaDoorHoHas
namespace Go.Proofs.YtkdcdhkhadhcfaaDoor
open Go Go.RowKit Go.Shelf
set_option maxHeartbeats 8000000
set_option maxRecDepth 100000
attribute [local go_sem] run_store_func
/-- A valid net. -/
structure MOk (n : MNet) : Prop where
  h6 : n.holes.length ≤ 6
  p8 : n.prs.length ≤ 8
  m1 : 1 ≤ n.men
  m3 : n.men ≤ 3
  hs : holesB n.holes = true
  ps : (allB n.prs.length fun i => !prN n.holes.length (atP n.prs i)) = true
  has : hasV n = true
theorem mcheck_any (n : MNet) (v : Value) (w : World) (hn : MOk n) (hv : MNetAt w v n) :
    Calls Tryd.prog 63 #[v] w fun e w' => e = .returned (.int .i64 0) ∧ Bel w w' := by
  have HV := Lib.hid hv
  obtain ⟨ha, hc, pa, pc, rfl, hh, hp, hG, hQ⟩ := hv.open
  have HHAS := Lib.hid (fun wx (hx : Bel w wx) => has_any n _ wx (by have := hn.h6; omega) (hv.bel hx))
  rw [hn.has] at HHAS
  have HH := Lib.hid (fun wx (hx : Bel w wx) => hchkCon_any _ n.holes wx (hh.bel hx))
  have e1 : (!allB n.holes.length fun i => !holeN (atH n.holes i)) = false := by
    have e0 : (fun i => !holeN (atH n.holes i)) = fun i => holeB (atH n.holes i) := by funext i; simp [holeN]
    rw [e0]
    have := hn.hs
    unfold holesB at this
    rw [this]; rfl
  rw [e1] at HH
  have HP := Lib.hid (fun nb cb wx (hx : Bel w wx) c1 c2 => pchkCon_any nb cb ha n.holes.length hc _ n.prs wx c1 c2 hG (hp.bel hx))
  rw [hn.ps] at HP
  have HW := Lib.hid (fun wx => hwithin_any n.men 1 3 wx)
  have e2 : withinB n.men 1 3 = true := by have h1 := hn.m1; have h2 := hn.m3; simp [withinB, h1, h2]
  rw [e2] at HW
  have h6 : (n.holes.length : Int) ≤ 6 := by have := hn.h6; omega
  have h8 : (n.prs.length : Int) ≤ 8 := by have := hn.p8; omega
  clear hv hh hp hn e1 e2
  generalize n.holes.length = G at *
  generalize n.prs.length = X at *
  generalize n.men = men at *
  have s1 : ((w.alloc (.cells #[.int .i64 men, .slice ha G hc, .slice pa X pc] 62)).alloc (.cells #[.nilFunc] 141)).cell? ⟨w.heap.size + 1, 0, none⟩ = some .nilFunc := (row_facts (new_row (by simp))).1 0
  have s2 : ((w.alloc (.cells #[.int .i64 men, .slice ha G hc, .slice pa X pc] 62)).alloc (.cells #[.nilFunc] 141)).frozen? ⟨w.heap.size + 1, 0, none⟩ = false := (row_facts (new_row (by simp))).2 0
  have d1 : decide (6 < (G : Int)) = false := decide_eq_false (by omega)
  have d2 : decide (8 < (X : Int)) = false := decide_eq_false (by omega)
  go_enter Tryd.func63, Tryd.ntmps63
  go_wp2_with (first | (go_at_call 86; refine (HW.out _).mono ?_; rintro e wa ⟨rfl, rfl⟩))
  obtain ⟨W1, hW1⟩ : ∃ W1, W1 = (w.alloc (.cells #[.int .i64 men, .slice ha G hc, .slice pa X pc] 62)).alloc (.cells #[.func (.func 85) #[] #[.pointer (some ⟨w.heap.size, 0, none⟩)]] 141) := ⟨_, rfl⟩
  have hb1 : Bel w W1 := by rw [hW1]; exact ((Bel.refl w).alloc _).alloc _
  have r0 : W1.heap[w.heap.size]? = some (.cells #[.int .i64 men, .slice ha G hc, .slice pa X pc] 62 (0, 0)) := by rw [hW1]; exact (old_row (by simp)).trans (new_row rfl)
  have r1 : W1.heap[w.heap.size + 1]? = some (.cells #[.func (.func 85) #[] #[.pointer (some ⟨w.heap.size, 0, none⟩)]] 141 (0, 0)) := by rw [hW1]; exact new_row (by simp)
  rw [← hW1]
  clear hW1 s1 s2
  have HB1 := Lib.hid hb1
  refine (HH.out _ hb1).mono ?_
  rintro e w2 ⟨rfl, hb2⟩
  have q0 := hb2.cell (v := .int .i64 men) ((row_facts r0).1 0)
  have q1 := hb2.cell (v := .slice ha G hc) ((row_facts r0).1 1)
  have q2 := hb2.cell (v := .slice pa X pc) ((row_facts r0).1 2)
  have q3 := hb2.cell (v := .func (.func 85) #[] #[.pointer (some ⟨w.heap.size, 0, none⟩)]) ((row_facts r1).1 0)
  have HB2 := Lib.hid (hb1.trans hb2)
  have l0 := cell_lt q0
  clear hb1 hb2 r0 r1 HB1
  go_wp2_with fail
  refine (HP.out _ _ _ HB2.out q1 q3).mono ?_
  rintro e w3 ⟨rfl, hb3⟩
  replace q0 := hb3.cell q0
  replace q1 := hb3.cell q1
  replace q2 := hb3.cell q2
  have HB3 := Lib.hid (HB2.out.trans hb3)
  clear hb3 q3 l0
  have l0 := cell_lt q0
  go_wp2_with fail
  refine (HHAS.out _ HB3.out).mono ?_
  rintro e w4 ⟨rfl, hb4⟩
  have HB4 := Lib.hid (HB3.out.trans hb4)
  clear hb4 q0 q1 q2 l0
  go_wp2
  go_ret
  exact ⟨rfl, HB4.out⟩
end Go.Proofs.YtkdcdhkhadhcfaaDoor

/-
  law: BeastsBlind: Blind, Script and Free answer as the reference does, and the call leaves the trap as it was: the call returns true for every trap and door, and changes nothing that was there
-/
import Derived.Test.YtogiidkofddhaaaDoorBWorks
import Derived.Test.YtogiidkofddhaaaDoorBLaw2
import Derived.Test.YtogiidkofddhaaaDoorBRef17
namespace Go.Proofs.YtogiidkofddhaaaDoor
open Go Go.RowKit Go.Shelf
set_option maxHeartbeats 16000000
set_option maxRecDepth 100000
theorem BeastsBlind_any (b : BT) (v : Value) (d : Int) (w : World) (hf : FarAt w) (hv : BTrapAt w v b) : Calls Tryd.prog 10 #[v, .int .i64 d] w fun e w' => e = .returned (.bool true) ∧ Bel w w' := by
  have HWK := Lib.hid (fun wx (hx : Bel w wx) => works_any wx (hf.bel hx))
  have HFA := Lib.hid (fun wx (hx : Bel w wx) => hf.bel hx)
  have HV := Lib.hid (fun wx (hx : Bel w wx) => hv.bel hx)
  have HB := Lib.hid (Bel.refl w)
  have HFB := Lib.hid (fun wx (hx : Bel w wx) => bFar_any b v wx (hv.bel hx))
  have HCP := Lib.hid (fun h1 h2 h3 wx (hx : Bel w wx) => bCopy_any b v wx (hv.bel hx) h1 h2 h3)
  have HL1 := Lib.hid (fun V wx (hx : Bel w wx) h => Blind_any b V wx (hf.bel hx) h)
  have HL2 := Lib.hid (fun wx (hx : Bel w wx) => R6Blind_any b v wx (hv.bel hx))
  have HP1 := Lib.hid (fun V wx (hx : Bel w wx) h => Script_any b V wx (hf.bel hx) h)
  have HP2 := Lib.hid (fun wx (hx : Bel w wx) => R6Script_any b v wx (hv.bel hx))
  have HQ1 := Lib.hid (fun V wx (hx : Bel w wx) h => Free_any b V d wx (hf.bel hx) h)
  have HQ2 := Lib.hid (fun wx (hx : Bel w wx) => R6Free_any b v d wx (hv.bel hx))
  have HSS := Lib.hid (fun V V2 l wx h h2 => SameSteps_eq V V2 l wx h h2)
  have HSA := Lib.hid (fun V wx (hx : Bel w wx) h => bSame_eq V v b wx h (hv.bel hx))
  obtain ⟨da, dc, sa, sc, pa, pc, rfl, hd, hs, hp⟩ := hv.open
  have HBX := Lib.hid (fun wx hx => (BoxB.new (w := w) (b := b) (dv := .slice da b.doors.length dc) (sv := .slice sa b.seen.length sc) (pv := .slice pa b.places.length pc) (T := 25)).bel (w' := wx) hx)
  clear hf hv hd hs hp
  cases hfa : farB b
  all_goals rw [hfa] at HFB
  rotate_left
  · clear hfa
    go_enter Tryd.func10, Tryd.ntmps10
    go_wp2_with fail
    refine (HFB.out _ (HB.out.trans (by repeat (first | assumption | exact Bel.refl _ | refine Bel.drew ?_ | refine Bel.drewN ?_ _ | refine Bel.alloc ?_ _ | refine Bel.setCell ?_ (by simp <;> omega) _ | refine Bel.trans ?_ (by assumption))))).mono ?_
    rintro e w1 ⟨rfl, hb⟩
    have HY := Lib.hid (HBX.out _ hb)
    have HK := Lib.hid (show Bel w w1 from Bel.trans (by repeat (first | assumption | exact Bel.refl _ | refine Bel.drew ?_ | refine Bel.drewN ?_ _ | refine Bel.alloc ?_ _ | refine Bel.setCell ?_ (by simp <;> omega) _ | refine Bel.trans ?_ (by assumption))) hb)
    replace HB := Lib.hid (HB.out.trans HK.out)
    obtain ⟨y0, y1, y2, y3, y4, y5⟩ := HY.out
    have ly := cell_lt y0
    clear hb HK
    go_wp2_with fail
    refine (HWK.out _ (HB.out.trans (by repeat (first | assumption | exact Bel.refl _ | refine Bel.drew ?_ | refine Bel.drewN ?_ _ | refine Bel.alloc ?_ _ | refine Bel.setCell ?_ (by simp <;> omega) _ | refine Bel.trans ?_ (by assumption))))).mono ?_
    rintro e w2 ⟨rfl, hb⟩
    have HK := Lib.hid (show Bel w1 w2 from Bel.trans (by repeat (first | assumption | exact Bel.refl _ | refine Bel.drew ?_ | refine Bel.drewN ?_ _ | refine Bel.alloc ?_ _ | refine Bel.setCell ?_ (by simp <;> omega) _ | refine Bel.trans ?_ (by assumption))) hb)
    replace HY := Lib.hid (HY.out.bel HK.out)
    replace HB := Lib.hid (HB.out.trans HK.out)
    clear y0 y1 y2 y3 y4 y5 ly
    obtain ⟨y0, y1, y2, y3, y4, y5⟩ := HY.out
    have ly := cell_lt y0
    clear hb HK
    go_wp2
    go_ret
    exact ⟨rfl, HB.out⟩
  have hfr := farB_false hfa
  have HCP1 := Lib.hid (HCP.out (by omega) (by omega) (by omega))
  have HTA := Lib.hid (fun wa gd cd gs cs gp cp wx (h : OwnTrap b wa gd cd gs cs gp cp wx) => h.at (by omega) (by omega) (by omega))
  clear HCP hfa HV hfr
  generalize leastV b false = m at *
  generalize leastE b false = me at *
  generalize scriptA b = sl at *
  generalize freeV b d = fv at *
  generalize freeE b d = fe at *
  go_enter Tryd.func10, Tryd.ntmps10
  go_wp2_with fail
  refine (HFB.out _ (HB.out.trans (by repeat (first | assumption | exact Bel.refl _ | refine Bel.drew ?_ | refine Bel.drewN ?_ _ | refine Bel.alloc ?_ _ | refine Bel.setCell ?_ (by simp <;> omega) _ | refine Bel.trans ?_ (by assumption))))).mono ?_
  rintro e w1 ⟨rfl, hb⟩
  have HY := Lib.hid (HBX.out _ hb)
  have HK := Lib.hid (show Bel w w1 from Bel.trans (by repeat (first | assumption | exact Bel.refl _ | refine Bel.drew ?_ | refine Bel.drewN ?_ _ | refine Bel.alloc ?_ _ | refine Bel.setCell ?_ (by simp <;> omega) _ | refine Bel.trans ?_ (by assumption))) hb)
  replace HB := Lib.hid (HB.out.trans HK.out)
  obtain ⟨y0, y1, y2, y3, y4, y5⟩ := HY.out
  have ly := cell_lt y0
  clear hb HK
  go_wp2_with fail
  refine (HCP1.out _ (HB.out.trans (by repeat (first | assumption | exact Bel.refl _ | refine Bel.drew ?_ | refine Bel.drewN ?_ _ | refine Bel.alloc ?_ _ | refine Bel.setCell ?_ (by simp <;> omega) _ | refine Bel.trans ?_ (by assumption))))).mono ?_
  rintro e w2 ⟨gd, cd, gs, cs, gp, cp, rfl, hown⟩
  have HK := Lib.hid (show Bel w1 w2 from Bel.trans (by repeat (first | assumption | exact Bel.refl _ | refine Bel.drew ?_ | refine Bel.drewN ?_ _ | refine Bel.alloc ?_ _ | refine Bel.setCell ?_ (by simp <;> omega) _ | refine Bel.trans ?_ (by assumption))) hown.bel)
  replace HY := Lib.hid (HY.out.bel HK.out)
  replace HB := Lib.hid (HB.out.trans HK.out)
  clear y0 y1 y2 y3 y4 y5 ly
  obtain ⟨y0, y1, y2, y3, y4, y5⟩ := HY.out
  have ly := cell_lt y0
  have HT := Lib.hid (HTA.out _ _ _ _ _ _ _ _ hown)
  clear hown
  unfold trapAgg at HT
  unfold trapAgg
  clear HK
  go_wp2_with fail
  refine (HL1.out _ _ (HB.out.trans (by repeat (first | assumption | exact Bel.refl _ | refine Bel.drew ?_ | refine Bel.drewN ?_ _ | refine Bel.alloc ?_ _ | refine Bel.setCell ?_ (by simp <;> omega) _ | refine Bel.trans ?_ (by assumption)))) (HT.out.bel (by repeat (first | assumption | exact Bel.refl _ | refine Bel.drew ?_ | refine Bel.drewN ?_ _ | refine Bel.alloc ?_ _ | refine Bel.setCell ?_ (by simp <;> omega) _ | refine Bel.trans ?_ (by assumption))))).mono ?_
  rintro e w3 ⟨rfl, hb⟩
  have o0 : w3.cell? ⟨w2.heap.size, 0, none⟩ = some (.int .i64 b.n) := hb.cell ((row_facts (new_row rfl)).1 0)
  have o1 : w3.cell? ⟨w2.heap.size, 1, none⟩ = some (.slice (some ⟨gd, 0, none⟩) b.doors.length cd) := hb.cell ((row_facts (new_row rfl)).1 1)
  have o2 : w3.cell? ⟨w2.heap.size, 2, none⟩ = some (.slice (some ⟨gs, 0, none⟩) b.seen.length cs) := hb.cell ((row_facts (new_row rfl)).1 2)
  have o3 : w3.cell? ⟨w2.heap.size, 3, none⟩ = some (.int .i64 b.look) := hb.cell ((row_facts (new_row rfl)).1 3)
  have o4 : w3.cell? ⟨w2.heap.size, 4, none⟩ = some (.int .i64 b.eats) := hb.cell ((row_facts (new_row rfl)).1 4)
  have o5 : w3.cell? ⟨w2.heap.size, 5, none⟩ = some (.slice (some ⟨gp, 0, none⟩) b.places.length cp) := hb.cell ((row_facts (new_row rfl)).1 5)
  have HK := Lib.hid (show Bel w2 w3 from Bel.trans (by repeat (first | assumption | exact Bel.refl _ | refine Bel.drew ?_ | refine Bel.drewN ?_ _ | refine Bel.alloc ?_ _ | refine Bel.setCell ?_ (by simp <;> omega) _ | refine Bel.trans ?_ (by assumption))) hb)
  replace HY := Lib.hid (HY.out.bel HK.out)
  replace HB := Lib.hid (HB.out.trans HK.out)
  replace HT := Lib.hid (HT.out.bel HK.out)
  clear y0 y1 y2 y3 y4 y5 ly
  obtain ⟨y0, y1, y2, y3, y4, y5⟩ := HY.out
  have ly := cell_lt y0
  clear hb HK
  have lo := cell_lt o0
  go_wp2_with fail
  refine (HL2.out _ (HB.out.trans (by repeat (first | assumption | exact Bel.refl _ | refine Bel.drew ?_ | refine Bel.drewN ?_ _ | refine Bel.alloc ?_ _ | refine Bel.setCell ?_ (by simp <;> omega) _ | refine Bel.trans ?_ (by assumption))))).mono ?_
  rintro e w4 ⟨rfl, hb⟩
  have HK := Lib.hid (show Bel w3 w4 from Bel.trans (by repeat (first | assumption | exact Bel.refl _ | refine Bel.drew ?_ | refine Bel.drewN ?_ _ | refine Bel.alloc ?_ _ | refine Bel.setCell ?_ (by simp <;> omega) _ | refine Bel.trans ?_ (by assumption))) hb)
  replace HY := Lib.hid (HY.out.bel HK.out)
  replace HB := Lib.hid (HB.out.trans HK.out)
  replace HT := Lib.hid (HT.out.bel HK.out)
  replace o0 := HK.out.cell o0
  replace o1 := HK.out.cell o1
  replace o2 := HK.out.cell o2
  replace o3 := HK.out.cell o3
  replace o4 := HK.out.cell o4
  replace o5 := HK.out.cell o5
  have lo0 := cell_lt o0
  have lo1 := cell_lt o1
  have lo2 := cell_lt o2
  have lo3 := cell_lt o3
  have lo4 := cell_lt o4
  have lo5 := cell_lt o5
  clear y0 y1 y2 y3 y4 y5 ly
  obtain ⟨y0, y1, y2, y3, y4, y5⟩ := HY.out
  have ly := cell_lt y0
  clear hb HK
  go_wp2_with fail
  refine (HP1.out _ _ (HB.out.trans (by repeat (first | assumption | exact Bel.refl _ | refine Bel.drew ?_ | refine Bel.drewN ?_ _ | refine Bel.alloc ?_ _ | refine Bel.setCell ?_ (by simp <;> omega) _ | refine Bel.trans ?_ (by assumption)))) (HT.out.bel (by repeat (first | assumption | exact Bel.refl _ | refine Bel.drew ?_ | refine Bel.drewN ?_ _ | refine Bel.alloc ?_ _ | refine Bel.setCell ?_ (by simp <;> omega) _ | refine Bel.trans ?_ (by assumption))))).mono ?_
  rintro e w5 ⟨V5, rfl, hV, hb⟩
  have HK := Lib.hid (show Bel w4 w5 from Bel.trans (by repeat (first | assumption | exact Bel.refl _ | refine Bel.drew ?_ | refine Bel.drewN ?_ _ | refine Bel.alloc ?_ _ | refine Bel.setCell ?_ (by simp <;> omega) _ | refine Bel.trans ?_ (by assumption))) hb)
  replace HY := Lib.hid (HY.out.bel HK.out)
  replace HB := Lib.hid (HB.out.trans HK.out)
  replace HT := Lib.hid (HT.out.bel HK.out)
  replace o0 := HK.out.cell o0
  replace o1 := HK.out.cell o1
  replace o2 := HK.out.cell o2
  replace o3 := HK.out.cell o3
  replace o4 := HK.out.cell o4
  replace o5 := HK.out.cell o5
  have lo0 := cell_lt o0
  have lo1 := cell_lt o1
  have lo2 := cell_lt o2
  have lo3 := cell_lt o3
  have lo4 := cell_lt o4
  have lo5 := cell_lt o5
  clear y0 y1 y2 y3 y4 y5 ly
  obtain ⟨y0, y1, y2, y3, y4, y5⟩ := HY.out
  have ly := cell_lt y0
  have HI1 := Lib.hid hV
  clear hV
  clear hb HK
  go_wp2_with fail
  refine (HP2.out _ (HB.out.trans (by repeat (first | assumption | exact Bel.refl _ | refine Bel.drew ?_ | refine Bel.drewN ?_ _ | refine Bel.alloc ?_ _ | refine Bel.setCell ?_ (by simp <;> omega) _ | refine Bel.trans ?_ (by assumption))))).mono ?_
  rintro e w6 ⟨V6, rfl, hV, hb⟩
  have HK := Lib.hid (show Bel w5 w6 from Bel.trans (by repeat (first | assumption | exact Bel.refl _ | refine Bel.drew ?_ | refine Bel.drewN ?_ _ | refine Bel.alloc ?_ _ | refine Bel.setCell ?_ (by simp <;> omega) _ | refine Bel.trans ?_ (by assumption))) hb)
  replace HY := Lib.hid (HY.out.bel HK.out)
  replace HB := Lib.hid (HB.out.trans HK.out)
  replace HT := Lib.hid (HT.out.bel HK.out)
  replace HI1 := Lib.hid (HI1.out.bel HK.out)
  replace o0 := HK.out.cell o0
  replace o1 := HK.out.cell o1
  replace o2 := HK.out.cell o2
  replace o3 := HK.out.cell o3
  replace o4 := HK.out.cell o4
  replace o5 := HK.out.cell o5
  have lo0 := cell_lt o0
  have lo1 := cell_lt o1
  have lo2 := cell_lt o2
  have lo3 := cell_lt o3
  have lo4 := cell_lt o4
  have lo5 := cell_lt o5
  clear y0 y1 y2 y3 y4 y5 ly
  obtain ⟨y0, y1, y2, y3, y4, y5⟩ := HY.out
  have ly := cell_lt y0
  have HI2 := Lib.hid hV
  clear hV
  clear hb HK
  go_wp2_with fail
  refine (HQ1.out _ _ (HB.out.trans (by repeat (first | assumption | exact Bel.refl _ | refine Bel.drew ?_ | refine Bel.drewN ?_ _ | refine Bel.alloc ?_ _ | refine Bel.setCell ?_ (by simp <;> omega) _ | refine Bel.trans ?_ (by assumption)))) (HT.out.bel (by repeat (first | assumption | exact Bel.refl _ | refine Bel.drew ?_ | refine Bel.drewN ?_ _ | refine Bel.alloc ?_ _ | refine Bel.setCell ?_ (by simp <;> omega) _ | refine Bel.trans ?_ (by assumption))))).mono ?_
  rintro e w7 ⟨rfl, hb⟩
  have HK := Lib.hid (show Bel w6 w7 from Bel.trans (by repeat (first | assumption | exact Bel.refl _ | refine Bel.drew ?_ | refine Bel.drewN ?_ _ | refine Bel.alloc ?_ _ | refine Bel.setCell ?_ (by simp <;> omega) _ | refine Bel.trans ?_ (by assumption))) hb)
  replace HY := Lib.hid (HY.out.bel HK.out)
  replace HB := Lib.hid (HB.out.trans HK.out)
  replace HT := Lib.hid (HT.out.bel HK.out)
  replace HI1 := Lib.hid (HI1.out.bel HK.out)
  replace HI2 := Lib.hid (HI2.out.bel HK.out)
  replace o0 := HK.out.cell o0
  replace o1 := HK.out.cell o1
  replace o2 := HK.out.cell o2
  replace o3 := HK.out.cell o3
  replace o4 := HK.out.cell o4
  replace o5 := HK.out.cell o5
  have lo0 := cell_lt o0
  have lo1 := cell_lt o1
  have lo2 := cell_lt o2
  have lo3 := cell_lt o3
  have lo4 := cell_lt o4
  have lo5 := cell_lt o5
  clear y0 y1 y2 y3 y4 y5 ly
  obtain ⟨y0, y1, y2, y3, y4, y5⟩ := HY.out
  have ly := cell_lt y0
  clear hb HK
  go_wp2_with fail
  refine (HQ2.out _ (HB.out.trans (by repeat (first | assumption | exact Bel.refl _ | refine Bel.drew ?_ | refine Bel.drewN ?_ _ | refine Bel.alloc ?_ _ | refine Bel.setCell ?_ (by simp <;> omega) _ | refine Bel.trans ?_ (by assumption))))).mono ?_
  rintro e w8 ⟨rfl, hb⟩
  have HK := Lib.hid (show Bel w7 w8 from Bel.trans (by repeat (first | assumption | exact Bel.refl _ | refine Bel.drew ?_ | refine Bel.drewN ?_ _ | refine Bel.alloc ?_ _ | refine Bel.setCell ?_ (by simp <;> omega) _ | refine Bel.trans ?_ (by assumption))) hb)
  replace HY := Lib.hid (HY.out.bel HK.out)
  replace HB := Lib.hid (HB.out.trans HK.out)
  replace HT := Lib.hid (HT.out.bel HK.out)
  replace HI1 := Lib.hid (HI1.out.bel HK.out)
  replace HI2 := Lib.hid (HI2.out.bel HK.out)
  replace o0 := HK.out.cell o0
  replace o1 := HK.out.cell o1
  replace o2 := HK.out.cell o2
  replace o3 := HK.out.cell o3
  replace o4 := HK.out.cell o4
  replace o5 := HK.out.cell o5
  have lo0 := cell_lt o0
  have lo1 := cell_lt o1
  have lo2 := cell_lt o2
  have lo3 := cell_lt o3
  have lo4 := cell_lt o4
  have lo5 := cell_lt o5
  clear y0 y1 y2 y3 y4 y5 ly
  obtain ⟨y0, y1, y2, y3, y4, y5⟩ := HY.out
  have ly := cell_lt y0
  clear hb HK
  go_wp2_with fail
  refine (HSS.out _ _ _ _ (HI1.out.bel (by repeat (first | assumption | exact Bel.refl _ | refine Bel.drew ?_ | refine Bel.drewN ?_ _ | refine Bel.alloc ?_ _ | refine Bel.setCell ?_ (by simp <;> omega) _ | refine Bel.trans ?_ (by assumption)))) (HI2.out.bel (by repeat (first | assumption | exact Bel.refl _ | refine Bel.drew ?_ | refine Bel.drewN ?_ _ | refine Bel.alloc ?_ _ | refine Bel.setCell ?_ (by simp <;> omega) _ | refine Bel.trans ?_ (by assumption))))).mono ?_
  rintro e w9 ⟨rfl, hb⟩
  have HK := Lib.hid (show Bel w8 w9 from Bel.trans (by repeat (first | assumption | exact Bel.refl _ | refine Bel.drew ?_ | refine Bel.drewN ?_ _ | refine Bel.alloc ?_ _ | refine Bel.setCell ?_ (by simp <;> omega) _ | refine Bel.trans ?_ (by assumption))) hb)
  replace HY := Lib.hid (HY.out.bel HK.out)
  replace HB := Lib.hid (HB.out.trans HK.out)
  replace HT := Lib.hid (HT.out.bel HK.out)
  replace HI1 := Lib.hid (HI1.out.bel HK.out)
  replace HI2 := Lib.hid (HI2.out.bel HK.out)
  replace o0 := HK.out.cell o0
  replace o1 := HK.out.cell o1
  replace o2 := HK.out.cell o2
  replace o3 := HK.out.cell o3
  replace o4 := HK.out.cell o4
  replace o5 := HK.out.cell o5
  have lo0 := cell_lt o0
  have lo1 := cell_lt o1
  have lo2 := cell_lt o2
  have lo3 := cell_lt o3
  have lo4 := cell_lt o4
  have lo5 := cell_lt o5
  clear y0 y1 y2 y3 y4 y5 ly
  obtain ⟨y0, y1, y2, y3, y4, y5⟩ := HY.out
  have ly := cell_lt y0
  clear hb HK
  go_wp2_with fail
  refine (HSA.out _ _ (HB.out.trans (by repeat (first | assumption | exact Bel.refl _ | refine Bel.drew ?_ | refine Bel.drewN ?_ _ | refine Bel.alloc ?_ _ | refine Bel.setCell ?_ (by simp <;> omega) _ | refine Bel.trans ?_ (by assumption)))) (HT.out.bel (by repeat (first | assumption | exact Bel.refl _ | refine Bel.drew ?_ | refine Bel.drewN ?_ _ | refine Bel.alloc ?_ _ | refine Bel.setCell ?_ (by simp <;> omega) _ | refine Bel.trans ?_ (by assumption))))).mono ?_
  rintro e w10 ⟨rfl, hb⟩
  have HK := Lib.hid (show Bel w9 w10 from Bel.trans (by repeat (first | assumption | exact Bel.refl _ | refine Bel.drew ?_ | refine Bel.drewN ?_ _ | refine Bel.alloc ?_ _ | refine Bel.setCell ?_ (by simp <;> omega) _ | refine Bel.trans ?_ (by assumption))) hb)
  replace HY := Lib.hid (HY.out.bel HK.out)
  replace HB := Lib.hid (HB.out.trans HK.out)
  replace HT := Lib.hid (HT.out.bel HK.out)
  replace o0 := HK.out.cell o0
  replace o1 := HK.out.cell o1
  replace o2 := HK.out.cell o2
  replace o3 := HK.out.cell o3
  replace o4 := HK.out.cell o4
  replace o5 := HK.out.cell o5
  have lo0 := cell_lt o0
  have lo1 := cell_lt o1
  have lo2 := cell_lt o2
  have lo3 := cell_lt o3
  have lo4 := cell_lt o4
  have lo5 := cell_lt o5
  clear y0 y1 y2 y3 y4 y5 ly
  obtain ⟨y0, y1, y2, y3, y4, y5⟩ := HY.out
  have ly := cell_lt y0
  clear hb HK
  go_wp2_with fail
  refine (HWK.out _ (HB.out.trans (by repeat (first | assumption | exact Bel.refl _ | refine Bel.drew ?_ | refine Bel.drewN ?_ _ | refine Bel.alloc ?_ _ | refine Bel.setCell ?_ (by simp <;> omega) _ | refine Bel.trans ?_ (by assumption))))).mono ?_
  rintro e w11 ⟨rfl, hb⟩
  have HK := Lib.hid (show Bel w10 w11 from Bel.trans (by repeat (first | assumption | exact Bel.refl _ | refine Bel.drew ?_ | refine Bel.drewN ?_ _ | refine Bel.alloc ?_ _ | refine Bel.setCell ?_ (by simp <;> omega) _ | refine Bel.trans ?_ (by assumption))) hb)
  replace HY := Lib.hid (HY.out.bel HK.out)
  replace HB := Lib.hid (HB.out.trans HK.out)
  replace HT := Lib.hid (HT.out.bel HK.out)
  replace o0 := HK.out.cell o0
  replace o1 := HK.out.cell o1
  replace o2 := HK.out.cell o2
  replace o3 := HK.out.cell o3
  replace o4 := HK.out.cell o4
  replace o5 := HK.out.cell o5
  have lo0 := cell_lt o0
  have lo1 := cell_lt o1
  have lo2 := cell_lt o2
  have lo3 := cell_lt o3
  have lo4 := cell_lt o4
  have lo5 := cell_lt o5
  clear y0 y1 y2 y3 y4 y5 ly
  obtain ⟨y0, y1, y2, y3, y4, y5⟩ := HY.out
  have ly := cell_lt y0
  clear hb HK
  go_wp2
  go_ret
  exact ⟨rfl, HB.out⟩
end Go.Proofs.YtogiidkofddhaaaDoor

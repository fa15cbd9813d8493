/-
  law: BeastsRun: Check, Move, Run and After answer as the reference does, and the call leaves the trap and the tour as they were: the call returns true for every trap and tour, and changes nothing that was there
-/
import Derived.Test.YtogiidkofddhaaaDoorBWorks
import Derived.Test.YtogiidkofddhaaaDoorBLaw2
import Derived.Test.YtogiidkofddhaaaDoorBRunM
import Derived.Test.YtogiidkofddhaaaDoorBRef5
namespace Go.Proofs.YtogiidkofddhaaaDoor
open Go Go.RowKit Go.Shelf
set_option maxHeartbeats 16000000
set_option maxRecDepth 100000
theorem BeastsRun_any (b : BT) (v vt : Value) (l : List BS) (ans ps : List Int) (n : Int) (w : World) (hf : FarAt w) (hv : BTrapAt w v b) (ht : TourAt w vt l ans ps n) : Calls Tryd.prog 13 #[v, vt] w fun e w' => e = .returned (.bool true) ∧ Bel w w' := by
  have HWK := Lib.hid (fun wx (hx : Bel w wx) => works_any wx (hf.bel hx))
  have HFA := Lib.hid (fun wx (hx : Bel w wx) => hf.bel hx)
  have HV := Lib.hid (fun wx (hx : Bel w wx) => hv.bel hx)
  have HB := Lib.hid (Bel.refl w)
  have HFB := Lib.hid (fun wx (hx : Bel w wx) => bFar_any b v wx (hv.bel hx))
  have HLG := Lib.hid (fun wx (hx : Bel w wx) => blong_any l ans ps n vt wx (ht.bel hx))
  obtain ⟨lv, av, qv, rfl, hl, ha, hq⟩ := ht
  have HCP := Lib.hid (fun h1 h2 h3 wx (hx : Bel w wx) => bCopy_any b v wx (hv.bel hx) h1 h2 h3)
  have HWA := Lib.hid (fun h wx (hx : Bel w wx) => bwalked_any lv l wx (hl.bel hx) h)
  have HCA := Lib.hid (fun h wx (hx : Bel w wx) => bcopied_any av ans wx (ha.bel hx) h)
  have HCQ := Lib.hid (fun h wx (hx : Bel w wx) => bcopied_any qv ps wx (hq.bel hx) h)
  have HCK := Lib.hid (fun wx (hx : Bel w wx) => R6Check_any b v wx (hv.bel hx))
  have HMO := Lib.hid (fun wx (hx : Bel w wx) => R6Move_any b v qv ps n wx (hv.bel hx) (hq.bel hx))
  have HRU := Lib.hid (fun wx (hx : Bel w wx) => R6Run_any b l n v lv wx (hv.bel hx) (hl.bel hx))
  have HAF := Lib.hid (fun wx (hx : Bel w wx) => R6After_any b l ans v lv av wx (hv.bel hx) (hl.bel hx) (ha.bel hx))
  have HSA := Lib.hid (fun V wx (hx : Bel w wx) h => bSame_eq V v b wx h (hv.bel hx))
  have HSS := Lib.hid (fun V wx (hx : Bel w wx) h => SameSteps_eq V lv l wx h (hl.bel hx))
  have HS1 := Lib.hid (fun V wx (hx : Bel w wx) h => SameInts_eq V av ans wx h (ha.bel hx))
  have HS2 := Lib.hid (fun V wx (hx : Bel w wx) h => SameInts_eq V qv ps wx h (hq.bel hx))
  have HBK := Lib.hid (fun V wx h => bCheck_any b V wx h)
  have HBM := Lib.hid (fun V PV wx h h2 => bMove_any b V PV ps n wx h h2)
  have HBR := Lib.hid (fun V LV wx h h2 => Run_any b l n V LV wx h h2)
  have HBA := Lib.hid (fun V LV AV wx h h2 h3 => After_any b l ans V LV AV wx h h2 h3)
  have HSI := Lib.hid (fun V V2 L wx h h2 => SameInts_eq V V2 L wx h h2)
  obtain ⟨da, dc, sa, sc, pa, pc, rfl, hd, hs, hp⟩ := hv.open
  have HBX := Lib.hid (fun wx hx => (BoxB.new (w := w) (b := b) (dv := .slice da b.doors.length dc) (sv := .slice sa b.seen.length sc) (pv := .slice pa b.places.length pc) (T := 25)).bel (w' := wx) hx)
  obtain ⟨la, lc, lb, loff, rfl, -⟩ := hl
  obtain ⟨xa, xc, xb, xoff, rfl, -⟩ := ha
  obtain ⟨qa, qc, qb, qoff, rfl, -⟩ := hq
  clear hf hv hd hs hp
  cases hfa : farB b
  all_goals rw [hfa] at HFB
  rotate_left
  · clear hfa
    go_enter Tryd.func13, Tryd.ntmps13
    go_wp2_with fail
    refine (HFB.out _ (HB.out.trans (by repeat (first | assumption | exact Bel.refl _ | refine Bel.drew ?_ | refine Bel.drewN ?_ _ | refine Bel.alloc ?_ _ | refine Bel.setCell ?_ (by simp <;> omega) _ | refine Bel.trans ?_ (by assumption))))).mono ?_
    rintro e w1 ⟨rfl, hb⟩
    have HY := Lib.hid (HBX.out _ (Bel.trans ((Bel.refl _).alloc _) hb))
    have z0 : w1.cell? ⟨w.heap.size + 1, 0, none⟩ = some (.slice la l.length lc) := hb.cell ((row_facts (new_row (by simp))).1 0)
    have z1 : w1.cell? ⟨w.heap.size + 1, 1, none⟩ = some (.slice xa ans.length xc) := hb.cell ((row_facts (new_row (by simp))).1 1)
    have z2 : w1.cell? ⟨w.heap.size + 1, 2, none⟩ = some (.slice qa ps.length qc) := hb.cell ((row_facts (new_row (by simp))).1 2)
    have z3 : w1.cell? ⟨w.heap.size + 1, 3, none⟩ = some (.int .i64 n) := hb.cell ((row_facts (new_row (by simp))).1 3)
    have lz := cell_lt z0
    have HK0 := Lib.hid (show Bel w w1 from Bel.trans (by repeat (first | assumption | exact Bel.refl _ | refine Bel.drew ?_ | refine Bel.drewN ?_ _ | refine Bel.alloc ?_ _ | refine Bel.setCell ?_ (by simp <;> omega) _ | refine Bel.trans ?_ (by assumption))) hb)
    replace HB := Lib.hid (HB.out.trans HK0.out)
    obtain ⟨y0, y1, y2, y3, y4, y5⟩ := HY.out
    have ly := cell_lt y0
    clear hb HK0
    go_wp2_with fail
    refine (HWK.out _ (HB.out.trans (by repeat (first | assumption | exact Bel.refl _ | refine Bel.drew ?_ | refine Bel.drewN ?_ _ | refine Bel.alloc ?_ _ | refine Bel.setCell ?_ (by simp <;> omega) _ | refine Bel.trans ?_ (by assumption))))).mono ?_
    rintro e w2 ⟨rfl, hb⟩
    have HK := Lib.hid (show Bel w1 w2 from Bel.trans (by repeat (first | assumption | exact Bel.refl _ | refine Bel.drew ?_ | refine Bel.drewN ?_ _ | refine Bel.alloc ?_ _ | refine Bel.setCell ?_ (by simp <;> omega) _ | refine Bel.trans ?_ (by assumption))) hb)
    replace HY := Lib.hid (HY.out.bel HK.out)
    replace HB := Lib.hid (HB.out.trans HK.out)
    replace z0 := HK.out.cell z0
    replace z1 := HK.out.cell z1
    replace z2 := HK.out.cell z2
    replace z3 := HK.out.cell z3
    clear lz
    have lz := cell_lt z0
    clear y0 y1 y2 y3 y4 y5 ly
    obtain ⟨y0, y1, y2, y3, y4, y5⟩ := HY.out
    have ly := cell_lt y0
    clear hb HK
    go_wp2
    go_ret
    exact ⟨rfl, HB.out⟩
  cases hlo : longB l ans ps
  all_goals rw [hlo] at HLG
  rotate_left
  · clear hfa hlo
    go_enter Tryd.func13, Tryd.ntmps13
    go_wp2_with fail
    refine (HFB.out _ (HB.out.trans (by repeat (first | assumption | exact Bel.refl _ | refine Bel.drew ?_ | refine Bel.drewN ?_ _ | refine Bel.alloc ?_ _ | refine Bel.setCell ?_ (by simp <;> omega) _ | refine Bel.trans ?_ (by assumption))))).mono ?_
    rintro e w1 ⟨rfl, hb⟩
    have HY := Lib.hid (HBX.out _ (Bel.trans ((Bel.refl _).alloc _) hb))
    have z0 : w1.cell? ⟨w.heap.size + 1, 0, none⟩ = some (.slice la l.length lc) := hb.cell ((row_facts (new_row (by simp))).1 0)
    have z1 : w1.cell? ⟨w.heap.size + 1, 1, none⟩ = some (.slice xa ans.length xc) := hb.cell ((row_facts (new_row (by simp))).1 1)
    have z2 : w1.cell? ⟨w.heap.size + 1, 2, none⟩ = some (.slice qa ps.length qc) := hb.cell ((row_facts (new_row (by simp))).1 2)
    have z3 : w1.cell? ⟨w.heap.size + 1, 3, none⟩ = some (.int .i64 n) := hb.cell ((row_facts (new_row (by simp))).1 3)
    have lz := cell_lt z0
    have HK0 := Lib.hid (show Bel w w1 from Bel.trans (by repeat (first | assumption | exact Bel.refl _ | refine Bel.drew ?_ | refine Bel.drewN ?_ _ | refine Bel.alloc ?_ _ | refine Bel.setCell ?_ (by simp <;> omega) _ | refine Bel.trans ?_ (by assumption))) hb)
    replace HB := Lib.hid (HB.out.trans HK0.out)
    obtain ⟨y0, y1, y2, y3, y4, y5⟩ := HY.out
    have ly := cell_lt y0
    clear hb HK0
    go_wp2_with fail
    refine (HLG.out _ (HB.out.trans (by repeat (first | assumption | exact Bel.refl _ | refine Bel.drew ?_ | refine Bel.drewN ?_ _ | refine Bel.alloc ?_ _ | refine Bel.setCell ?_ (by simp <;> omega) _ | refine Bel.trans ?_ (by assumption))))).mono ?_
    rintro e w2 ⟨rfl, hb⟩
    have HK := Lib.hid (show Bel w1 w2 from Bel.trans (by repeat (first | assumption | exact Bel.refl _ | refine Bel.drew ?_ | refine Bel.drewN ?_ _ | refine Bel.alloc ?_ _ | refine Bel.setCell ?_ (by simp <;> omega) _ | refine Bel.trans ?_ (by assumption))) hb)
    replace HY := Lib.hid (HY.out.bel HK.out)
    replace HB := Lib.hid (HB.out.trans HK.out)
    replace z0 := HK.out.cell z0
    replace z1 := HK.out.cell z1
    replace z2 := HK.out.cell z2
    replace z3 := HK.out.cell z3
    clear lz
    have lz := cell_lt z0
    clear y0 y1 y2 y3 y4 y5 ly
    obtain ⟨y0, y1, y2, y3, y4, y5⟩ := HY.out
    have ly := cell_lt y0
    clear hb HK
    go_wp2_with fail
    refine (HWK.out _ (HB.out.trans (by repeat (first | assumption | exact Bel.refl _ | refine Bel.drew ?_ | refine Bel.drewN ?_ _ | refine Bel.alloc ?_ _ | refine Bel.setCell ?_ (by simp <;> omega) _ | refine Bel.trans ?_ (by assumption))))).mono ?_
    rintro e w3 ⟨rfl, hb⟩
    have HK := Lib.hid (show Bel w2 w3 from Bel.trans (by repeat (first | assumption | exact Bel.refl _ | refine Bel.drew ?_ | refine Bel.drewN ?_ _ | refine Bel.alloc ?_ _ | refine Bel.setCell ?_ (by simp <;> omega) _ | refine Bel.trans ?_ (by assumption))) hb)
    replace HY := Lib.hid (HY.out.bel HK.out)
    replace HB := Lib.hid (HB.out.trans HK.out)
    replace z0 := HK.out.cell z0
    replace z1 := HK.out.cell z1
    replace z2 := HK.out.cell z2
    replace z3 := HK.out.cell z3
    clear lz
    have lz := cell_lt z0
    clear y0 y1 y2 y3 y4 y5 ly
    obtain ⟨y0, y1, y2, y3, y4, y5⟩ := HY.out
    have ly := cell_lt y0
    clear hb HK
    go_wp2
    go_ret
    exact ⟨rfl, HB.out⟩
  have hfr := farB_false hfa
  have hln := longB_false hlo
  have HCP1 := Lib.hid (HCP.out (by omega) (by omega) (by omega))
  have HWA1 := Lib.hid (HWA.out (by omega))
  have HCA1 := Lib.hid (HCA.out (by omega))
  have HCQ1 := Lib.hid (HCQ.out (by omega))
  clear HCP HWA HCA HCQ hfa hlo HFA HV
  have HFR := Lib.hid hfr
  have HLN := Lib.hid hln
  clear hfr hln
  go_enter Tryd.func13, Tryd.ntmps13
  go_wp2_with fail
  refine (HFB.out _ (HB.out.trans (by repeat (first | assumption | exact Bel.refl _ | refine Bel.drew ?_ | refine Bel.drewN ?_ _ | refine Bel.alloc ?_ _ | refine Bel.setCell ?_ (by simp <;> omega) _ | refine Bel.trans ?_ (by assumption))))).mono ?_
  rintro e w1 ⟨rfl, hb⟩
  have HY := Lib.hid (HBX.out _ (Bel.trans ((Bel.refl _).alloc _) hb))
  have z0 : w1.cell? ⟨w.heap.size + 1, 0, none⟩ = some (.slice la l.length lc) := hb.cell ((row_facts (new_row (by simp))).1 0)
  have z1 : w1.cell? ⟨w.heap.size + 1, 1, none⟩ = some (.slice xa ans.length xc) := hb.cell ((row_facts (new_row (by simp))).1 1)
  have z2 : w1.cell? ⟨w.heap.size + 1, 2, none⟩ = some (.slice qa ps.length qc) := hb.cell ((row_facts (new_row (by simp))).1 2)
  have z3 : w1.cell? ⟨w.heap.size + 1, 3, none⟩ = some (.int .i64 n) := hb.cell ((row_facts (new_row (by simp))).1 3)
  have lz := cell_lt z0
  have HK0 := Lib.hid (show Bel w w1 from Bel.trans (by repeat (first | assumption | exact Bel.refl _ | refine Bel.drew ?_ | refine Bel.drewN ?_ _ | refine Bel.alloc ?_ _ | refine Bel.setCell ?_ (by simp <;> omega) _ | refine Bel.trans ?_ (by assumption))) hb)
  replace HB := Lib.hid (HB.out.trans HK0.out)
  obtain ⟨y0, y1, y2, y3, y4, y5⟩ := HY.out
  have ly := cell_lt y0
  clear hb HK0
  go_wp2_with fail
  refine (HLG.out _ (HB.out.trans (by repeat (first | assumption | exact Bel.refl _ | refine Bel.drew ?_ | refine Bel.drewN ?_ _ | refine Bel.alloc ?_ _ | refine Bel.setCell ?_ (by simp <;> omega) _ | refine Bel.trans ?_ (by assumption))))).mono ?_
  rintro e w2 ⟨rfl, hb⟩
  have HK := Lib.hid (show Bel w1 w2 from Bel.trans (by repeat (first | assumption | exact Bel.refl _ | refine Bel.drew ?_ | refine Bel.drewN ?_ _ | refine Bel.alloc ?_ _ | refine Bel.setCell ?_ (by simp <;> omega) _ | refine Bel.trans ?_ (by assumption))) hb)
  replace HY := Lib.hid (HY.out.bel HK.out)
  replace HB := Lib.hid (HB.out.trans HK.out)
  replace z0 := HK.out.cell z0
  replace z1 := HK.out.cell z1
  replace z2 := HK.out.cell z2
  replace z3 := HK.out.cell z3
  clear lz
  have lz := cell_lt z0
  clear y0 y1 y2 y3 y4 y5 ly
  obtain ⟨y0, y1, y2, y3, y4, y5⟩ := HY.out
  have ly := cell_lt y0
  clear hb HK
  go_upto_region 3 with fail
  go_cut [5, 6, 7, 8] (fun s5 s6 s7 s8 wx => ∃ (lv av pv : Value) (p gd cd gs cs gp cp : Nat), s5 = .pointer (some ⟨p, 0, none⟩) ∧ s6 = lv ∧ s7 = av ∧ s8 = pv ∧ Hid (RunM b l ans ps w2 p gd cd gs cs gp cp lv av pv wx))
  case first =>
    refine wp_region_mixB (Plan.seq [0, 2, 3, 5, 6, 8, 9] (.both 1 (.both 4 (.both 7 (.both 10 (Plan.seq [1011, 1012, 13, 14, 15] .nil) 11 (Plan.seq [1010, 1012, 13, 14, 15] .nil)) 11 (Plan.seq [1007, 1010, 1012, 13, 14, 15] .nil)) 11 (Plan.seq [1004, 1007, 1010, 1012, 13, 14, 15] .nil)) 11 (Plan.seq [1001, 1004, 1007, 1010, 1012, 13, 14, 15] .nil))) (by kernel_rfl) (by kernel_rfl) (fun hcur => ?_)
    simp only [Plan.seq, Plan.fill, List.getD_cons_zero, List.getD_cons_succ, Nat.reduceLT, ↓reduceIte, Nat.reduceSub]
    apply mix_pure _ rfl
    · intro w' hw'
      have hcr := hw'.cells
      go_simp
      rfl
    intro K hK
    go_simp
    refine hK _ ?_
    clear hK K
    apply mix_pure _ rfl
    · intro w' hw'
      have hcr := hw'.cells
      go_simp
      rfl
    intro K hK
    go_simp
    refine hK _ ?_
    clear hK K
    apply mix_pure _ rfl
    · intro w' hw'
      have hcr := hw'.cells
      go_simp
      rfl
    intro K hK
    go_simp
    refine hK _ ?_
    clear hK K
    apply mix_pure _ rfl
    · intro w' hw'
      have hcr := hw'.cells
      go_simp
      rfl
    intro K hK
    go_simp
    refine hK _ ?_
    clear hK K
    apply mix_pure _ rfl
    · intro w' hw'
      have hcr := hw'.cells
      go_simp
      rfl
    intro K hK
    go_simp
    refine hK _ ?_
    clear hK K
    apply mix_pure _ rfl
    · intro w' hw'
      have hcr := hw'.cells
      go_simp
      rfl
    intro K hK
    go_simp
    refine hK _ ?_
    clear hK K
    apply mix_pure _ rfl
    · intro w' hw'
      have hcr := hw'.cells
      go_simp
      rfl
    intro K hK
    go_simp
    refine hK _ ?_
    clear hK K
    refine mix_both ?_ ?_
    · refine mix_act rfl (fun K hK => ?_)
      go_simp
      refine (HCP1.out _ (HB.out.trans hcur)).mono ?_
      rintro e w3 ⟨gd, cd, gs, cs, gp, cp, rfl, hown⟩
      have HO3 := Lib.hid hown
      have hs3 := hown.bel.szle
      have hg3 := hown.hgd
      have hg4 := hown.hgs
      have hg5 := hown.hgp
      have lg3 : gp < w3.heap.size := own_lt hown.op rfl
      try replace q0 := (hown.bel).cell q0
      try replace q1 := (hown.bel).cell q1
      try replace q2 := (hown.bel).cell q2
      try replace q3 := (hown.bel).cell q3
      try replace q4 := (hown.bel).cell q4
      try replace q5 := (hown.bel).cell q5
      try replace qf := fun o => ((hown.bel).frozens _ ql).trans (qf o)
      try replace ql := Nat.lt_of_lt_of_le ql (hown.bel).szle
      have HK3 := Lib.hid (Bel.refl w3)
      simp only []
      refine hK _ _ (hcur.trans hown.bel) (fun hcur => ?_)
      clear hK K hown
      refine mix_both ?_ ?_
      · refine mix_act rfl (fun K hK => ?_)
        go_simp
        refine (HWA1.out _ (HB.out.trans hcur)).mono ?_
        rintro e w4 ⟨V4, rfl, hst⟩
        have HO4 := Lib.hid hst.own
        have hs4 := hst.bel.szle
        have HN4 := Lib.hid hst.between
        try replace q0 := (hst.bel).cell q0
        try replace q1 := (hst.bel).cell q1
        try replace q2 := (hst.bel).cell q2
        try replace q3 := (hst.bel).cell q3
        try replace q4 := (hst.bel).cell q4
        try replace q5 := (hst.bel).cell q5
        try replace qf := fun o => ((hst.bel).frozens _ ql).trans (qf o)
        try replace ql := Nat.lt_of_lt_of_le ql (hst.bel).szle
        try replace HK3 := Lib.hid (HK3.out.trans hst.bel)
        have HK4 := Lib.hid (Bel.refl w4)
        simp only []
        refine hK _ _ (hcur.trans hst.bel) (fun hcur => ?_)
        clear hK K hst
        refine mix_both ?_ ?_
        · refine mix_act rfl (fun K hK => ?_)
          go_simp
          refine (HCA1.out _ (HB.out.trans hcur)).mono ?_
          rintro e w5 ⟨V5, rfl, hst⟩
          have HO5 := Lib.hid hst.own
          have hs5 := hst.bel.szle
          have HN5 := Lib.hid hst.between
          try replace q0 := (hst.bel).cell q0
          try replace q1 := (hst.bel).cell q1
          try replace q2 := (hst.bel).cell q2
          try replace q3 := (hst.bel).cell q3
          try replace q4 := (hst.bel).cell q4
          try replace q5 := (hst.bel).cell q5
          try replace qf := fun o => ((hst.bel).frozens _ ql).trans (qf o)
          try replace ql := Nat.lt_of_lt_of_le ql (hst.bel).szle
          try replace HK3 := Lib.hid (HK3.out.trans hst.bel)
          try replace HK4 := Lib.hid (HK4.out.trans hst.bel)
          have HK5 := Lib.hid (Bel.refl w5)
          simp only []
          refine hK _ _ (hcur.trans hst.bel) (fun hcur => ?_)
          clear hK K hst
          refine mix_both ?_ ?_
          · refine mix_act rfl (fun K hK => ?_)
            go_simp
            refine (HCQ1.out _ (HB.out.trans hcur)).mono ?_
            rintro e w6 ⟨V6, rfl, hst⟩
            have HO6 := Lib.hid hst.own
            have hs6 := hst.bel.szle
            have HN6 := Lib.hid hst.between
            try replace q0 := (hst.bel).cell q0
            try replace q1 := (hst.bel).cell q1
            try replace q2 := (hst.bel).cell q2
            try replace q3 := (hst.bel).cell q3
            try replace q4 := (hst.bel).cell q4
            try replace q5 := (hst.bel).cell q5
            try replace qf := fun o => ((hst.bel).frozens _ ql).trans (qf o)
            try replace ql := Nat.lt_of_lt_of_le ql (hst.bel).szle
            try replace HK3 := Lib.hid (HK3.out.trans hst.bel)
            try replace HK4 := Lib.hid (HK4.out.trans hst.bel)
            try replace HK5 := Lib.hid (HK5.out.trans hst.bel)
            have HK6 := Lib.hid (Bel.refl w6)
            simp only []
            refine hK _ _ (hcur.trans hst.bel) (fun hcur => ?_)
            clear hK K hst
            refine mix_act rfl (fun K hK => ?_)
            go_simp
            first
              | (generalize hA : World.alloc _ _ = WA
                 obtain ⟨hba, ql, q0, q1, q2, q3, q4, q5, qf⟩ := alloc_box hA
                 have hz := hcur.szle
                 have hsa := ql
                 try replace HK3 := Lib.hid (HK3.out.trans hba)
                 try replace HK4 := Lib.hid (HK4.out.trans hba)
                 try replace HK5 := Lib.hid (HK5.out.trans hba)
                 try replace HK6 := Lib.hid (HK6.out.trans hba)
                 refine hK _ _ (hcur.trans hba) (fun hcur => ?_)
                 clear hK K hA hba)
              | (generalize hA : World.drew (World.alloc _ _) = WA
                 obtain ⟨hba, ql, q0, q1, q2, q3, q4, q5, qf⟩ := alloc_box_drew hA
                 have hz := hcur.szle
                 have hsa := ql
                 try replace HK3 := Lib.hid (HK3.out.trans hba)
                 try replace HK4 := Lib.hid (HK4.out.trans hba)
                 try replace HK5 := Lib.hid (HK5.out.trans hba)
                 try replace HK6 := Lib.hid (HK6.out.trans hba)
                 refine hK _ _ (hcur.trans hba) (fun hcur => ?_)
                 clear hK K hA hba)
            refine mix_act rfl (fun K hK => ?_)
            unfold trapAgg
            go_simp
            generalize hS : World.setCell _ _ _ = WS
            have HR := Lib.hid (run_end (w := w2) hS q0 q1 q2 q3 q4 q5 hcur (Nat.le_trans (Nat.le_refl _) hz) ql HO3.out HK3.out (by have hd0 : (World.drew w2).heap.size = w2.heap.size := rfl; omega) (by have hd0 : (World.drew w2).heap.size = w2.heap.size := rfl; omega) (by have hd0 : (World.drew w2).heap.size = w2.heap.size := rfl; omega) HO4.out HK4.out HN4.out (by have hd0 : (World.drew w2).heap.size = w2.heap.size := rfl; omega) HO5.out HK5.out HN5.out (by have hd0 : (World.drew w2).heap.size = w2.heap.size := rfl; omega) HO6.out HK6.out HN6.out (by have hd0 : (World.drew w2).heap.size = w2.heap.size := rfl; omega) (by have := HFR.out; omega) (by have := HFR.out; omega) (by have := HFR.out; omega) (by have := HLN.out; omega) (by have := HLN.out; omega) (by have := HLN.out; omega))
            refine hK _ _ HR.out.bel (fun hcur => ?_)
            clear hK K hS
            apply mix_pure _ rfl
            · intro w' hw'
              have hcr := hw'.cells
              go_simp
              rfl
            intro K hK
            go_simp
            refine hK _ ?_
            clear hK K
            apply mix_pure _ rfl
            · intro w' hw'
              have hcr := hw'.cells
              go_simp
              rfl
            intro K hK
            go_simp
            refine hK _ ?_
            clear hK K
            apply mix_pure _ rfl
            · intro w' hw'
              have hcr := hw'.cells
              go_simp
              rfl
            intro K hK
            go_simp
            refine hK _ ?_
            clear hK K
            refine mix_nil ?_
            go_wp2_with fail
            go_meet
            exact ⟨_, _, _, _, gd, cd, gs, cs, gp, cp, rfl, rfl, rfl, rfl, HR⟩
          · refine mix_act rfl (fun K hK => ?_)
            go_simp
            first
              | (generalize hA : World.alloc _ _ = WA
                 obtain ⟨hba, ql, q0, q1, q2, q3, q4, q5, qf⟩ := alloc_box hA
                 have hz := hcur.szle
                 have hsa := ql
                 try replace HK3 := Lib.hid (HK3.out.trans hba)
                 try replace HK4 := Lib.hid (HK4.out.trans hba)
                 try replace HK5 := Lib.hid (HK5.out.trans hba)
                 try replace HK6 := Lib.hid (HK6.out.trans hba)
                 refine hK _ _ (hcur.trans hba) (fun hcur => ?_)
                 clear hK K hA hba)
              | (generalize hA : World.drew (World.alloc _ _) = WA
                 obtain ⟨hba, ql, q0, q1, q2, q3, q4, q5, qf⟩ := alloc_box_drew hA
                 have hz := hcur.szle
                 have hsa := ql
                 try replace HK3 := Lib.hid (HK3.out.trans hba)
                 try replace HK4 := Lib.hid (HK4.out.trans hba)
                 try replace HK5 := Lib.hid (HK5.out.trans hba)
                 try replace HK6 := Lib.hid (HK6.out.trans hba)
                 refine hK _ _ (hcur.trans hba) (fun hcur => ?_)
                 clear hK K hA hba)
            refine mix_act rfl (fun K hK => ?_)
            go_simp
            refine (HCQ1.out _ (HB.out.trans hcur)).mono ?_
            rintro e w6 ⟨V6, rfl, hst⟩
            have HO6 := Lib.hid hst.own
            have hs6 := hst.bel.szle
            have HN6 := Lib.hid hst.between
            try replace q0 := (hst.bel).cell q0
            try replace q1 := (hst.bel).cell q1
            try replace q2 := (hst.bel).cell q2
            try replace q3 := (hst.bel).cell q3
            try replace q4 := (hst.bel).cell q4
            try replace q5 := (hst.bel).cell q5
            try replace qf := fun o => ((hst.bel).frozens _ ql).trans (qf o)
            try replace ql := Nat.lt_of_lt_of_le ql (hst.bel).szle
            try replace HK3 := Lib.hid (HK3.out.trans hst.bel)
            try replace HK4 := Lib.hid (HK4.out.trans hst.bel)
            try replace HK5 := Lib.hid (HK5.out.trans hst.bel)
            have HK6 := Lib.hid (Bel.refl w6)
            simp only []
            refine hK _ _ (hcur.trans hst.bel) (fun hcur => ?_)
            clear hK K hst
            refine mix_act rfl (fun K hK => ?_)
            unfold trapAgg
            go_simp
            generalize hS : World.setCell _ _ _ = WS
            have HR := Lib.hid (run_end (w := w2) hS q0 q1 q2 q3 q4 q5 hcur (Nat.le_trans (Nat.le_refl _) hz) ql HO3.out HK3.out (by have hd0 : (World.drew w2).heap.size = w2.heap.size := rfl; omega) (by have hd0 : (World.drew w2).heap.size = w2.heap.size := rfl; omega) (by have hd0 : (World.drew w2).heap.size = w2.heap.size := rfl; omega) HO4.out HK4.out HN4.out (by have hd0 : (World.drew w2).heap.size = w2.heap.size := rfl; omega) HO5.out HK5.out HN5.out (by have hd0 : (World.drew w2).heap.size = w2.heap.size := rfl; omega) HO6.out HK6.out HN6.out (by have hd0 : (World.drew w2).heap.size = w2.heap.size := rfl; omega) (by have := HFR.out; omega) (by have := HFR.out; omega) (by have := HFR.out; omega) (by have := HLN.out; omega) (by have := HLN.out; omega) (by have := HLN.out; omega))
            refine hK _ _ HR.out.bel (fun hcur => ?_)
            clear hK K hS
            apply mix_pure _ rfl
            · intro w' hw'
              have hcr := hw'.cells
              go_simp
              rfl
            intro K hK
            go_simp
            refine hK _ ?_
            clear hK K
            apply mix_pure _ rfl
            · intro w' hw'
              have hcr := hw'.cells
              go_simp
              rfl
            intro K hK
            go_simp
            refine hK _ ?_
            clear hK K
            apply mix_pure _ rfl
            · intro w' hw'
              have hcr := hw'.cells
              go_simp
              rfl
            intro K hK
            go_simp
            refine hK _ ?_
            clear hK K
            refine mix_nil ?_
            go_wp2_with fail
            go_meet
            exact ⟨_, _, _, _, gd, cd, gs, cs, gp, cp, rfl, rfl, rfl, rfl, HR⟩
        · refine mix_act rfl (fun K hK => ?_)
          go_simp
          first
            | (generalize hA : World.alloc _ _ = WA
               obtain ⟨hba, ql, q0, q1, q2, q3, q4, q5, qf⟩ := alloc_box hA
               have hz := hcur.szle
               have hsa := ql
               try replace HK3 := Lib.hid (HK3.out.trans hba)
               try replace HK4 := Lib.hid (HK4.out.trans hba)
               try replace HK5 := Lib.hid (HK5.out.trans hba)
               try replace HK6 := Lib.hid (HK6.out.trans hba)
               refine hK _ _ (hcur.trans hba) (fun hcur => ?_)
               clear hK K hA hba)
            | (generalize hA : World.drew (World.alloc _ _) = WA
               obtain ⟨hba, ql, q0, q1, q2, q3, q4, q5, qf⟩ := alloc_box_drew hA
               have hz := hcur.szle
               have hsa := ql
               try replace HK3 := Lib.hid (HK3.out.trans hba)
               try replace HK4 := Lib.hid (HK4.out.trans hba)
               try replace HK5 := Lib.hid (HK5.out.trans hba)
               try replace HK6 := Lib.hid (HK6.out.trans hba)
               refine hK _ _ (hcur.trans hba) (fun hcur => ?_)
               clear hK K hA hba)
          refine mix_act rfl (fun K hK => ?_)
          go_simp
          refine (HCA1.out _ (HB.out.trans hcur)).mono ?_
          rintro e w5 ⟨V5, rfl, hst⟩
          have HO5 := Lib.hid hst.own
          have hs5 := hst.bel.szle
          have HN5 := Lib.hid hst.between
          try replace q0 := (hst.bel).cell q0
          try replace q1 := (hst.bel).cell q1
          try replace q2 := (hst.bel).cell q2
          try replace q3 := (hst.bel).cell q3
          try replace q4 := (hst.bel).cell q4
          try replace q5 := (hst.bel).cell q5
          try replace qf := fun o => ((hst.bel).frozens _ ql).trans (qf o)
          try replace ql := Nat.lt_of_lt_of_le ql (hst.bel).szle
          try replace HK3 := Lib.hid (HK3.out.trans hst.bel)
          try replace HK4 := Lib.hid (HK4.out.trans hst.bel)
          have HK5 := Lib.hid (Bel.refl w5)
          simp only []
          refine hK _ _ (hcur.trans hst.bel) (fun hcur => ?_)
          clear hK K hst
          refine mix_act rfl (fun K hK => ?_)
          go_simp
          refine (HCQ1.out _ (HB.out.trans hcur)).mono ?_
          rintro e w6 ⟨V6, rfl, hst⟩
          have HO6 := Lib.hid hst.own
          have hs6 := hst.bel.szle
          have HN6 := Lib.hid hst.between
          try replace q0 := (hst.bel).cell q0
          try replace q1 := (hst.bel).cell q1
          try replace q2 := (hst.bel).cell q2
          try replace q3 := (hst.bel).cell q3
          try replace q4 := (hst.bel).cell q4
          try replace q5 := (hst.bel).cell q5
          try replace qf := fun o => ((hst.bel).frozens _ ql).trans (qf o)
          try replace ql := Nat.lt_of_lt_of_le ql (hst.bel).szle
          try replace HK3 := Lib.hid (HK3.out.trans hst.bel)
          try replace HK4 := Lib.hid (HK4.out.trans hst.bel)
          try replace HK5 := Lib.hid (HK5.out.trans hst.bel)
          have HK6 := Lib.hid (Bel.refl w6)
          simp only []
          refine hK _ _ (hcur.trans hst.bel) (fun hcur => ?_)
          clear hK K hst
          refine mix_act rfl (fun K hK => ?_)
          unfold trapAgg
          go_simp
          generalize hS : World.setCell _ _ _ = WS
          have HR := Lib.hid (run_end (w := w2) hS q0 q1 q2 q3 q4 q5 hcur (Nat.le_trans (Nat.le_refl _) hz) ql HO3.out HK3.out (by have hd0 : (World.drew w2).heap.size = w2.heap.size := rfl; omega) (by have hd0 : (World.drew w2).heap.size = w2.heap.size := rfl; omega) (by have hd0 : (World.drew w2).heap.size = w2.heap.size := rfl; omega) HO4.out HK4.out HN4.out (by have hd0 : (World.drew w2).heap.size = w2.heap.size := rfl; omega) HO5.out HK5.out HN5.out (by have hd0 : (World.drew w2).heap.size = w2.heap.size := rfl; omega) HO6.out HK6.out HN6.out (by have hd0 : (World.drew w2).heap.size = w2.heap.size := rfl; omega) (by have := HFR.out; omega) (by have := HFR.out; omega) (by have := HFR.out; omega) (by have := HLN.out; omega) (by have := HLN.out; omega) (by have := HLN.out; omega))
          refine hK _ _ HR.out.bel (fun hcur => ?_)
          clear hK K hS
          apply mix_pure _ rfl
          · intro w' hw'
            have hcr := hw'.cells
            go_simp
            rfl
          intro K hK
          go_simp
          refine hK _ ?_
          clear hK K
          apply mix_pure _ rfl
          · intro w' hw'
            have hcr := hw'.cells
            go_simp
            rfl
          intro K hK
          go_simp
          refine hK _ ?_
          clear hK K
          apply mix_pure _ rfl
          · intro w' hw'
            have hcr := hw'.cells
            go_simp
            rfl
          intro K hK
          go_simp
          refine hK _ ?_
          clear hK K
          refine mix_nil ?_
          go_wp2_with fail
          go_meet
          exact ⟨_, _, _, _, gd, cd, gs, cs, gp, cp, rfl, rfl, rfl, rfl, HR⟩
      · refine mix_act rfl (fun K hK => ?_)
        go_simp
        first
          | (generalize hA : World.alloc _ _ = WA
             obtain ⟨hba, ql, q0, q1, q2, q3, q4, q5, qf⟩ := alloc_box hA
             have hz := hcur.szle
             have hsa := ql
             try replace HK3 := Lib.hid (HK3.out.trans hba)
             try replace HK4 := Lib.hid (HK4.out.trans hba)
             try replace HK5 := Lib.hid (HK5.out.trans hba)
             try replace HK6 := Lib.hid (HK6.out.trans hba)
             refine hK _ _ (hcur.trans hba) (fun hcur => ?_)
             clear hK K hA hba)
          | (generalize hA : World.drew (World.alloc _ _) = WA
             obtain ⟨hba, ql, q0, q1, q2, q3, q4, q5, qf⟩ := alloc_box_drew hA
             have hz := hcur.szle
             have hsa := ql
             try replace HK3 := Lib.hid (HK3.out.trans hba)
             try replace HK4 := Lib.hid (HK4.out.trans hba)
             try replace HK5 := Lib.hid (HK5.out.trans hba)
             try replace HK6 := Lib.hid (HK6.out.trans hba)
             refine hK _ _ (hcur.trans hba) (fun hcur => ?_)
             clear hK K hA hba)
        refine mix_act rfl (fun K hK => ?_)
        go_simp
        refine (HWA1.out _ (HB.out.trans hcur)).mono ?_
        rintro e w4 ⟨V4, rfl, hst⟩
        have HO4 := Lib.hid hst.own
        have hs4 := hst.bel.szle
        have HN4 := Lib.hid hst.between
        try replace q0 := (hst.bel).cell q0
        try replace q1 := (hst.bel).cell q1
        try replace q2 := (hst.bel).cell q2
        try replace q3 := (hst.bel).cell q3
        try replace q4 := (hst.bel).cell q4
        try replace q5 := (hst.bel).cell q5
        try replace qf := fun o => ((hst.bel).frozens _ ql).trans (qf o)
        try replace ql := Nat.lt_of_lt_of_le ql (hst.bel).szle
        try replace HK3 := Lib.hid (HK3.out.trans hst.bel)
        have HK4 := Lib.hid (Bel.refl w4)
        simp only []
        refine hK _ _ (hcur.trans hst.bel) (fun hcur => ?_)
        clear hK K hst
        refine mix_act rfl (fun K hK => ?_)
        go_simp
        refine (HCA1.out _ (HB.out.trans hcur)).mono ?_
        rintro e w5 ⟨V5, rfl, hst⟩
        have HO5 := Lib.hid hst.own
        have hs5 := hst.bel.szle
        have HN5 := Lib.hid hst.between
        try replace q0 := (hst.bel).cell q0
        try replace q1 := (hst.bel).cell q1
        try replace q2 := (hst.bel).cell q2
        try replace q3 := (hst.bel).cell q3
        try replace q4 := (hst.bel).cell q4
        try replace q5 := (hst.bel).cell q5
        try replace qf := fun o => ((hst.bel).frozens _ ql).trans (qf o)
        try replace ql := Nat.lt_of_lt_of_le ql (hst.bel).szle
        try replace HK3 := Lib.hid (HK3.out.trans hst.bel)
        try replace HK4 := Lib.hid (HK4.out.trans hst.bel)
        have HK5 := Lib.hid (Bel.refl w5)
        simp only []
        refine hK _ _ (hcur.trans hst.bel) (fun hcur => ?_)
        clear hK K hst
        refine mix_act rfl (fun K hK => ?_)
        go_simp
        refine (HCQ1.out _ (HB.out.trans hcur)).mono ?_
        rintro e w6 ⟨V6, rfl, hst⟩
        have HO6 := Lib.hid hst.own
        have hs6 := hst.bel.szle
        have HN6 := Lib.hid hst.between
        try replace q0 := (hst.bel).cell q0
        try replace q1 := (hst.bel).cell q1
        try replace q2 := (hst.bel).cell q2
        try replace q3 := (hst.bel).cell q3
        try replace q4 := (hst.bel).cell q4
        try replace q5 := (hst.bel).cell q5
        try replace qf := fun o => ((hst.bel).frozens _ ql).trans (qf o)
        try replace ql := Nat.lt_of_lt_of_le ql (hst.bel).szle
        try replace HK3 := Lib.hid (HK3.out.trans hst.bel)
        try replace HK4 := Lib.hid (HK4.out.trans hst.bel)
        try replace HK5 := Lib.hid (HK5.out.trans hst.bel)
        have HK6 := Lib.hid (Bel.refl w6)
        simp only []
        refine hK _ _ (hcur.trans hst.bel) (fun hcur => ?_)
        clear hK K hst
        refine mix_act rfl (fun K hK => ?_)
        unfold trapAgg
        go_simp
        generalize hS : World.setCell _ _ _ = WS
        have HR := Lib.hid (run_end (w := w2) hS q0 q1 q2 q3 q4 q5 hcur (Nat.le_trans (Nat.le_refl _) hz) ql HO3.out HK3.out (by have hd0 : (World.drew w2).heap.size = w2.heap.size := rfl; omega) (by have hd0 : (World.drew w2).heap.size = w2.heap.size := rfl; omega) (by have hd0 : (World.drew w2).heap.size = w2.heap.size := rfl; omega) HO4.out HK4.out HN4.out (by have hd0 : (World.drew w2).heap.size = w2.heap.size := rfl; omega) HO5.out HK5.out HN5.out (by have hd0 : (World.drew w2).heap.size = w2.heap.size := rfl; omega) HO6.out HK6.out HN6.out (by have hd0 : (World.drew w2).heap.size = w2.heap.size := rfl; omega) (by have := HFR.out; omega) (by have := HFR.out; omega) (by have := HFR.out; omega) (by have := HLN.out; omega) (by have := HLN.out; omega) (by have := HLN.out; omega))
        refine hK _ _ HR.out.bel (fun hcur => ?_)
        clear hK K hS
        apply mix_pure _ rfl
        · intro w' hw'
          have hcr := hw'.cells
          go_simp
          rfl
        intro K hK
        go_simp
        refine hK _ ?_
        clear hK K
        apply mix_pure _ rfl
        · intro w' hw'
          have hcr := hw'.cells
          go_simp
          rfl
        intro K hK
        go_simp
        refine hK _ ?_
        clear hK K
        apply mix_pure _ rfl
        · intro w' hw'
          have hcr := hw'.cells
          go_simp
          rfl
        intro K hK
        go_simp
        refine hK _ ?_
        clear hK K
        refine mix_nil ?_
        go_wp2_with fail
        go_meet
        exact ⟨_, _, _, _, gd, cd, gs, cs, gp, cp, rfl, rfl, rfl, rfl, HR⟩
    · refine mix_act rfl (fun K hK => ?_)
      go_simp
      first
        | (generalize hA : World.alloc _ _ = WA
           obtain ⟨hba, ql, q0, q1, q2, q3, q4, q5, qf⟩ := alloc_box hA
           have hz := hcur.szle
           have hsa := ql
           try replace HK3 := Lib.hid (HK3.out.trans hba)
           try replace HK4 := Lib.hid (HK4.out.trans hba)
           try replace HK5 := Lib.hid (HK5.out.trans hba)
           try replace HK6 := Lib.hid (HK6.out.trans hba)
           refine hK _ _ (hcur.trans hba) (fun hcur => ?_)
           clear hK K hA hba)
        | (generalize hA : World.drew (World.alloc _ _) = WA
           obtain ⟨hba, ql, q0, q1, q2, q3, q4, q5, qf⟩ := alloc_box_drew hA
           have hz := hcur.szle
           have hsa := ql
           try replace HK3 := Lib.hid (HK3.out.trans hba)
           try replace HK4 := Lib.hid (HK4.out.trans hba)
           try replace HK5 := Lib.hid (HK5.out.trans hba)
           try replace HK6 := Lib.hid (HK6.out.trans hba)
           refine hK _ _ (hcur.trans hba) (fun hcur => ?_)
           clear hK K hA hba)
      refine mix_act rfl (fun K hK => ?_)
      go_simp
      refine (HCP1.out _ (HB.out.trans hcur)).mono ?_
      rintro e w3 ⟨gd, cd, gs, cs, gp, cp, rfl, hown⟩
      have HO3 := Lib.hid hown
      have hs3 := hown.bel.szle
      have hg3 := hown.hgd
      have hg4 := hown.hgs
      have hg5 := hown.hgp
      have lg3 : gp < w3.heap.size := own_lt hown.op rfl
      try replace q0 := (hown.bel).cell q0
      try replace q1 := (hown.bel).cell q1
      try replace q2 := (hown.bel).cell q2
      try replace q3 := (hown.bel).cell q3
      try replace q4 := (hown.bel).cell q4
      try replace q5 := (hown.bel).cell q5
      try replace qf := fun o => ((hown.bel).frozens _ ql).trans (qf o)
      try replace ql := Nat.lt_of_lt_of_le ql (hown.bel).szle
      have HK3 := Lib.hid (Bel.refl w3)
      simp only []
      refine hK _ _ (hcur.trans hown.bel) (fun hcur => ?_)
      clear hK K hown
      refine mix_act rfl (fun K hK => ?_)
      go_simp
      refine (HWA1.out _ (HB.out.trans hcur)).mono ?_
      rintro e w4 ⟨V4, rfl, hst⟩
      have HO4 := Lib.hid hst.own
      have hs4 := hst.bel.szle
      have HN4 := Lib.hid hst.between
      try replace q0 := (hst.bel).cell q0
      try replace q1 := (hst.bel).cell q1
      try replace q2 := (hst.bel).cell q2
      try replace q3 := (hst.bel).cell q3
      try replace q4 := (hst.bel).cell q4
      try replace q5 := (hst.bel).cell q5
      try replace qf := fun o => ((hst.bel).frozens _ ql).trans (qf o)
      try replace ql := Nat.lt_of_lt_of_le ql (hst.bel).szle
      try replace HK3 := Lib.hid (HK3.out.trans hst.bel)
      have HK4 := Lib.hid (Bel.refl w4)
      simp only []
      refine hK _ _ (hcur.trans hst.bel) (fun hcur => ?_)
      clear hK K hst
      refine mix_act rfl (fun K hK => ?_)
      go_simp
      refine (HCA1.out _ (HB.out.trans hcur)).mono ?_
      rintro e w5 ⟨V5, rfl, hst⟩
      have HO5 := Lib.hid hst.own
      have hs5 := hst.bel.szle
      have HN5 := Lib.hid hst.between
      try replace q0 := (hst.bel).cell q0
      try replace q1 := (hst.bel).cell q1
      try replace q2 := (hst.bel).cell q2
      try replace q3 := (hst.bel).cell q3
      try replace q4 := (hst.bel).cell q4
      try replace q5 := (hst.bel).cell q5
      try replace qf := fun o => ((hst.bel).frozens _ ql).trans (qf o)
      try replace ql := Nat.lt_of_lt_of_le ql (hst.bel).szle
      try replace HK3 := Lib.hid (HK3.out.trans hst.bel)
      try replace HK4 := Lib.hid (HK4.out.trans hst.bel)
      have HK5 := Lib.hid (Bel.refl w5)
      simp only []
      refine hK _ _ (hcur.trans hst.bel) (fun hcur => ?_)
      clear hK K hst
      refine mix_act rfl (fun K hK => ?_)
      go_simp
      refine (HCQ1.out _ (HB.out.trans hcur)).mono ?_
      rintro e w6 ⟨V6, rfl, hst⟩
      have HO6 := Lib.hid hst.own
      have hs6 := hst.bel.szle
      have HN6 := Lib.hid hst.between
      try replace q0 := (hst.bel).cell q0
      try replace q1 := (hst.bel).cell q1
      try replace q2 := (hst.bel).cell q2
      try replace q3 := (hst.bel).cell q3
      try replace q4 := (hst.bel).cell q4
      try replace q5 := (hst.bel).cell q5
      try replace qf := fun o => ((hst.bel).frozens _ ql).trans (qf o)
      try replace ql := Nat.lt_of_lt_of_le ql (hst.bel).szle
      try replace HK3 := Lib.hid (HK3.out.trans hst.bel)
      try replace HK4 := Lib.hid (HK4.out.trans hst.bel)
      try replace HK5 := Lib.hid (HK5.out.trans hst.bel)
      have HK6 := Lib.hid (Bel.refl w6)
      simp only []
      refine hK _ _ (hcur.trans hst.bel) (fun hcur => ?_)
      clear hK K hst
      refine mix_act rfl (fun K hK => ?_)
      unfold trapAgg
      go_simp
      generalize hS : World.setCell _ _ _ = WS
      have HR := Lib.hid (run_end (w := w2) hS q0 q1 q2 q3 q4 q5 hcur (Nat.le_trans (Nat.le_refl _) hz) ql HO3.out HK3.out (by have hd0 : (World.drew w2).heap.size = w2.heap.size := rfl; omega) (by have hd0 : (World.drew w2).heap.size = w2.heap.size := rfl; omega) (by have hd0 : (World.drew w2).heap.size = w2.heap.size := rfl; omega) HO4.out HK4.out HN4.out (by have hd0 : (World.drew w2).heap.size = w2.heap.size := rfl; omega) HO5.out HK5.out HN5.out (by have hd0 : (World.drew w2).heap.size = w2.heap.size := rfl; omega) HO6.out HK6.out HN6.out (by have hd0 : (World.drew w2).heap.size = w2.heap.size := rfl; omega) (by have := HFR.out; omega) (by have := HFR.out; omega) (by have := HFR.out; omega) (by have := HLN.out; omega) (by have := HLN.out; omega) (by have := HLN.out; omega))
      refine hK _ _ HR.out.bel (fun hcur => ?_)
      clear hK K hS
      apply mix_pure _ rfl
      · intro w' hw'
        have hcr := hw'.cells
        go_simp
        rfl
      intro K hK
      go_simp
      refine hK _ ?_
      clear hK K
      apply mix_pure _ rfl
      · intro w' hw'
        have hcr := hw'.cells
        go_simp
        rfl
      intro K hK
      go_simp
      refine hK _ ?_
      clear hK K
      apply mix_pure _ rfl
      · intro w' hw'
        have hcr := hw'.cells
        go_simp
        rfl
      intro K hK
      go_simp
      refine hK _ ?_
      clear hK K
      refine mix_nil ?_
      go_wp2_with fail
      go_meet
      exact ⟨_, _, _, _, gd, cd, gs, cs, gp, cp, rfl, rfl, rfl, rfl, HR⟩
  case rest =>
    obtain ⟨lv, av, pv, p, gd, cd, gs, cs, gp, cp, rfl, rfl, rfl, rfl, HR⟩ := hcut
    have HK := Lib.hid HR.out.bel
    replace HY := Lib.hid (HY.out.bel HK.out)
    replace HB := Lib.hid (HB.out.trans HK.out)
    replace z0 := HK.out.cell z0
    replace z1 := HK.out.cell z1
    replace z2 := HK.out.cell z2
    replace z3 := HK.out.cell z3
    clear lz
    have lz := cell_lt z0
    clear y0 y1 y2 y3 y4 y5 ly
    obtain ⟨y0, y1, y2, y3, y4, y5⟩ := HY.out
    have ly := cell_lt y0
    have lo := HR.out.lt
    have o0 := HR.out.c0
    have o1 := HR.out.c1
    have o2 := HR.out.c2
    have o3 := HR.out.c3
    have o4 := HR.out.c4
    have o5 := HR.out.c5
    have HT := Lib.hid HR.out.trap
    have HS := Lib.hid HR.out.st
    have HA := Lib.hid HR.out.an
    have HP := Lib.hid HR.out.pl
    clear HR HK HCP1 HWA1 HCA1 HCQ1
    unfold trapAgg at HT
    generalize chkT b = ck at *
    generalize moveE b ps n = me at *
    generalize moveL b ps n = ml at *
    generalize runAt b l n = ra at *
    generalize runLost b l n = rl at *
    generalize runAns b l n = rn at *
    generalize runE b l n = re at *
    generalize aftE b l ans = ae at *
    generalize aftL b l ans = al at *
    go_wp2
    refine wp_region_mixB (Plan.seq [0, 2, 1001, 1003, 4] .nil) (by kernel_rfl) (by kernel_rfl) (fun hcur => ?_)
    simp only [Plan.seq, Plan.fill, List.getD_cons_zero, List.getD_cons_succ, Nat.reduceLT, ↓reduceIte, Nat.reduceSub]
    apply mix_pure _ rfl
    · intro w' hw'
      have hcr := hw'.cells
      go_simp
      rfl
    intro K hK
    go_simp
    refine hK _ ?_
    clear hK K
    apply mix_pure _ rfl
    · intro w' hw'
      have hcr := hw'.cells
      go_simp
      rfl
    intro K hK
    go_simp
    refine hK _ ?_
    clear hK K
    refine mix_act rfl (fun K hK => ?_)
    go_simp
    refine (HBK.out _ _ (HT.out.bel hcur)).mono ?_
    rintro e w10 ⟨rfl, hb⟩
    simp only []
    refine hK _ _ (hcur.trans hb) (fun hcur => ?_)
    clear hK K hb
    refine mix_act rfl (fun K hK => ?_)
    go_simp
    refine (HCK.out _ (HB.out.trans hcur)).mono ?_
    rintro e w11 ⟨rfl, hb⟩
    simp only []
    refine hK _ _ (hcur.trans hb) (fun hcur => ?_)
    clear hK K hb
    apply mix_pure _ rfl
    · intro w' hw'
      have hcr := hw'.cells
      go_simp
      rfl
    intro K hK
    go_simp
    refine hK _ ?_
    clear hK K
    refine mix_nil ?_
    have HK := Lib.hid (show Bel wc w11 from Bel.trans (by repeat (first | assumption | exact Bel.refl _ | refine Bel.drew ?_ | refine Bel.drewN ?_ _ | refine Bel.alloc ?_ _ | refine Bel.setCell ?_ (by simp <;> omega) _ | refine Bel.trans ?_ (by assumption))) hcur)
    clear hcur
    replace HY := Lib.hid (HY.out.bel HK.out)
    replace HB := Lib.hid (HB.out.trans HK.out)
    replace HT := Lib.hid (HT.out.bel HK.out)
    replace HS := Lib.hid (HS.out.bel HK.out)
    replace HA := Lib.hid (HA.out.bel HK.out)
    replace HP := Lib.hid (HP.out.bel HK.out)
    replace z0 := HK.out.cell z0
    replace z1 := HK.out.cell z1
    replace z2 := HK.out.cell z2
    replace z3 := HK.out.cell z3
    replace o0 := HK.out.cell o0
    replace o1 := HK.out.cell o1
    replace o2 := HK.out.cell o2
    replace o3 := HK.out.cell o3
    replace o4 := HK.out.cell o4
    replace o5 := HK.out.cell o5
    clear lz
    have lz := cell_lt z0
    clear lo
    have lo := cell_lt o0
    clear y0 y1 y2 y3 y4 y5 ly
    obtain ⟨y0, y1, y2, y3, y4, y5⟩ := HY.out
    have ly := cell_lt y0
    clear HK
    go_wp2_with fail
    refine (HBM.out _ _ _ (HT.out.bel (by repeat (first | assumption | exact Bel.refl _ | refine Bel.drew ?_ | refine Bel.drewN ?_ _ | refine Bel.alloc ?_ _ | refine Bel.setCell ?_ (by simp <;> omega) _ | refine Bel.trans ?_ (by assumption)))) (HP.out.bel (by repeat (first | assumption | exact Bel.refl _ | refine Bel.drew ?_ | refine Bel.drewN ?_ _ | refine Bel.alloc ?_ _ | refine Bel.setCell ?_ (by simp <;> omega) _ | refine Bel.trans ?_ (by assumption))))).mono ?_
    rintro e w12 ⟨V12, rfl, hV, hb⟩
    have HK := Lib.hid (show Bel w11 w12 from Bel.trans (by repeat (first | assumption | exact Bel.refl _ | refine Bel.drew ?_ | refine Bel.drewN ?_ _ | refine Bel.alloc ?_ _ | refine Bel.setCell ?_ (by simp <;> omega) _ | refine Bel.trans ?_ (by assumption))) hb)
    replace HY := Lib.hid (HY.out.bel HK.out)
    replace HB := Lib.hid (HB.out.trans HK.out)
    replace HT := Lib.hid (HT.out.bel HK.out)
    replace HS := Lib.hid (HS.out.bel HK.out)
    replace HA := Lib.hid (HA.out.bel HK.out)
    replace HP := Lib.hid (HP.out.bel HK.out)
    replace z0 := HK.out.cell z0
    replace z1 := HK.out.cell z1
    replace z2 := HK.out.cell z2
    replace z3 := HK.out.cell z3
    replace o0 := HK.out.cell o0
    replace o1 := HK.out.cell o1
    replace o2 := HK.out.cell o2
    replace o3 := HK.out.cell o3
    replace o4 := HK.out.cell o4
    replace o5 := HK.out.cell o5
    clear lz
    have lz := cell_lt z0
    clear lo
    have lo := cell_lt o0
    clear y0 y1 y2 y3 y4 y5 ly
    obtain ⟨y0, y1, y2, y3, y4, y5⟩ := HY.out
    have ly := cell_lt y0
    have HI1 := Lib.hid hV
    clear hV
    clear hb HK
    go_wp2_with fail
    refine (HMO.out _ (HB.out.trans (by repeat (first | assumption | exact Bel.refl _ | refine Bel.drew ?_ | refine Bel.drewN ?_ _ | refine Bel.alloc ?_ _ | refine Bel.setCell ?_ (by simp <;> omega) _ | refine Bel.trans ?_ (by assumption))))).mono ?_
    rintro e w13 ⟨V13, rfl, hV, hb⟩
    have HK := Lib.hid (show Bel w12 w13 from Bel.trans (by repeat (first | assumption | exact Bel.refl _ | refine Bel.drew ?_ | refine Bel.drewN ?_ _ | refine Bel.alloc ?_ _ | refine Bel.setCell ?_ (by simp <;> omega) _ | refine Bel.trans ?_ (by assumption))) hb)
    replace HY := Lib.hid (HY.out.bel HK.out)
    replace HB := Lib.hid (HB.out.trans HK.out)
    replace HT := Lib.hid (HT.out.bel HK.out)
    replace HS := Lib.hid (HS.out.bel HK.out)
    replace HA := Lib.hid (HA.out.bel HK.out)
    replace HP := Lib.hid (HP.out.bel HK.out)
    replace HI1 := Lib.hid (HI1.out.bel HK.out)
    replace z0 := HK.out.cell z0
    replace z1 := HK.out.cell z1
    replace z2 := HK.out.cell z2
    replace z3 := HK.out.cell z3
    replace o0 := HK.out.cell o0
    replace o1 := HK.out.cell o1
    replace o2 := HK.out.cell o2
    replace o3 := HK.out.cell o3
    replace o4 := HK.out.cell o4
    replace o5 := HK.out.cell o5
    clear lz
    have lz := cell_lt z0
    clear lo
    have lo := cell_lt o0
    clear y0 y1 y2 y3 y4 y5 ly
    obtain ⟨y0, y1, y2, y3, y4, y5⟩ := HY.out
    have ly := cell_lt y0
    have HI2 := Lib.hid hV
    clear hV
    clear hb HK
    go_wp2_with fail
    refine (HSI.out _ _ _ _ (HI1.out.bel (by repeat (first | assumption | exact Bel.refl _ | refine Bel.drew ?_ | refine Bel.drewN ?_ _ | refine Bel.alloc ?_ _ | refine Bel.setCell ?_ (by simp <;> omega) _ | refine Bel.trans ?_ (by assumption)))) (HI2.out.bel (by repeat (first | assumption | exact Bel.refl _ | refine Bel.drew ?_ | refine Bel.drewN ?_ _ | refine Bel.alloc ?_ _ | refine Bel.setCell ?_ (by simp <;> omega) _ | refine Bel.trans ?_ (by assumption))))).mono ?_
    rintro e w14 ⟨rfl, hb⟩
    have HK := Lib.hid (show Bel w13 w14 from Bel.trans (by repeat (first | assumption | exact Bel.refl _ | refine Bel.drew ?_ | refine Bel.drewN ?_ _ | refine Bel.alloc ?_ _ | refine Bel.setCell ?_ (by simp <;> omega) _ | refine Bel.trans ?_ (by assumption))) hb)
    replace HY := Lib.hid (HY.out.bel HK.out)
    replace HB := Lib.hid (HB.out.trans HK.out)
    replace HT := Lib.hid (HT.out.bel HK.out)
    replace HS := Lib.hid (HS.out.bel HK.out)
    replace HA := Lib.hid (HA.out.bel HK.out)
    replace HP := Lib.hid (HP.out.bel HK.out)
    replace HI1 := Lib.hid (HI1.out.bel HK.out)
    replace HI2 := Lib.hid (HI2.out.bel HK.out)
    replace z0 := HK.out.cell z0
    replace z1 := HK.out.cell z1
    replace z2 := HK.out.cell z2
    replace z3 := HK.out.cell z3
    replace o0 := HK.out.cell o0
    replace o1 := HK.out.cell o1
    replace o2 := HK.out.cell o2
    replace o3 := HK.out.cell o3
    replace o4 := HK.out.cell o4
    replace o5 := HK.out.cell o5
    clear lz
    have lz := cell_lt z0
    clear lo
    have lo := cell_lt o0
    clear y0 y1 y2 y3 y4 y5 ly
    obtain ⟨y0, y1, y2, y3, y4, y5⟩ := HY.out
    have ly := cell_lt y0
    clear hb HK
    clear HI1 HI2
    go_wp2_with fail
    refine (HBR.out _ _ _ (HT.out.bel (by repeat (first | assumption | exact Bel.refl _ | refine Bel.drew ?_ | refine Bel.drewN ?_ _ | refine Bel.alloc ?_ _ | refine Bel.setCell ?_ (by simp <;> omega) _ | refine Bel.trans ?_ (by assumption)))) (HS.out.bel (by repeat (first | assumption | exact Bel.refl _ | refine Bel.drew ?_ | refine Bel.drewN ?_ _ | refine Bel.alloc ?_ _ | refine Bel.setCell ?_ (by simp <;> omega) _ | refine Bel.trans ?_ (by assumption))))).mono ?_
    rintro e w15 ⟨V15, rfl, hV, hb⟩
    have HK := Lib.hid (show Bel w14 w15 from Bel.trans (by repeat (first | assumption | exact Bel.refl _ | refine Bel.drew ?_ | refine Bel.drewN ?_ _ | refine Bel.alloc ?_ _ | refine Bel.setCell ?_ (by simp <;> omega) _ | refine Bel.trans ?_ (by assumption))) hb)
    replace HY := Lib.hid (HY.out.bel HK.out)
    replace HB := Lib.hid (HB.out.trans HK.out)
    replace HT := Lib.hid (HT.out.bel HK.out)
    replace HS := Lib.hid (HS.out.bel HK.out)
    replace HA := Lib.hid (HA.out.bel HK.out)
    replace HP := Lib.hid (HP.out.bel HK.out)
    replace z0 := HK.out.cell z0
    replace z1 := HK.out.cell z1
    replace z2 := HK.out.cell z2
    replace z3 := HK.out.cell z3
    replace o0 := HK.out.cell o0
    replace o1 := HK.out.cell o1
    replace o2 := HK.out.cell o2
    replace o3 := HK.out.cell o3
    replace o4 := HK.out.cell o4
    replace o5 := HK.out.cell o5
    clear lz
    have lz := cell_lt z0
    clear lo
    have lo := cell_lt o0
    clear y0 y1 y2 y3 y4 y5 ly
    obtain ⟨y0, y1, y2, y3, y4, y5⟩ := HY.out
    have ly := cell_lt y0
    have HI3 := Lib.hid hV
    clear hV
    clear hb HK
    go_wp2_with fail
    refine (HRU.out _ (HB.out.trans (by repeat (first | assumption | exact Bel.refl _ | refine Bel.drew ?_ | refine Bel.drewN ?_ _ | refine Bel.alloc ?_ _ | refine Bel.setCell ?_ (by simp <;> omega) _ | refine Bel.trans ?_ (by assumption))))).mono ?_
    rintro e w16 ⟨V16, rfl, hV, hb⟩
    have HK := Lib.hid (show Bel w15 w16 from Bel.trans (by repeat (first | assumption | exact Bel.refl _ | refine Bel.drew ?_ | refine Bel.drewN ?_ _ | refine Bel.alloc ?_ _ | refine Bel.setCell ?_ (by simp <;> omega) _ | refine Bel.trans ?_ (by assumption))) hb)
    replace HY := Lib.hid (HY.out.bel HK.out)
    replace HB := Lib.hid (HB.out.trans HK.out)
    replace HT := Lib.hid (HT.out.bel HK.out)
    replace HS := Lib.hid (HS.out.bel HK.out)
    replace HA := Lib.hid (HA.out.bel HK.out)
    replace HP := Lib.hid (HP.out.bel HK.out)
    replace HI3 := Lib.hid (HI3.out.bel HK.out)
    replace z0 := HK.out.cell z0
    replace z1 := HK.out.cell z1
    replace z2 := HK.out.cell z2
    replace z3 := HK.out.cell z3
    replace o0 := HK.out.cell o0
    replace o1 := HK.out.cell o1
    replace o2 := HK.out.cell o2
    replace o3 := HK.out.cell o3
    replace o4 := HK.out.cell o4
    replace o5 := HK.out.cell o5
    clear lz
    have lz := cell_lt z0
    clear lo
    have lo := cell_lt o0
    clear y0 y1 y2 y3 y4 y5 ly
    obtain ⟨y0, y1, y2, y3, y4, y5⟩ := HY.out
    have ly := cell_lt y0
    have HI4 := Lib.hid hV
    clear hV
    clear hb HK
    go_wp2_with fail
    refine (HSI.out _ _ _ _ (HI3.out.bel (by repeat (first | assumption | exact Bel.refl _ | refine Bel.drew ?_ | refine Bel.drewN ?_ _ | refine Bel.alloc ?_ _ | refine Bel.setCell ?_ (by simp <;> omega) _ | refine Bel.trans ?_ (by assumption)))) (HI4.out.bel (by repeat (first | assumption | exact Bel.refl _ | refine Bel.drew ?_ | refine Bel.drewN ?_ _ | refine Bel.alloc ?_ _ | refine Bel.setCell ?_ (by simp <;> omega) _ | refine Bel.trans ?_ (by assumption))))).mono ?_
    rintro e w17 ⟨rfl, hb⟩
    have HK := Lib.hid (show Bel w16 w17 from Bel.trans (by repeat (first | assumption | exact Bel.refl _ | refine Bel.drew ?_ | refine Bel.drewN ?_ _ | refine Bel.alloc ?_ _ | refine Bel.setCell ?_ (by simp <;> omega) _ | refine Bel.trans ?_ (by assumption))) hb)
    replace HY := Lib.hid (HY.out.bel HK.out)
    replace HB := Lib.hid (HB.out.trans HK.out)
    replace HT := Lib.hid (HT.out.bel HK.out)
    replace HS := Lib.hid (HS.out.bel HK.out)
    replace HA := Lib.hid (HA.out.bel HK.out)
    replace HP := Lib.hid (HP.out.bel HK.out)
    replace HI3 := Lib.hid (HI3.out.bel HK.out)
    replace HI4 := Lib.hid (HI4.out.bel HK.out)
    replace z0 := HK.out.cell z0
    replace z1 := HK.out.cell z1
    replace z2 := HK.out.cell z2
    replace z3 := HK.out.cell z3
    replace o0 := HK.out.cell o0
    replace o1 := HK.out.cell o1
    replace o2 := HK.out.cell o2
    replace o3 := HK.out.cell o3
    replace o4 := HK.out.cell o4
    replace o5 := HK.out.cell o5
    clear lz
    have lz := cell_lt z0
    clear lo
    have lo := cell_lt o0
    clear y0 y1 y2 y3 y4 y5 ly
    obtain ⟨y0, y1, y2, y3, y4, y5⟩ := HY.out
    have ly := cell_lt y0
    clear hb HK
    clear HI3 HI4
    go_wp2_with fail
    refine (HBA.out _ _ _ _ (HT.out.bel (by repeat (first | assumption | exact Bel.refl _ | refine Bel.drew ?_ | refine Bel.drewN ?_ _ | refine Bel.alloc ?_ _ | refine Bel.setCell ?_ (by simp <;> omega) _ | refine Bel.trans ?_ (by assumption)))) (HS.out.bel (by repeat (first | assumption | exact Bel.refl _ | refine Bel.drew ?_ | refine Bel.drewN ?_ _ | refine Bel.alloc ?_ _ | refine Bel.setCell ?_ (by simp <;> omega) _ | refine Bel.trans ?_ (by assumption)))) (HA.out.bel (by repeat (first | assumption | exact Bel.refl _ | refine Bel.drew ?_ | refine Bel.drewN ?_ _ | refine Bel.alloc ?_ _ | refine Bel.setCell ?_ (by simp <;> omega) _ | refine Bel.trans ?_ (by assumption))))).mono ?_
    rintro e w18 ⟨V18, rfl, hV, hb⟩
    have HK := Lib.hid (show Bel w17 w18 from Bel.trans (by repeat (first | assumption | exact Bel.refl _ | refine Bel.drew ?_ | refine Bel.drewN ?_ _ | refine Bel.alloc ?_ _ | refine Bel.setCell ?_ (by simp <;> omega) _ | refine Bel.trans ?_ (by assumption))) hb)
    replace HY := Lib.hid (HY.out.bel HK.out)
    replace HB := Lib.hid (HB.out.trans HK.out)
    replace HT := Lib.hid (HT.out.bel HK.out)
    replace HS := Lib.hid (HS.out.bel HK.out)
    replace HA := Lib.hid (HA.out.bel HK.out)
    replace HP := Lib.hid (HP.out.bel HK.out)
    replace z0 := HK.out.cell z0
    replace z1 := HK.out.cell z1
    replace z2 := HK.out.cell z2
    replace z3 := HK.out.cell z3
    replace o0 := HK.out.cell o0
    replace o1 := HK.out.cell o1
    replace o2 := HK.out.cell o2
    replace o3 := HK.out.cell o3
    replace o4 := HK.out.cell o4
    replace o5 := HK.out.cell o5
    clear lz
    have lz := cell_lt z0
    clear lo
    have lo := cell_lt o0
    clear y0 y1 y2 y3 y4 y5 ly
    obtain ⟨y0, y1, y2, y3, y4, y5⟩ := HY.out
    have ly := cell_lt y0
    have HI5 := Lib.hid hV
    clear hV
    clear hb HK
    go_wp2_with fail
    refine (HAF.out _ (HB.out.trans (by repeat (first | assumption | exact Bel.refl _ | refine Bel.drew ?_ | refine Bel.drewN ?_ _ | refine Bel.alloc ?_ _ | refine Bel.setCell ?_ (by simp <;> omega) _ | refine Bel.trans ?_ (by assumption))))).mono ?_
    rintro e w19 ⟨V19, rfl, hV, hb⟩
    have HK := Lib.hid (show Bel w18 w19 from Bel.trans (by repeat (first | assumption | exact Bel.refl _ | refine Bel.drew ?_ | refine Bel.drewN ?_ _ | refine Bel.alloc ?_ _ | refine Bel.setCell ?_ (by simp <;> omega) _ | refine Bel.trans ?_ (by assumption))) hb)
    replace HY := Lib.hid (HY.out.bel HK.out)
    replace HB := Lib.hid (HB.out.trans HK.out)
    replace HT := Lib.hid (HT.out.bel HK.out)
    replace HS := Lib.hid (HS.out.bel HK.out)
    replace HA := Lib.hid (HA.out.bel HK.out)
    replace HP := Lib.hid (HP.out.bel HK.out)
    replace HI5 := Lib.hid (HI5.out.bel HK.out)
    replace z0 := HK.out.cell z0
    replace z1 := HK.out.cell z1
    replace z2 := HK.out.cell z2
    replace z3 := HK.out.cell z3
    replace o0 := HK.out.cell o0
    replace o1 := HK.out.cell o1
    replace o2 := HK.out.cell o2
    replace o3 := HK.out.cell o3
    replace o4 := HK.out.cell o4
    replace o5 := HK.out.cell o5
    clear lz
    have lz := cell_lt z0
    clear lo
    have lo := cell_lt o0
    clear y0 y1 y2 y3 y4 y5 ly
    obtain ⟨y0, y1, y2, y3, y4, y5⟩ := HY.out
    have ly := cell_lt y0
    have HI6 := Lib.hid hV
    clear hV
    clear hb HK
    go_wp2_with fail
    refine (HSI.out _ _ _ _ (HI5.out.bel (by repeat (first | assumption | exact Bel.refl _ | refine Bel.drew ?_ | refine Bel.drewN ?_ _ | refine Bel.alloc ?_ _ | refine Bel.setCell ?_ (by simp <;> omega) _ | refine Bel.trans ?_ (by assumption)))) (HI6.out.bel (by repeat (first | assumption | exact Bel.refl _ | refine Bel.drew ?_ | refine Bel.drewN ?_ _ | refine Bel.alloc ?_ _ | refine Bel.setCell ?_ (by simp <;> omega) _ | refine Bel.trans ?_ (by assumption))))).mono ?_
    rintro e w20 ⟨rfl, hb⟩
    have HK := Lib.hid (show Bel w19 w20 from Bel.trans (by repeat (first | assumption | exact Bel.refl _ | refine Bel.drew ?_ | refine Bel.drewN ?_ _ | refine Bel.alloc ?_ _ | refine Bel.setCell ?_ (by simp <;> omega) _ | refine Bel.trans ?_ (by assumption))) hb)
    replace HY := Lib.hid (HY.out.bel HK.out)
    replace HB := Lib.hid (HB.out.trans HK.out)
    replace HT := Lib.hid (HT.out.bel HK.out)
    replace HS := Lib.hid (HS.out.bel HK.out)
    replace HA := Lib.hid (HA.out.bel HK.out)
    replace HP := Lib.hid (HP.out.bel HK.out)
    replace HI5 := Lib.hid (HI5.out.bel HK.out)
    replace HI6 := Lib.hid (HI6.out.bel HK.out)
    replace z0 := HK.out.cell z0
    replace z1 := HK.out.cell z1
    replace z2 := HK.out.cell z2
    replace z3 := HK.out.cell z3
    replace o0 := HK.out.cell o0
    replace o1 := HK.out.cell o1
    replace o2 := HK.out.cell o2
    replace o3 := HK.out.cell o3
    replace o4 := HK.out.cell o4
    replace o5 := HK.out.cell o5
    clear lz
    have lz := cell_lt z0
    clear lo
    have lo := cell_lt o0
    clear y0 y1 y2 y3 y4 y5 ly
    obtain ⟨y0, y1, y2, y3, y4, y5⟩ := HY.out
    have ly := cell_lt y0
    clear hb HK
    clear HI5 HI6
    go_wp2_with fail
    refine (HSA.out _ _ (HB.out.trans (by repeat (first | assumption | exact Bel.refl _ | refine Bel.drew ?_ | refine Bel.drewN ?_ _ | refine Bel.alloc ?_ _ | refine Bel.setCell ?_ (by simp <;> omega) _ | refine Bel.trans ?_ (by assumption)))) (HT.out.bel (by repeat (first | assumption | exact Bel.refl _ | refine Bel.drew ?_ | refine Bel.drewN ?_ _ | refine Bel.alloc ?_ _ | refine Bel.setCell ?_ (by simp <;> omega) _ | refine Bel.trans ?_ (by assumption))))).mono ?_
    rintro e w21 ⟨rfl, hb⟩
    have HK := Lib.hid (show Bel w20 w21 from Bel.trans (by repeat (first | assumption | exact Bel.refl _ | refine Bel.drew ?_ | refine Bel.drewN ?_ _ | refine Bel.alloc ?_ _ | refine Bel.setCell ?_ (by simp <;> omega) _ | refine Bel.trans ?_ (by assumption))) hb)
    replace HY := Lib.hid (HY.out.bel HK.out)
    replace HB := Lib.hid (HB.out.trans HK.out)
    replace HT := Lib.hid (HT.out.bel HK.out)
    replace HS := Lib.hid (HS.out.bel HK.out)
    replace HA := Lib.hid (HA.out.bel HK.out)
    replace HP := Lib.hid (HP.out.bel HK.out)
    replace z0 := HK.out.cell z0
    replace z1 := HK.out.cell z1
    replace z2 := HK.out.cell z2
    replace z3 := HK.out.cell z3
    replace o0 := HK.out.cell o0
    replace o1 := HK.out.cell o1
    replace o2 := HK.out.cell o2
    replace o3 := HK.out.cell o3
    replace o4 := HK.out.cell o4
    replace o5 := HK.out.cell o5
    clear lz
    have lz := cell_lt z0
    clear lo
    have lo := cell_lt o0
    clear y0 y1 y2 y3 y4 y5 ly
    obtain ⟨y0, y1, y2, y3, y4, y5⟩ := HY.out
    have ly := cell_lt y0
    clear hb HK
    go_wp2_with fail
    refine (HSS.out _ _ (HB.out.trans (by repeat (first | assumption | exact Bel.refl _ | refine Bel.drew ?_ | refine Bel.drewN ?_ _ | refine Bel.alloc ?_ _ | refine Bel.setCell ?_ (by simp <;> omega) _ | refine Bel.trans ?_ (by assumption)))) (HS.out.bel (by repeat (first | assumption | exact Bel.refl _ | refine Bel.drew ?_ | refine Bel.drewN ?_ _ | refine Bel.alloc ?_ _ | refine Bel.setCell ?_ (by simp <;> omega) _ | refine Bel.trans ?_ (by assumption))))).mono ?_
    rintro e w22 ⟨rfl, hb⟩
    have HK := Lib.hid (show Bel w21 w22 from Bel.trans (by repeat (first | assumption | exact Bel.refl _ | refine Bel.drew ?_ | refine Bel.drewN ?_ _ | refine Bel.alloc ?_ _ | refine Bel.setCell ?_ (by simp <;> omega) _ | refine Bel.trans ?_ (by assumption))) hb)
    replace HY := Lib.hid (HY.out.bel HK.out)
    replace HB := Lib.hid (HB.out.trans HK.out)
    replace HT := Lib.hid (HT.out.bel HK.out)
    replace HS := Lib.hid (HS.out.bel HK.out)
    replace HA := Lib.hid (HA.out.bel HK.out)
    replace HP := Lib.hid (HP.out.bel HK.out)
    replace z0 := HK.out.cell z0
    replace z1 := HK.out.cell z1
    replace z2 := HK.out.cell z2
    replace z3 := HK.out.cell z3
    replace o0 := HK.out.cell o0
    replace o1 := HK.out.cell o1
    replace o2 := HK.out.cell o2
    replace o3 := HK.out.cell o3
    replace o4 := HK.out.cell o4
    replace o5 := HK.out.cell o5
    clear lz
    have lz := cell_lt z0
    clear lo
    have lo := cell_lt o0
    clear y0 y1 y2 y3 y4 y5 ly
    obtain ⟨y0, y1, y2, y3, y4, y5⟩ := HY.out
    have ly := cell_lt y0
    clear hb HK
    go_wp2_with fail
    refine (HS1.out _ _ (HB.out.trans (by repeat (first | assumption | exact Bel.refl _ | refine Bel.drew ?_ | refine Bel.drewN ?_ _ | refine Bel.alloc ?_ _ | refine Bel.setCell ?_ (by simp <;> omega) _ | refine Bel.trans ?_ (by assumption)))) (HA.out.bel (by repeat (first | assumption | exact Bel.refl _ | refine Bel.drew ?_ | refine Bel.drewN ?_ _ | refine Bel.alloc ?_ _ | refine Bel.setCell ?_ (by simp <;> omega) _ | refine Bel.trans ?_ (by assumption))))).mono ?_
    rintro e w23 ⟨rfl, hb⟩
    have HK := Lib.hid (show Bel w22 w23 from Bel.trans (by repeat (first | assumption | exact Bel.refl _ | refine Bel.drew ?_ | refine Bel.drewN ?_ _ | refine Bel.alloc ?_ _ | refine Bel.setCell ?_ (by simp <;> omega) _ | refine Bel.trans ?_ (by assumption))) hb)
    replace HY := Lib.hid (HY.out.bel HK.out)
    replace HB := Lib.hid (HB.out.trans HK.out)
    replace HT := Lib.hid (HT.out.bel HK.out)
    replace HS := Lib.hid (HS.out.bel HK.out)
    replace HA := Lib.hid (HA.out.bel HK.out)
    replace HP := Lib.hid (HP.out.bel HK.out)
    replace z0 := HK.out.cell z0
    replace z1 := HK.out.cell z1
    replace z2 := HK.out.cell z2
    replace z3 := HK.out.cell z3
    replace o0 := HK.out.cell o0
    replace o1 := HK.out.cell o1
    replace o2 := HK.out.cell o2
    replace o3 := HK.out.cell o3
    replace o4 := HK.out.cell o4
    replace o5 := HK.out.cell o5
    clear lz
    have lz := cell_lt z0
    clear lo
    have lo := cell_lt o0
    clear y0 y1 y2 y3 y4 y5 ly
    obtain ⟨y0, y1, y2, y3, y4, y5⟩ := HY.out
    have ly := cell_lt y0
    clear hb HK
    go_wp2_with fail
    refine (HS2.out _ _ (HB.out.trans (by repeat (first | assumption | exact Bel.refl _ | refine Bel.drew ?_ | refine Bel.drewN ?_ _ | refine Bel.alloc ?_ _ | refine Bel.setCell ?_ (by simp <;> omega) _ | refine Bel.trans ?_ (by assumption)))) (HP.out.bel (by repeat (first | assumption | exact Bel.refl _ | refine Bel.drew ?_ | refine Bel.drewN ?_ _ | refine Bel.alloc ?_ _ | refine Bel.setCell ?_ (by simp <;> omega) _ | refine Bel.trans ?_ (by assumption))))).mono ?_
    rintro e w24 ⟨rfl, hb⟩
    have HK := Lib.hid (show Bel w23 w24 from Bel.trans (by repeat (first | assumption | exact Bel.refl _ | refine Bel.drew ?_ | refine Bel.drewN ?_ _ | refine Bel.alloc ?_ _ | refine Bel.setCell ?_ (by simp <;> omega) _ | refine Bel.trans ?_ (by assumption))) hb)
    replace HY := Lib.hid (HY.out.bel HK.out)
    replace HB := Lib.hid (HB.out.trans HK.out)
    replace HT := Lib.hid (HT.out.bel HK.out)
    replace HS := Lib.hid (HS.out.bel HK.out)
    replace HA := Lib.hid (HA.out.bel HK.out)
    replace HP := Lib.hid (HP.out.bel HK.out)
    replace z0 := HK.out.cell z0
    replace z1 := HK.out.cell z1
    replace z2 := HK.out.cell z2
    replace z3 := HK.out.cell z3
    replace o0 := HK.out.cell o0
    replace o1 := HK.out.cell o1
    replace o2 := HK.out.cell o2
    replace o3 := HK.out.cell o3
    replace o4 := HK.out.cell o4
    replace o5 := HK.out.cell o5
    clear lz
    have lz := cell_lt z0
    clear lo
    have lo := cell_lt o0
    clear y0 y1 y2 y3 y4 y5 ly
    obtain ⟨y0, y1, y2, y3, y4, y5⟩ := HY.out
    have ly := cell_lt y0
    clear hb HK
    go_wp2_with fail
    refine (HWK.out _ (HB.out.trans (by repeat (first | assumption | exact Bel.refl _ | refine Bel.drew ?_ | refine Bel.drewN ?_ _ | refine Bel.alloc ?_ _ | refine Bel.setCell ?_ (by simp <;> omega) _ | refine Bel.trans ?_ (by assumption))))).mono ?_
    rintro e w25 ⟨rfl, hb⟩
    have HK := Lib.hid (show Bel w24 w25 from Bel.trans (by repeat (first | assumption | exact Bel.refl _ | refine Bel.drew ?_ | refine Bel.drewN ?_ _ | refine Bel.alloc ?_ _ | refine Bel.setCell ?_ (by simp <;> omega) _ | refine Bel.trans ?_ (by assumption))) hb)
    replace HY := Lib.hid (HY.out.bel HK.out)
    replace HB := Lib.hid (HB.out.trans HK.out)
    replace HT := Lib.hid (HT.out.bel HK.out)
    replace HS := Lib.hid (HS.out.bel HK.out)
    replace HA := Lib.hid (HA.out.bel HK.out)
    replace HP := Lib.hid (HP.out.bel HK.out)
    replace z0 := HK.out.cell z0
    replace z1 := HK.out.cell z1
    replace z2 := HK.out.cell z2
    replace z3 := HK.out.cell z3
    replace o0 := HK.out.cell o0
    replace o1 := HK.out.cell o1
    replace o2 := HK.out.cell o2
    replace o3 := HK.out.cell o3
    replace o4 := HK.out.cell o4
    replace o5 := HK.out.cell o5
    clear lz
    have lz := cell_lt z0
    clear lo
    have lo := cell_lt o0
    clear y0 y1 y2 y3 y4 y5 ly
    obtain ⟨y0, y1, y2, y3, y4, y5⟩ := HY.out
    have ly := cell_lt y0
    clear hb HK
    go_wp2
    go_ret
    exact ⟨rfl, HB.out⟩
end Go.Proofs.YtogiidkofddhaaaDoor

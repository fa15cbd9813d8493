/-
  law: BeastsCosts: with a door more Least and Blind are not greater; with a lesser cost of a door neither; Free of that door is what it would save: the call returns true for every trap, and changes nothing that was there
-/
import Derived.Test.YtogiidkofddhaaaDoorBWorks
import Derived.Test.YtogiidkofddhaaaDoorBLaw2
import Derived.Test.YtogiidkofddhaaaDoorBStage
namespace Go.Proofs.YtogiidkofddhaaaDoor
open Go Go.RowKit Go.Shelf
set_option maxHeartbeats 16000000
set_option maxRecDepth 100000
theorem BeastsCosts_any (b : BT) (v : Value) (i c : Int) (x : BD) (t : Int) (w : World) (hf : FarAt w) (hv : BTrapAt w v b) : Calls Tryd.prog 11 #[v, .agg #[.int .i64 i, .int .i64 c, .int .i64 x.a, .int .i64 x.b, .int .i64 x.cost, .int .i64 t]] w fun e w' => e = .returned (.bool true) ∧ Bel w w' := by
  have HWK := Lib.hid (fun wx (hx : Bel w wx) => works_any wx (hf.bel hx))
  have HFA := Lib.hid (fun wx (hx : Bel w wx) => hf.bel hx)
  have HV := Lib.hid (fun wx (hx : Bel w wx) => hv.bel hx)
  have HB := Lib.hid (Bel.refl w)
  have HRD := Lib.hid (fun wx (hx : Bel w wx) => bready_any b v wx (hv.bel hx))
  have HBO := Lib.hid (fun h wx (hx : Bel w wx) => both_any b h v wx (hf.bel hx) (hv.bel hx))
  have HID := Lib.hid (fun wx (hx : Bel w wx) => R6IsDoor_any b i v wx (hv.bel hx))
  have HFR := Lib.hid (fun d wx (hx : Bel w wx) => Free_any b v d wx (hf.bel hx) (hv.bel hx))
  have HCP := Lib.hid (fun h1 h2 h3 wx (hx : Bel w wx) => bCopy_any b v wx (hv.bel hx) h1 h2 h3)
  obtain ⟨da, dc, sa, sc, pa, pc, rfl, hd, hs, hp⟩ := hv.open
  have HBX := Lib.hid (fun wx hx => (BoxB.new (w := w) (b := b) (dv := .slice da b.doors.length dc) (sv := .slice sa b.seen.length sc) (pv := .slice pa b.places.length pc) (T := 25)).bel (w' := wx) hx)
  obtain ⟨db, doff, hda, hdl, _, hdc⟩ := hd.open
  have hixd := idxDoors (c := dc) hda
  have HDC := Lib.hid hdc
  clear hf hv hd hs hp hda hdc
  cases hr : readyT b
  · rw [hr] at HRD
    clear hr
    go_enter Tryd.func11, Tryd.ntmps11
    go_wp2_with fail
    refine (HRD.out _ (HB.out.trans (by repeat (first | assumption | exact Bel.refl _ | refine Bel.drew ?_ | refine Bel.drewN ?_ _ | refine Bel.alloc ?_ _ | refine Bel.setCell ?_ (by simp <;> omega) _ | refine Bel.trans ?_ (by assumption))))).mono ?_
    rintro e w1 ⟨rfl, hb⟩
    have HY := Lib.hid (HBX.out _ (Bel.trans ((Bel.refl _).alloc _) hb))
    have u0 : w1.cell? ⟨w.heap.size + 1, 0, none⟩ = some (.int .i64 i) := hb.cell ((row_facts (new_row (by simp))).1 0)
    have u1 : w1.cell? ⟨w.heap.size + 1, 1, none⟩ = some (.int .i64 c) := hb.cell ((row_facts (new_row (by simp))).1 1)
    have u2 : w1.cell? ⟨w.heap.size + 1, 2, none⟩ = some (.int .i64 x.a) := hb.cell ((row_facts (new_row (by simp))).1 2)
    have u3 : w1.cell? ⟨w.heap.size + 1, 3, none⟩ = some (.int .i64 x.b) := hb.cell ((row_facts (new_row (by simp))).1 3)
    have u4 : w1.cell? ⟨w.heap.size + 1, 4, none⟩ = some (.int .i64 x.cost) := hb.cell ((row_facts (new_row (by simp))).1 4)
    have HK0 := Lib.hid (show Bel w w1 from Bel.trans (by repeat (first | assumption | exact Bel.refl _ | refine Bel.drew ?_ | refine Bel.drewN ?_ _ | refine Bel.alloc ?_ _ | refine Bel.setCell ?_ (by simp <;> omega) _ | refine Bel.trans ?_ (by assumption))) hb)
    have lu := cell_lt u0
    replace HB := Lib.hid (HB.out.trans HK0.out)
    obtain ⟨y0, y1, y2, y3, y4, y5⟩ := HY.out
    have ly := cell_lt y0
    clear hb HK0
    go_wp2_with fail
    refine (HWK.out _ (HB.out.trans (by repeat (first | assumption | exact Bel.refl _ | refine Bel.drew ?_ | refine Bel.drewN ?_ _ | refine Bel.alloc ?_ _ | refine Bel.setCell ?_ (by simp <;> omega) _ | refine Bel.trans ?_ (by assumption))))).mono ?_
    rintro e w2 ⟨rfl, hb⟩
    have HK := Lib.hid (show Bel w1 w2 from Bel.trans (by repeat (first | assumption | exact Bel.refl _ | refine Bel.drew ?_ | refine Bel.drewN ?_ _ | refine Bel.alloc ?_ _ | refine Bel.setCell ?_ (by simp <;> omega) _ | refine Bel.trans ?_ (by assumption))) hb)
    replace HY := Lib.hid (HY.out.bel HK.out)
    replace HB := Lib.hid (HB.out.trans HK.out)
    replace u0 := HK.out.cell u0
    replace u1 := HK.out.cell u1
    replace u2 := HK.out.cell u2
    replace u3 := HK.out.cell u3
    replace u4 := HK.out.cell u4
    clear lu
    have lu := cell_lt u0
    clear y0 y1 y2 y3 y4 y5 ly
    obtain ⟨y0, y1, y2, y3, y4, y5⟩ := HY.out
    have ly := cell_lt y0
    clear hb HK
    go_wp2
    go_ret
    exact ⟨rfl, HB.out⟩
  rw [hr] at HRD
  obtain ⟨hfar, hval⟩ := readyT_iff.1 hr
  have hfr := farB_false hfar
  have hok := okb_iff.1 hval
  have n2 := hok.n2
  have HBO1 := Lib.hid (HBO.out hval)
  have HCP1 := Lib.hid (HCP.out (by omega) (by omega) (by omega))
  have HRM := Lib.hid (fun V wx h => bready_any (moreB b x) V wx h)
  have HBM := Lib.hid (fun hv V wx (hx : Bel w wx) h => both_any (moreB b x) hv V wx (HFA.out wx hx) h)
  have HVM := Lib.hid (fun (h : readyT (moreB b x) = true) => (readyT_iff.1 h).2)
  have HLM := Lib.hid (fun (h : readyT (moreB b x) = true) => moreB_law hval (readyT_iff.1 h).2)
  have HWI := Lib.hid (fun cost wx => Within_any c 0 cost wx)
  have HBC := Lib.hid (fun hv V wx (hx : Bel w wx) h => both_any (costB b i.toNat c) hv V wx (HFA.out wx hx) h)
  have HLC := Lib.hid (fun (hi : i.toNat < b.doors.length) h0 h1 => cost_law hval hi (c := c) h0 h1)
  obtain ⟨bo0, bo1, bo2, -, -, -, -⟩ := both_law hval
  obtain ⟨i3, hi3, hz3, hs3, hb3⟩ := info_parts mkDoor
  have HI3 := Lib.hid hi3
  have HZ3 := Lib.hid hz3
  have hd40 := hfr.1
  clear hr hfar hok n2 HBO HCP hi3 hz3 hdl
  have hdoor : isDoorB b i = false ∨ ∃ k : Nat, i = k ∧ k < b.doors.length ∧ isDoorB b i = true := by
    cases h : isDoorB b i
    · exact .inl rfl
    · obtain ⟨d1, d2⟩ := withinB_true.1 (show withinB i 0 ((b.doors.length : Int) - 1) = true from h)
      exact .inr ⟨i.toNat, by omega, by omega, rfl⟩
  generalize readyT (moreB b x) = rm at *
  generalize isDoorB b i = di at *
  generalize planB b = pl at *
  generalize leastV b true = m at *
  generalize leastV b false = n at *
  generalize leastV (moreB b x) true = x1 at *
  generalize leastV (moreB b x) false = x2 at *
  generalize planB (moreB b x) = mp at *
  go_enter Tryd.func11, Tryd.ntmps11
  go_wp2_with fail
  refine (HRD.out _ (HB.out.trans (by repeat (first | assumption | exact Bel.refl _ | refine Bel.drew ?_ | refine Bel.drewN ?_ _ | refine Bel.alloc ?_ _ | refine Bel.setCell ?_ (by simp <;> omega) _ | refine Bel.trans ?_ (by assumption))))).mono ?_
  rintro e w1 ⟨rfl, hb⟩
  have HY := Lib.hid (HBX.out _ (Bel.trans ((Bel.refl _).alloc _) hb))
  have u0 : w1.cell? ⟨w.heap.size + 1, 0, none⟩ = some (.int .i64 i) := hb.cell ((row_facts (new_row (by simp))).1 0)
  have u1 : w1.cell? ⟨w.heap.size + 1, 1, none⟩ = some (.int .i64 c) := hb.cell ((row_facts (new_row (by simp))).1 1)
  have u2 : w1.cell? ⟨w.heap.size + 1, 2, none⟩ = some (.int .i64 x.a) := hb.cell ((row_facts (new_row (by simp))).1 2)
  have u3 : w1.cell? ⟨w.heap.size + 1, 3, none⟩ = some (.int .i64 x.b) := hb.cell ((row_facts (new_row (by simp))).1 3)
  have u4 : w1.cell? ⟨w.heap.size + 1, 4, none⟩ = some (.int .i64 x.cost) := hb.cell ((row_facts (new_row (by simp))).1 4)
  have HK0 := Lib.hid (show Bel w w1 from Bel.trans (by repeat (first | assumption | exact Bel.refl _ | refine Bel.drew ?_ | refine Bel.drewN ?_ _ | refine Bel.alloc ?_ _ | refine Bel.setCell ?_ (by simp <;> omega) _ | refine Bel.trans ?_ (by assumption))) hb)
  have lu := cell_lt u0
  replace HB := Lib.hid (HB.out.trans HK0.out)
  obtain ⟨y0, y1, y2, y3, y4, y5⟩ := HY.out
  have ly := cell_lt y0
  clear hb HK0
  go_wp2_with fail
  refine (HBO1.out _ (HB.out.trans (by repeat (first | assumption | exact Bel.refl _ | refine Bel.drew ?_ | refine Bel.drewN ?_ _ | refine Bel.alloc ?_ _ | refine Bel.setCell ?_ (by simp <;> omega) _ | refine Bel.trans ?_ (by assumption))))).mono ?_
  rintro e w2 ⟨rfl, hb⟩
  have HK := Lib.hid (show Bel w1 w2 from Bel.trans (by repeat (first | assumption | exact Bel.refl _ | refine Bel.drew ?_ | refine Bel.drewN ?_ _ | refine Bel.alloc ?_ _ | refine Bel.setCell ?_ (by simp <;> omega) _ | refine Bel.trans ?_ (by assumption))) hb)
  replace HY := Lib.hid (HY.out.bel HK.out)
  replace HB := Lib.hid (HB.out.trans HK.out)
  replace u0 := HK.out.cell u0
  replace u1 := HK.out.cell u1
  replace u2 := HK.out.cell u2
  replace u3 := HK.out.cell u3
  replace u4 := HK.out.cell u4
  clear lu
  have lu := cell_lt u0
  clear y0 y1 y2 y3 y4 y5 ly
  obtain ⟨y0, y1, y2, y3, y4, y5⟩ := HY.out
  have ly := cell_lt y0
  clear hb HK
  go_wp2_with fail
  refine (HCP1.out _ (HB.out.trans (by repeat (first | assumption | exact Bel.refl _ | refine Bel.drew ?_ | refine Bel.drewN ?_ _ | refine Bel.alloc ?_ _ | refine Bel.setCell ?_ (by simp <;> omega) _ | refine Bel.trans ?_ (by assumption))))).mono ?_
  rintro e w3 ⟨gd, cd, gs, cs, gp, cp, rfl, hown⟩
  have HOWN := Lib.hid hown
  have lgd : gd < w3.heap.size := own_lt hown.od rfl
  have hgs := hown.hgs
  have hgp := hown.hgp
  clear hown
  have HU2 := Lib.hid (show _ ∧ _ ∧ _ ∧ _ ∧ _ from ⟨u0, u1, u2, u3, u4⟩)
  replace u0 := HOWN.out.bel.cell u0
  replace u1 := HOWN.out.bel.cell u1
  replace u2 := HOWN.out.bel.cell u2
  replace u3 := HOWN.out.bel.cell u3
  replace u4 := HOWN.out.bel.cell u4
  clear lu y0 y1 y2 y3 y4 y5 ly
  have lu := cell_lt u0
  obtain ⟨y0, y1, y2, y3, y4, y5⟩ := HY.out.bel HOWN.out.bel
  have ly := cell_lt y0
  unfold trapAgg
  go_upto_region 8 with (at_builtin; refine wpList_append_where rfl _ _ 22 rfl 43 i3 (.agg #[.int .i64 0, .int .i64 0, .int .i64 0]) 3 24 Tryd.underlying22 HI3.out HZ3.out hs3 hb3 rfl (by decide) _ b.doors.length (doorCells b.doors) rfl (ownsRow_bel HOWN.out.od (((Bel.refl w3).alloc _).alloc _)) ⟨w3.heap.size + 1, 0, none⟩ 1 1 [.int .i64 x.a, .int .i64 x.b, .int .i64 x.cost] rfl rfl (fun j u hu => by rw [addr_off, Nat.zero_add, (row_facts (new_row (by simp))).1]; simpa using hu) (fun y hy => by simp at hy; rcases hy with rfl | rfl | rfl <;> rfl) (by unfold maxLen; omega) (by omega) ?_; intro V' w4 hown hgrow hwhere; obtain ⟨g, cg, rfl, o1, of, lo, HM⟩ := more_stage rfl rfl HOWN.out (by omega) (by omega) (by omega) hown hgrow hwhere; clear hown hgrow hwhere)
  generalize hW : World.setCell _ _ _ = W4
  have HM4 : Hid (MoreSt b x w2 w3.heap.size g cg gs cs gp cp W4) := Lib.hid (by rw [← hW]; exact HM.out)
  clear hW o1 of lo HM HOWN hgs hgp
  have HK := Lib.hid HM4.out.bel
  clear u0 u1 u2 u3 u4
  obtain ⟨u0, u1, u2, u3, u4⟩ := HU2.out
  clear HU2
  replace HY := Lib.hid (HY.out.bel HK.out)
  replace HB := Lib.hid (HB.out.trans HK.out)
  replace u0 := HK.out.cell u0
  replace u1 := HK.out.cell u1
  replace u2 := HK.out.cell u2
  replace u3 := HK.out.cell u3
  replace u4 := HK.out.cell u4
  clear lu
  have lu := cell_lt u0
  clear y0 y1 y2 y3 y4 y5 ly
  obtain ⟨y0, y1, y2, y3, y4, y5⟩ := HY.out
  have ly := cell_lt y0
  obtain ⟨_, lo, o0, o1, o2, o3, o4, o5, HTM⟩ := HM4.out
  have HTM4 := Lib.hid HTM
  clear HTM HM4
  go_wp2_with fail
  refine (HRM.out _ _ HTM4.out).mono ?_
  rintro e w5 ⟨rfl, hb⟩
  have HK := Lib.hid (show Bel W4 w5 from hb)
  replace HY := Lib.hid (HY.out.bel HK.out)
  replace HB := Lib.hid (HB.out.trans HK.out)
  replace u0 := HK.out.cell u0
  replace u1 := HK.out.cell u1
  replace u2 := HK.out.cell u2
  replace u3 := HK.out.cell u3
  replace u4 := HK.out.cell u4
  clear lu
  have lu := cell_lt u0
  clear y0 y1 y2 y3 y4 y5 ly
  obtain ⟨y0, y1, y2, y3, y4, y5⟩ := HY.out
  have ly := cell_lt y0
  cases rm
  · skip
    clear o0 o1 o2 o3 o4 o5 lo hb HTM4 HBM HVM HLM
    cases pl
    · skip
      rcases hdoor with rfl | ⟨k, rfl, hk, rfl⟩
      · skip
        clear HBC HLC HWI HFR
        go_wp2
        refine wp_region_mixB (Plan.seq [0, 1, 2, 1003, 4, 5, 6, 7, 8, 9, 10, 11, 12, 13, 14, 1015, 16, 17] .nil) (by kernel_rfl) (by kernel_rfl) (fun hcur => ?_)
        simp only [Plan.seq, Plan.fill, List.getD_cons_zero, List.getD_cons_succ, Nat.reduceLT, ↓reduceIte, Nat.reduceSub]
        apply mix_pure _ rfl
        · intro w' hw'
          have hcr := hw'.cells
          go_simp
          rfl
        intro K hK
        go_simp
        refine hK _ ?_
        clear hK K
        apply mix_pure _ rfl
        · intro w' hw'
          have hcr := hw'.cells
          go_simp
          rfl
        intro K hK
        go_simp
        refine hK _ ?_
        clear hK K
        apply mix_pure _ rfl
        · intro w' hw'
          have hcr := hw'.cells
          go_simp
          rfl
        intro K hK
        go_simp
        refine hK _ ?_
        clear hK K
        refine mix_act rfl (fun K hK => ?_)
        go_simp
        refine (HID.out _ (HB.out.trans hcur)).mono ?_
        rintro e w20 ⟨rfl, hb⟩
        simp only []
        refine hK _ _ (hcur.trans hb) (fun hcur => ?_)
        clear hK K hb
        apply mix_pure _ rfl
        · intro w' hw'
          have hcr := hw'.cells
          go_simp
          rfl
        intro K hK
        go_simp
        refine hK _ ?_
        clear hK K
        apply mix_pure _ rfl
        · intro w' hw'
          have hcr := hw'.cells
          go_simp
          rfl
        intro K hK
        go_simp
        refine hK _ ?_
        clear hK K
        refine mix_skip (by go_simp) ?_
        intro K hK
        go_simp
        refine hK _ ?_
        clear hK K
        refine mix_skip (by go_simp) ?_
        intro K hK
        go_simp
        refine hK _ ?_
        clear hK K
        refine mix_skip (by go_simp) ?_
        intro K hK
        go_simp
        refine hK _ ?_
        clear hK K
        refine mix_skip (by go_simp) ?_
        intro K hK
        go_simp
        refine hK _ ?_
        clear hK K
        refine mix_skip (by go_simp) ?_
        intro K hK
        go_simp
        refine hK _ ?_
        clear hK K
        refine mix_skip (by go_simp) ?_
        intro K hK
        go_simp
        refine hK _ ?_
        clear hK K
        refine mix_skip (by go_simp) ?_
        intro K hK
        go_simp
        refine hK _ ?_
        clear hK K
        refine mix_skip (by go_simp) ?_
        intro K hK
        go_simp
        refine hK _ ?_
        clear hK K
        refine mix_skip (by go_simp) ?_
        intro K hK
        go_simp
        refine hK _ ?_
        clear hK K
        refine mix_askip (by go_simp) ?_
        intro K hK
        go_simp
        refine hK _ ?_
        clear hK K
        refine mix_skip (by go_simp) ?_
        intro K hK
        go_simp
        refine hK _ ?_
        clear hK K
        apply mix_pure _ rfl
        · intro w' hw'
          have hcr := hw'.cells
          go_simp
          rfl
        intro K hK
        go_simp
        refine hK _ ?_
        clear hK K
        refine mix_nil ?_
        have HK := Lib.hid (show Bel w5 w20 from Bel.trans (by repeat (first | assumption | exact Bel.refl _ | refine Bel.drew ?_ | refine Bel.drewN ?_ _ | refine Bel.alloc ?_ _ | refine Bel.setCell ?_ (by simp <;> omega) _ | refine Bel.trans ?_ (by assumption))) hcur)
        replace HY := Lib.hid (HY.out.bel HK.out)
        replace HB := Lib.hid (HB.out.trans HK.out)
        replace u0 := HK.out.cell u0
        replace u1 := HK.out.cell u1
        replace u2 := HK.out.cell u2
        replace u3 := HK.out.cell u3
        replace u4 := HK.out.cell u4
        clear lu
        have lu := cell_lt u0
        clear y0 y1 y2 y3 y4 y5 ly
        obtain ⟨y0, y1, y2, y3, y4, y5⟩ := HY.out
        have ly := cell_lt y0
        clear hcur HK
        go_wp2_with fail
        refine (HWK.out _ (HB.out.trans (by repeat (first | assumption | exact Bel.refl _ | refine Bel.drew ?_ | refine Bel.drewN ?_ _ | refine Bel.alloc ?_ _ | refine Bel.setCell ?_ (by simp <;> omega) _ | refine Bel.trans ?_ (by assumption))))).mono ?_
        rintro e w21 ⟨rfl, hb⟩
        have HK := Lib.hid (show Bel w20 w21 from Bel.trans (by repeat (first | assumption | exact Bel.refl _ | refine Bel.drew ?_ | refine Bel.drewN ?_ _ | refine Bel.alloc ?_ _ | refine Bel.setCell ?_ (by simp <;> omega) _ | refine Bel.trans ?_ (by assumption))) hb)
        replace HY := Lib.hid (HY.out.bel HK.out)
        replace HB := Lib.hid (HB.out.trans HK.out)
        replace u0 := HK.out.cell u0
        replace u1 := HK.out.cell u1
        replace u2 := HK.out.cell u2
        replace u3 := HK.out.cell u3
        replace u4 := HK.out.cell u4
        clear lu
        have lu := cell_lt u0
        clear y0 y1 y2 y3 y4 y5 ly
        obtain ⟨y0, y1, y2, y3, y4, y5⟩ := HY.out
        have ly := cell_lt y0
        clear hb HK
        go_wp2
        go_ret
        exact ⟨rfl, HB.out⟩
      · skip
        rw [Int.toNat_natCast] at HBC HLC
        have hki : (k : Int) < (b.doors.length : Int) := by omega
        have d2 := HB.out.cell (HDC.out k hk).2.2
        have ld := cell_lt d2
        replace HWI := Lib.hid (HWI.out (atD b.doors k).cost)
        cases hwi : withinB c 0 (atD b.doors k).cost
        · skip
          rw [hwi] at HWI
          clear hwi HBC HLC HFR
          generalize (atD b.doors k).cost = dco at *
          go_wp2
          refine wp_region_mixB (Plan.seq [0, 1, 2, 1003, 4, 5, 6, 7, 8, 9, 10, 11, 12, 13, 14, 1015, 16, 17] .nil) (by kernel_rfl) (by kernel_rfl) (fun hcur => ?_)
          simp only [Plan.seq, Plan.fill, List.getD_cons_zero, List.getD_cons_succ, Nat.reduceLT, ↓reduceIte, Nat.reduceSub]
          apply mix_pure _ rfl
          · intro w' hw'
            have hcr := hw'.cells
            go_simp
            rfl
          intro K hK
          go_simp
          refine hK _ ?_
          clear hK K
          apply mix_pure _ rfl
          · intro w' hw'
            have hcr := hw'.cells
            go_simp
            rfl
          intro K hK
          go_simp
          refine hK _ ?_
          clear hK K
          apply mix_pure _ rfl
          · intro w' hw'
            have hcr := hw'.cells
            go_simp
            rfl
          intro K hK
          go_simp
          refine hK _ ?_
          clear hK K
          refine mix_act rfl (fun K hK => ?_)
          go_simp
          refine (HID.out _ (HB.out.trans hcur)).mono ?_
          rintro e w20 ⟨rfl, hb⟩
          simp only []
          refine hK _ _ (hcur.trans hb) (fun hcur => ?_)
          clear hK K hb
          apply mix_pure _ rfl
          · intro w' hw'
            have hcr := hw'.cells
            go_simp
            rfl
          intro K hK
          go_simp
          refine hK _ ?_
          clear hK K
          apply mix_pure _ rfl
          · intro w' hw'
            have hcr := hw'.cells
            go_simp
            rfl
          intro K hK
          go_simp
          refine hK _ ?_
          clear hK K
          apply mix_pureG _ (by go_simp)
          · intro w' hw'
            have hcr := hw'.cells
            go_simp
            rfl
          intro K hK
          go_simp
          refine hK _ ?_
          clear hK K
          apply mix_pureG _ (by go_simp)
          · intro w' hw'
            have hcr := hw'.cells
            go_simp
            rfl
          intro K hK
          go_simp
          refine hK _ ?_
          clear hK K
          apply mix_pureG _ (by go_simp)
          · intro w' hw'
            have hcr := hw'.cells
            go_simp
            rfl
          intro K hK
          go_simp
          refine hK _ ?_
          clear hK K
          apply mix_pureG _ (by go_simp)
          · intro w' hw'
            have hcr := hw'.cells
            go_simp
            rfl
          intro K hK
          go_simp
          refine hK _ ?_
          clear hK K
          apply mix_pureG _ (by go_simp)
          · intro w' hw'
            have hcr := hw'.cells
            go_simp
            rfl
          intro K hK
          go_simp
          refine hK _ ?_
          clear hK K
          apply mix_pureG _ (by go_simp)
          · intro w' hw'
            have hcr := hw'.cells
            go_simp
            rfl
          intro K hK
          go_simp
          refine hK _ ?_
          clear hK K
          apply mix_pureG _ (by go_simp)
          · intro w' hw'
            have hcr := hw'.cells
            go_simp
            rfl
          intro K hK
          go_simp
          refine hK _ ?_
          clear hK K
          apply mix_pureG _ (by go_simp)
          · intro w' hw'
            have hcr := hw'.cells
            go_simp
            rfl
          intro K hK
          go_simp
          refine hK _ ?_
          clear hK K
          apply mix_pureG _ (by go_simp)
          · intro w' hw'
            have hcr := hw'.cells
            go_simp
            rfl
          intro K hK
          go_simp
          refine hK _ ?_
          clear hK K
          refine mix_actG (by go_simp) (fun K hK => ?_)
          go_simp
          refine (HWI.out _).mono ?_
          rintro e wq ⟨rfl, rfl⟩
          simp only []
          refine hK _ _ hcur (fun hcur => ?_)
          clear hK K
          apply mix_pureG _ (by go_simp)
          · intro w' hw'
            have hcr := hw'.cells
            go_simp
            rfl
          intro K hK
          go_simp
          refine hK _ ?_
          clear hK K
          apply mix_pure _ rfl
          · intro w' hw'
            have hcr := hw'.cells
            go_simp
            rfl
          intro K hK
          go_simp
          refine hK _ ?_
          clear hK K
          refine mix_nil ?_
          clear d2 ld
          have HK := Lib.hid (show Bel w5 w20 from Bel.trans (by repeat (first | assumption | exact Bel.refl _ | refine Bel.drew ?_ | refine Bel.drewN ?_ _ | refine Bel.alloc ?_ _ | refine Bel.setCell ?_ (by simp <;> omega) _ | refine Bel.trans ?_ (by assumption))) hcur)
          replace HY := Lib.hid (HY.out.bel HK.out)
          replace HB := Lib.hid (HB.out.trans HK.out)
          replace u0 := HK.out.cell u0
          replace u1 := HK.out.cell u1
          replace u2 := HK.out.cell u2
          replace u3 := HK.out.cell u3
          replace u4 := HK.out.cell u4
          clear lu
          have lu := cell_lt u0
          clear y0 y1 y2 y3 y4 y5 ly
          obtain ⟨y0, y1, y2, y3, y4, y5⟩ := HY.out
          have ly := cell_lt y0
          clear hcur HK
          go_wp2_with fail
          refine (HWK.out _ (HB.out.trans (by repeat (first | assumption | exact Bel.refl _ | refine Bel.drew ?_ | refine Bel.drewN ?_ _ | refine Bel.alloc ?_ _ | refine Bel.setCell ?_ (by simp <;> omega) _ | refine Bel.trans ?_ (by assumption))))).mono ?_
          rintro e w21 ⟨rfl, hb⟩
          have HK := Lib.hid (show Bel w20 w21 from Bel.trans (by repeat (first | assumption | exact Bel.refl _ | refine Bel.drew ?_ | refine Bel.drewN ?_ _ | refine Bel.alloc ?_ _ | refine Bel.setCell ?_ (by simp <;> omega) _ | refine Bel.trans ?_ (by assumption))) hb)
          replace HY := Lib.hid (HY.out.bel HK.out)
          replace HB := Lib.hid (HB.out.trans HK.out)
          replace u0 := HK.out.cell u0
          replace u1 := HK.out.cell u1
          replace u2 := HK.out.cell u2
          replace u3 := HK.out.cell u3
          replace u4 := HK.out.cell u4
          clear lu
          have lu := cell_lt u0
          clear y0 y1 y2 y3 y4 y5 ly
          obtain ⟨y0, y1, y2, y3, y4, y5⟩ := HY.out
          have ly := cell_lt y0
          clear hb HK
          go_wp2
          go_ret
          exact ⟨rfl, HB.out⟩
        · skip
          rw [hwi] at HWI
          obtain ⟨hw1, hw2⟩ := withinB_true.1 hwi
          obtain ⟨k1, k2, k3, k4, k5, k6⟩ := HLC.out hk hw1 hw2
          have HBC1 := Lib.hid (HBC.out k1)
          have HFR1 := Lib.hid (HFR.out k)
          rw [k2] at HBC1
          rw [k3] at HFR1
          have lz := leastV_in (b := costB b k c) (looks := true)
          clear hwi HBC HLC HFR k1 k2 k3
          clear k6
          rw [if_neg (by simp)] at HFR1
          generalize (atD b.doors k).cost = dco at *
          go_wp2
          refine wp_region_mixB (Plan.seq [0, 1, 2, 1003, 4, 5, 6, 7, 8, 9, 10, 11, 12, 13, 14, 1015, 16, 17] .nil) (by kernel_rfl) (by kernel_rfl) (fun hcur => ?_)
          simp only [Plan.seq, Plan.fill, List.getD_cons_zero, List.getD_cons_succ, Nat.reduceLT, ↓reduceIte, Nat.reduceSub]
          apply mix_pure _ rfl
          · intro w' hw'
            have hcr := hw'.cells
            go_simp
            rfl
          intro K hK
          go_simp
          refine hK _ ?_
          clear hK K
          apply mix_pure _ rfl
          · intro w' hw'
            have hcr := hw'.cells
            go_simp
            rfl
          intro K hK
          go_simp
          refine hK _ ?_
          clear hK K
          apply mix_pure _ rfl
          · intro w' hw'
            have hcr := hw'.cells
            go_simp
            rfl
          intro K hK
          go_simp
          refine hK _ ?_
          clear hK K
          refine mix_act rfl (fun K hK => ?_)
          go_simp
          refine (HID.out _ (HB.out.trans hcur)).mono ?_
          rintro e w20 ⟨rfl, hb⟩
          simp only []
          refine hK _ _ (hcur.trans hb) (fun hcur => ?_)
          clear hK K hb
          apply mix_pure _ rfl
          · intro w' hw'
            have hcr := hw'.cells
            go_simp
            rfl
          intro K hK
          go_simp
          refine hK _ ?_
          clear hK K
          apply mix_pure _ rfl
          · intro w' hw'
            have hcr := hw'.cells
            go_simp
            rfl
          intro K hK
          go_simp
          refine hK _ ?_
          clear hK K
          apply mix_pureG _ (by go_simp)
          · intro w' hw'
            have hcr := hw'.cells
            go_simp
            rfl
          intro K hK
          go_simp
          refine hK _ ?_
          clear hK K
          apply mix_pureG _ (by go_simp)
          · intro w' hw'
            have hcr := hw'.cells
            go_simp
            rfl
          intro K hK
          go_simp
          refine hK _ ?_
          clear hK K
          apply mix_pureG _ (by go_simp)
          · intro w' hw'
            have hcr := hw'.cells
            go_simp
            rfl
          intro K hK
          go_simp
          refine hK _ ?_
          clear hK K
          apply mix_pureG _ (by go_simp)
          · intro w' hw'
            have hcr := hw'.cells
            go_simp
            rfl
          intro K hK
          go_simp
          refine hK _ ?_
          clear hK K
          apply mix_pureG _ (by go_simp)
          · intro w' hw'
            have hcr := hw'.cells
            go_simp
            rfl
          intro K hK
          go_simp
          refine hK _ ?_
          clear hK K
          apply mix_pureG _ (by go_simp)
          · intro w' hw'
            have hcr := hw'.cells
            go_simp
            rfl
          intro K hK
          go_simp
          refine hK _ ?_
          clear hK K
          apply mix_pureG _ (by go_simp)
          · intro w' hw'
            have hcr := hw'.cells
            go_simp
            rfl
          intro K hK
          go_simp
          refine hK _ ?_
          clear hK K
          apply mix_pureG _ (by go_simp)
          · intro w' hw'
            have hcr := hw'.cells
            go_simp
            rfl
          intro K hK
          go_simp
          refine hK _ ?_
          clear hK K
          apply mix_pureG _ (by go_simp)
          · intro w' hw'
            have hcr := hw'.cells
            go_simp
            rfl
          intro K hK
          go_simp
          refine hK _ ?_
          clear hK K
          refine mix_actG (by go_simp) (fun K hK => ?_)
          go_simp
          refine (HWI.out _).mono ?_
          rintro e wq ⟨rfl, rfl⟩
          simp only []
          refine hK _ _ hcur (fun hcur => ?_)
          clear hK K
          apply mix_pureG _ (by go_simp)
          · intro w' hw'
            have hcr := hw'.cells
            go_simp
            rfl
          intro K hK
          go_simp
          refine hK _ ?_
          clear hK K
          apply mix_pure _ rfl
          · intro w' hw'
            have hcr := hw'.cells
            go_simp
            rfl
          intro K hK
          go_simp
          refine hK _ ?_
          clear hK K
          refine mix_nil ?_
          clear d2 ld
          have HK := Lib.hid (show Bel w5 w20 from Bel.trans (by repeat (first | assumption | exact Bel.refl _ | refine Bel.drew ?_ | refine Bel.drewN ?_ _ | refine Bel.alloc ?_ _ | refine Bel.setCell ?_ (by simp <;> omega) _ | refine Bel.trans ?_ (by assumption))) hcur)
          replace HY := Lib.hid (HY.out.bel HK.out)
          replace HB := Lib.hid (HB.out.trans HK.out)
          replace u0 := HK.out.cell u0
          replace u1 := HK.out.cell u1
          replace u2 := HK.out.cell u2
          replace u3 := HK.out.cell u3
          replace u4 := HK.out.cell u4
          clear lu
          have lu := cell_lt u0
          clear y0 y1 y2 y3 y4 y5 ly
          obtain ⟨y0, y1, y2, y3, y4, y5⟩ := HY.out
          have ly := cell_lt y0
          clear hcur HK
          go_wp2_with fail
          refine (HCP1.out _ (HB.out.trans (by repeat (first | assumption | exact Bel.refl _ | refine Bel.drew ?_ | refine Bel.drewN ?_ _ | refine Bel.alloc ?_ _ | refine Bel.setCell ?_ (by simp <;> omega) _ | refine Bel.trans ?_ (by assumption))))).mono ?_
          rintro e w21 ⟨gd, cd, gs, cs, gp, cp, rfl, hown⟩
          have HOWN := Lib.hid hown
          have HD0 := Lib.hid (DSt.first (T1 := 25) (O2 := .cells #[.int .i64 (atD b.doors k).a, .int .i64 (atD b.doors k).b, .int .i64 c] 43) rfl rfl hown hk ⟨(atD b.doors k).a, (atD b.doors k).b, c⟩)
          have lgd : gd < w21.heap.size := own_lt hown.od rfl
          obtain ⟨own1, own2, own3⟩ := own_doors hown.od
          obtain ⟨e0, e1, e2⟩ := own1 k hk
          clear own1 hown
          have hixg := idxDoors (n := b.doors.length) (c := cd) (b := gd) (off := 0) (fun _ => rfl)
          unfold trapAgg
          have HU2 := Lib.hid (show _ ∧ _ ∧ _ ∧ _ ∧ _ from ⟨u0, u1, u2, u3, u4⟩)
          replace u0 := HOWN.out.bel.cell u0
          replace u1 := HOWN.out.bel.cell u1
          replace u2 := HOWN.out.bel.cell u2
          replace u3 := HOWN.out.bel.cell u3
          replace u4 := HOWN.out.bel.cell u4
          clear lu y0 y1 y2 y3 y4 y5 ly
          have lu := cell_lt u0
          obtain ⟨y0, y1, y2, y3, y4, y5⟩ := HY.out.bel HOWN.out.bel
          have ly := cell_lt y0
          go_upto_region 18 with fail
          generalize hW : World.alloc (World.alloc (World.setCell _ _ _) _) _ = W8
          have HD8 : Hid (DSt w20 b (b.doors.set k ⟨(atD b.doors k).a, (atD b.doors k).b, c⟩) w21.heap.size gd cd gs cs gp cp b.look b.eats W8) := Lib.hid (by rw [← hW]; exact HD0.out)
          clear hW HD0 HOWN e0 e1 e2 own2 own3 lgd
          clear u0 u1 u2 u3 u4
          obtain ⟨u0, u1, u2, u3, u4⟩ := HU2.out
          clear HU2
          have HK := Lib.hid HD8.out.bel
          replace HY := Lib.hid (HY.out.bel HK.out)
          replace HB := Lib.hid (HB.out.trans HK.out)
          replace u0 := HK.out.cell u0
          replace u1 := HK.out.cell u1
          replace u2 := HK.out.cell u2
          replace u3 := HK.out.cell u3
          replace u4 := HK.out.cell u4
          clear lu
          have lu := cell_lt u0
          clear y0 y1 y2 y3 y4 y5 ly
          obtain ⟨y0, y1, y2, y3, y4, y5⟩ := HY.out
          have ly := cell_lt y0
          have lo := HD8.out.lt
          have o0 := HD8.out.c0
          have o1 := HD8.out.c1
          have o2 := HD8.out.c2
          have o3 := HD8.out.c3
          have o4 := HD8.out.c4
          have o5 := HD8.out.c5
          have HT8 : Hid (BTrapAt W8 _ (costB b k c)) := Lib.hid (HD8.out.trap (by omega) (by omega) (by omega))
          clear HD8
          generalize leastV (costB b k c) true = z1 at *
          generalize leastV (costB b k c) false = z2 at *
          generalize freeV b k = fv at *
          go_wp2_with fail
          refine (HBC1.out _ _ (HB.out.trans (by repeat (first | assumption | exact Bel.refl _ | refine Bel.drew ?_ | refine Bel.drewN ?_ _ | refine Bel.alloc ?_ _ | refine Bel.setCell ?_ (by simp <;> omega) _ | refine Bel.trans ?_ (by assumption)))) HT8.out).mono ?_
          rintro e w23 ⟨rfl, hb⟩
          have HK := Lib.hid (show Bel W8 w23 from hb)
          clear hb o0 o1 o2 o3 o4 o5 lo HT8
          replace HY := Lib.hid (HY.out.bel HK.out)
          replace HB := Lib.hid (HB.out.trans HK.out)
          replace u0 := HK.out.cell u0
          replace u1 := HK.out.cell u1
          replace u2 := HK.out.cell u2
          replace u3 := HK.out.cell u3
          replace u4 := HK.out.cell u4
          clear lu
          have lu := cell_lt u0
          clear y0 y1 y2 y3 y4 y5 ly
          obtain ⟨y0, y1, y2, y3, y4, y5⟩ := HY.out
          have ly := cell_lt y0
          go_wp2_with fail
          refine (HFR1.out _ (HB.out.trans (by repeat (first | assumption | exact Bel.refl _ | refine Bel.drew ?_ | refine Bel.drewN ?_ _ | refine Bel.alloc ?_ _ | refine Bel.setCell ?_ (by simp <;> omega) _ | refine Bel.trans ?_ (by assumption))))).mono ?_
          rintro e w24 ⟨rfl, hb⟩
          have HK := Lib.hid (show Bel w23 w24 from Bel.trans (by repeat (first | assumption | exact Bel.refl _ | refine Bel.drew ?_ | refine Bel.drewN ?_ _ | refine Bel.alloc ?_ _ | refine Bel.setCell ?_ (by simp <;> omega) _ | refine Bel.trans ?_ (by assumption))) hb)
          replace HY := Lib.hid (HY.out.bel HK.out)
          replace HB := Lib.hid (HB.out.trans HK.out)
          replace u0 := HK.out.cell u0
          replace u1 := HK.out.cell u1
          replace u2 := HK.out.cell u2
          replace u3 := HK.out.cell u3
          replace u4 := HK.out.cell u4
          clear lu
          have lu := cell_lt u0
          clear y0 y1 y2 y3 y4 y5 ly
          obtain ⟨y0, y1, y2, y3, y4, y5⟩ := HY.out
          have ly := cell_lt y0
          clear hb HK
          have c1 : ¬ m < z1 := by omega
          have c2 : ¬ n < z2 := by omega
          go_wp2_with fail
          refine (HWK.out _ (HB.out.trans (by repeat (first | assumption | exact Bel.refl _ | refine Bel.drew ?_ | refine Bel.drewN ?_ _ | refine Bel.alloc ?_ _ | refine Bel.setCell ?_ (by simp <;> omega) _ | refine Bel.trans ?_ (by assumption))))).mono ?_
          rintro e w25 ⟨rfl, hb⟩
          have HK := Lib.hid (show Bel w24 w25 from Bel.trans (by repeat (first | assumption | exact Bel.refl _ | refine Bel.drew ?_ | refine Bel.drewN ?_ _ | refine Bel.alloc ?_ _ | refine Bel.setCell ?_ (by simp <;> omega) _ | refine Bel.trans ?_ (by assumption))) hb)
          replace HY := Lib.hid (HY.out.bel HK.out)
          replace HB := Lib.hid (HB.out.trans HK.out)
          replace u0 := HK.out.cell u0
          replace u1 := HK.out.cell u1
          replace u2 := HK.out.cell u2
          replace u3 := HK.out.cell u3
          replace u4 := HK.out.cell u4
          clear lu
          have lu := cell_lt u0
          clear y0 y1 y2 y3 y4 y5 ly
          obtain ⟨y0, y1, y2, y3, y4, y5⟩ := HY.out
          have ly := cell_lt y0
          clear hb HK
          go_wp2
          go_ret
          exact ⟨rfl, HB.out⟩
    · skip
      rcases hdoor with rfl | ⟨k, rfl, hk, rfl⟩
      · skip
        clear HBC HLC HWI HFR
        go_wp2
        refine wp_region_mixB (Plan.seq [0, 1, 2, 1003, 4, 5, 6, 7, 8, 9, 10, 11, 12, 13, 14, 1015, 16, 17] .nil) (by kernel_rfl) (by kernel_rfl) (fun hcur => ?_)
        simp only [Plan.seq, Plan.fill, List.getD_cons_zero, List.getD_cons_succ, Nat.reduceLT, ↓reduceIte, Nat.reduceSub]
        apply mix_pure _ rfl
        · intro w' hw'
          have hcr := hw'.cells
          go_simp
          rfl
        intro K hK
        go_simp
        refine hK _ ?_
        clear hK K
        apply mix_pure _ rfl
        · intro w' hw'
          have hcr := hw'.cells
          go_simp
          rfl
        intro K hK
        go_simp
        refine hK _ ?_
        clear hK K
        apply mix_pure _ rfl
        · intro w' hw'
          have hcr := hw'.cells
          go_simp
          rfl
        intro K hK
        go_simp
        refine hK _ ?_
        clear hK K
        refine mix_act rfl (fun K hK => ?_)
        go_simp
        refine (HID.out _ (HB.out.trans hcur)).mono ?_
        rintro e w20 ⟨rfl, hb⟩
        simp only []
        refine hK _ _ (hcur.trans hb) (fun hcur => ?_)
        clear hK K hb
        apply mix_pure _ rfl
        · intro w' hw'
          have hcr := hw'.cells
          go_simp
          rfl
        intro K hK
        go_simp
        refine hK _ ?_
        clear hK K
        apply mix_pure _ rfl
        · intro w' hw'
          have hcr := hw'.cells
          go_simp
          rfl
        intro K hK
        go_simp
        refine hK _ ?_
        clear hK K
        refine mix_skip (by go_simp) ?_
        intro K hK
        go_simp
        refine hK _ ?_
        clear hK K
        refine mix_skip (by go_simp) ?_
        intro K hK
        go_simp
        refine hK _ ?_
        clear hK K
        refine mix_skip (by go_simp) ?_
        intro K hK
        go_simp
        refine hK _ ?_
        clear hK K
        refine mix_skip (by go_simp) ?_
        intro K hK
        go_simp
        refine hK _ ?_
        clear hK K
        refine mix_skip (by go_simp) ?_
        intro K hK
        go_simp
        refine hK _ ?_
        clear hK K
        refine mix_skip (by go_simp) ?_
        intro K hK
        go_simp
        refine hK _ ?_
        clear hK K
        refine mix_skip (by go_simp) ?_
        intro K hK
        go_simp
        refine hK _ ?_
        clear hK K
        refine mix_skip (by go_simp) ?_
        intro K hK
        go_simp
        refine hK _ ?_
        clear hK K
        refine mix_skip (by go_simp) ?_
        intro K hK
        go_simp
        refine hK _ ?_
        clear hK K
        refine mix_askip (by go_simp) ?_
        intro K hK
        go_simp
        refine hK _ ?_
        clear hK K
        refine mix_skip (by go_simp) ?_
        intro K hK
        go_simp
        refine hK _ ?_
        clear hK K
        apply mix_pure _ rfl
        · intro w' hw'
          have hcr := hw'.cells
          go_simp
          rfl
        intro K hK
        go_simp
        refine hK _ ?_
        clear hK K
        refine mix_nil ?_
        have HK := Lib.hid (show Bel w5 w20 from Bel.trans (by repeat (first | assumption | exact Bel.refl _ | refine Bel.drew ?_ | refine Bel.drewN ?_ _ | refine Bel.alloc ?_ _ | refine Bel.setCell ?_ (by simp <;> omega) _ | refine Bel.trans ?_ (by assumption))) hcur)
        replace HY := Lib.hid (HY.out.bel HK.out)
        replace HB := Lib.hid (HB.out.trans HK.out)
        replace u0 := HK.out.cell u0
        replace u1 := HK.out.cell u1
        replace u2 := HK.out.cell u2
        replace u3 := HK.out.cell u3
        replace u4 := HK.out.cell u4
        clear lu
        have lu := cell_lt u0
        clear y0 y1 y2 y3 y4 y5 ly
        obtain ⟨y0, y1, y2, y3, y4, y5⟩ := HY.out
        have ly := cell_lt y0
        clear hcur HK
        go_wp2_with fail
        refine (HWK.out _ (HB.out.trans (by repeat (first | assumption | exact Bel.refl _ | refine Bel.drew ?_ | refine Bel.drewN ?_ _ | refine Bel.alloc ?_ _ | refine Bel.setCell ?_ (by simp <;> omega) _ | refine Bel.trans ?_ (by assumption))))).mono ?_
        rintro e w21 ⟨rfl, hb⟩
        have HK := Lib.hid (show Bel w20 w21 from Bel.trans (by repeat (first | assumption | exact Bel.refl _ | refine Bel.drew ?_ | refine Bel.drewN ?_ _ | refine Bel.alloc ?_ _ | refine Bel.setCell ?_ (by simp <;> omega) _ | refine Bel.trans ?_ (by assumption))) hb)
        replace HY := Lib.hid (HY.out.bel HK.out)
        replace HB := Lib.hid (HB.out.trans HK.out)
        replace u0 := HK.out.cell u0
        replace u1 := HK.out.cell u1
        replace u2 := HK.out.cell u2
        replace u3 := HK.out.cell u3
        replace u4 := HK.out.cell u4
        clear lu
        have lu := cell_lt u0
        clear y0 y1 y2 y3 y4 y5 ly
        obtain ⟨y0, y1, y2, y3, y4, y5⟩ := HY.out
        have ly := cell_lt y0
        clear hb HK
        go_wp2
        go_ret
        exact ⟨rfl, HB.out⟩
      · skip
        rw [Int.toNat_natCast] at HBC HLC
        have hki : (k : Int) < (b.doors.length : Int) := by omega
        have d2 := HB.out.cell (HDC.out k hk).2.2
        have ld := cell_lt d2
        replace HWI := Lib.hid (HWI.out (atD b.doors k).cost)
        cases hwi : withinB c 0 (atD b.doors k).cost
        · skip
          rw [hwi] at HWI
          clear hwi HBC HLC HFR
          generalize (atD b.doors k).cost = dco at *
          go_wp2
          refine wp_region_mixB (Plan.seq [0, 1, 2, 1003, 4, 5, 6, 7, 8, 9, 10, 11, 12, 13, 14, 1015, 16, 17] .nil) (by kernel_rfl) (by kernel_rfl) (fun hcur => ?_)
          simp only [Plan.seq, Plan.fill, List.getD_cons_zero, List.getD_cons_succ, Nat.reduceLT, ↓reduceIte, Nat.reduceSub]
          apply mix_pure _ rfl
          · intro w' hw'
            have hcr := hw'.cells
            go_simp
            rfl
          intro K hK
          go_simp
          refine hK _ ?_
          clear hK K
          apply mix_pure _ rfl
          · intro w' hw'
            have hcr := hw'.cells
            go_simp
            rfl
          intro K hK
          go_simp
          refine hK _ ?_
          clear hK K
          apply mix_pure _ rfl
          · intro w' hw'
            have hcr := hw'.cells
            go_simp
            rfl
          intro K hK
          go_simp
          refine hK _ ?_
          clear hK K
          refine mix_act rfl (fun K hK => ?_)
          go_simp
          refine (HID.out _ (HB.out.trans hcur)).mono ?_
          rintro e w20 ⟨rfl, hb⟩
          simp only []
          refine hK _ _ (hcur.trans hb) (fun hcur => ?_)
          clear hK K hb
          apply mix_pure _ rfl
          · intro w' hw'
            have hcr := hw'.cells
            go_simp
            rfl
          intro K hK
          go_simp
          refine hK _ ?_
          clear hK K
          apply mix_pure _ rfl
          · intro w' hw'
            have hcr := hw'.cells
            go_simp
            rfl
          intro K hK
          go_simp
          refine hK _ ?_
          clear hK K
          apply mix_pureG _ (by go_simp)
          · intro w' hw'
            have hcr := hw'.cells
            go_simp
            rfl
          intro K hK
          go_simp
          refine hK _ ?_
          clear hK K
          apply mix_pureG _ (by go_simp)
          · intro w' hw'
            have hcr := hw'.cells
            go_simp
            rfl
          intro K hK
          go_simp
          refine hK _ ?_
          clear hK K
          apply mix_pureG _ (by go_simp)
          · intro w' hw'
            have hcr := hw'.cells
            go_simp
            rfl
          intro K hK
          go_simp
          refine hK _ ?_
          clear hK K
          apply mix_pureG _ (by go_simp)
          · intro w' hw'
            have hcr := hw'.cells
            go_simp
            rfl
          intro K hK
          go_simp
          refine hK _ ?_
          clear hK K
          apply mix_pureG _ (by go_simp)
          · intro w' hw'
            have hcr := hw'.cells
            go_simp
            rfl
          intro K hK
          go_simp
          refine hK _ ?_
          clear hK K
          apply mix_pureG _ (by go_simp)
          · intro w' hw'
            have hcr := hw'.cells
            go_simp
            rfl
          intro K hK
          go_simp
          refine hK _ ?_
          clear hK K
          apply mix_pureG _ (by go_simp)
          · intro w' hw'
            have hcr := hw'.cells
            go_simp
            rfl
          intro K hK
          go_simp
          refine hK _ ?_
          clear hK K
          apply mix_pureG _ (by go_simp)
          · intro w' hw'
            have hcr := hw'.cells
            go_simp
            rfl
          intro K hK
          go_simp
          refine hK _ ?_
          clear hK K
          apply mix_pureG _ (by go_simp)
          · intro w' hw'
            have hcr := hw'.cells
            go_simp
            rfl
          intro K hK
          go_simp
          refine hK _ ?_
          clear hK K
          refine mix_actG (by go_simp) (fun K hK => ?_)
          go_simp
          refine (HWI.out _).mono ?_
          rintro e wq ⟨rfl, rfl⟩
          simp only []
          refine hK _ _ hcur (fun hcur => ?_)
          clear hK K
          apply mix_pureG _ (by go_simp)
          · intro w' hw'
            have hcr := hw'.cells
            go_simp
            rfl
          intro K hK
          go_simp
          refine hK _ ?_
          clear hK K
          apply mix_pure _ rfl
          · intro w' hw'
            have hcr := hw'.cells
            go_simp
            rfl
          intro K hK
          go_simp
          refine hK _ ?_
          clear hK K
          refine mix_nil ?_
          clear d2 ld
          have HK := Lib.hid (show Bel w5 w20 from Bel.trans (by repeat (first | assumption | exact Bel.refl _ | refine Bel.drew ?_ | refine Bel.drewN ?_ _ | refine Bel.alloc ?_ _ | refine Bel.setCell ?_ (by simp <;> omega) _ | refine Bel.trans ?_ (by assumption))) hcur)
          replace HY := Lib.hid (HY.out.bel HK.out)
          replace HB := Lib.hid (HB.out.trans HK.out)
          replace u0 := HK.out.cell u0
          replace u1 := HK.out.cell u1
          replace u2 := HK.out.cell u2
          replace u3 := HK.out.cell u3
          replace u4 := HK.out.cell u4
          clear lu
          have lu := cell_lt u0
          clear y0 y1 y2 y3 y4 y5 ly
          obtain ⟨y0, y1, y2, y3, y4, y5⟩ := HY.out
          have ly := cell_lt y0
          clear hcur HK
          go_wp2_with fail
          refine (HWK.out _ (HB.out.trans (by repeat (first | assumption | exact Bel.refl _ | refine Bel.drew ?_ | refine Bel.drewN ?_ _ | refine Bel.alloc ?_ _ | refine Bel.setCell ?_ (by simp <;> omega) _ | refine Bel.trans ?_ (by assumption))))).mono ?_
          rintro e w21 ⟨rfl, hb⟩
          have HK := Lib.hid (show Bel w20 w21 from Bel.trans (by repeat (first | assumption | exact Bel.refl _ | refine Bel.drew ?_ | refine Bel.drewN ?_ _ | refine Bel.alloc ?_ _ | refine Bel.setCell ?_ (by simp <;> omega) _ | refine Bel.trans ?_ (by assumption))) hb)
          replace HY := Lib.hid (HY.out.bel HK.out)
          replace HB := Lib.hid (HB.out.trans HK.out)
          replace u0 := HK.out.cell u0
          replace u1 := HK.out.cell u1
          replace u2 := HK.out.cell u2
          replace u3 := HK.out.cell u3
          replace u4 := HK.out.cell u4
          clear lu
          have lu := cell_lt u0
          clear y0 y1 y2 y3 y4 y5 ly
          obtain ⟨y0, y1, y2, y3, y4, y5⟩ := HY.out
          have ly := cell_lt y0
          clear hb HK
          go_wp2
          go_ret
          exact ⟨rfl, HB.out⟩
        · skip
          rw [hwi] at HWI
          obtain ⟨hw1, hw2⟩ := withinB_true.1 hwi
          obtain ⟨k1, k2, k3, k4, k5, k6⟩ := HLC.out hk hw1 hw2
          have HBC1 := Lib.hid (HBC.out k1)
          have HFR1 := Lib.hid (HFR.out k)
          rw [k2] at HBC1
          rw [k3] at HFR1
          have lz := leastV_in (b := costB b k c) (looks := true)
          clear hwi HBC HLC HFR k1 k2 k3
          obtain ⟨k7, k8, k9⟩ := k6 rfl
          clear k6
          rw [if_pos rfl] at HFR1
          generalize (atD b.doors k).cost = dco at *
          go_wp2
          refine wp_region_mixB (Plan.seq [0, 1, 2, 1003, 4, 5, 6, 7, 8, 9, 10, 11, 12, 13, 14, 1015, 16, 17] .nil) (by kernel_rfl) (by kernel_rfl) (fun hcur => ?_)
          simp only [Plan.seq, Plan.fill, List.getD_cons_zero, List.getD_cons_succ, Nat.reduceLT, ↓reduceIte, Nat.reduceSub]
          apply mix_pure _ rfl
          · intro w' hw'
            have hcr := hw'.cells
            go_simp
            rfl
          intro K hK
          go_simp
          refine hK _ ?_
          clear hK K
          apply mix_pure _ rfl
          · intro w' hw'
            have hcr := hw'.cells
            go_simp
            rfl
          intro K hK
          go_simp
          refine hK _ ?_
          clear hK K
          apply mix_pure _ rfl
          · intro w' hw'
            have hcr := hw'.cells
            go_simp
            rfl
          intro K hK
          go_simp
          refine hK _ ?_
          clear hK K
          refine mix_act rfl (fun K hK => ?_)
          go_simp
          refine (HID.out _ (HB.out.trans hcur)).mono ?_
          rintro e w20 ⟨rfl, hb⟩
          simp only []
          refine hK _ _ (hcur.trans hb) (fun hcur => ?_)
          clear hK K hb
          apply mix_pure _ rfl
          · intro w' hw'
            have hcr := hw'.cells
            go_simp
            rfl
          intro K hK
          go_simp
          refine hK _ ?_
          clear hK K
          apply mix_pure _ rfl
          · intro w' hw'
            have hcr := hw'.cells
            go_simp
            rfl
          intro K hK
          go_simp
          refine hK _ ?_
          clear hK K
          apply mix_pureG _ (by go_simp)
          · intro w' hw'
            have hcr := hw'.cells
            go_simp
            rfl
          intro K hK
          go_simp
          refine hK _ ?_
          clear hK K
          apply mix_pureG _ (by go_simp)
          · intro w' hw'
            have hcr := hw'.cells
            go_simp
            rfl
          intro K hK
          go_simp
          refine hK _ ?_
          clear hK K
          apply mix_pureG _ (by go_simp)
          · intro w' hw'
            have hcr := hw'.cells
            go_simp
            rfl
          intro K hK
          go_simp
          refine hK _ ?_
          clear hK K
          apply mix_pureG _ (by go_simp)
          · intro w' hw'
            have hcr := hw'.cells
            go_simp
            rfl
          intro K hK
          go_simp
          refine hK _ ?_
          clear hK K
          apply mix_pureG _ (by go_simp)
          · intro w' hw'
            have hcr := hw'.cells
            go_simp
            rfl
          intro K hK
          go_simp
          refine hK _ ?_
          clear hK K
          apply mix_pureG _ (by go_simp)
          · intro w' hw'
            have hcr := hw'.cells
            go_simp
            rfl
          intro K hK
          go_simp
          refine hK _ ?_
          clear hK K
          apply mix_pureG _ (by go_simp)
          · intro w' hw'
            have hcr := hw'.cells
            go_simp
            rfl
          intro K hK
          go_simp
          refine hK _ ?_
          clear hK K
          apply mix_pureG _ (by go_simp)
          · intro w' hw'
            have hcr := hw'.cells
            go_simp
            rfl
          intro K hK
          go_simp
          refine hK _ ?_
          clear hK K
          apply mix_pureG _ (by go_simp)
          · intro w' hw'
            have hcr := hw'.cells
            go_simp
            rfl
          intro K hK
          go_simp
          refine hK _ ?_
          clear hK K
          refine mix_actG (by go_simp) (fun K hK => ?_)
          go_simp
          refine (HWI.out _).mono ?_
          rintro e wq ⟨rfl, rfl⟩
          simp only []
          refine hK _ _ hcur (fun hcur => ?_)
          clear hK K
          apply mix_pureG _ (by go_simp)
          · intro w' hw'
            have hcr := hw'.cells
            go_simp
            rfl
          intro K hK
          go_simp
          refine hK _ ?_
          clear hK K
          apply mix_pure _ rfl
          · intro w' hw'
            have hcr := hw'.cells
            go_simp
            rfl
          intro K hK
          go_simp
          refine hK _ ?_
          clear hK K
          refine mix_nil ?_
          clear d2 ld
          have HK := Lib.hid (show Bel w5 w20 from Bel.trans (by repeat (first | assumption | exact Bel.refl _ | refine Bel.drew ?_ | refine Bel.drewN ?_ _ | refine Bel.alloc ?_ _ | refine Bel.setCell ?_ (by simp <;> omega) _ | refine Bel.trans ?_ (by assumption))) hcur)
          replace HY := Lib.hid (HY.out.bel HK.out)
          replace HB := Lib.hid (HB.out.trans HK.out)
          replace u0 := HK.out.cell u0
          replace u1 := HK.out.cell u1
          replace u2 := HK.out.cell u2
          replace u3 := HK.out.cell u3
          replace u4 := HK.out.cell u4
          clear lu
          have lu := cell_lt u0
          clear y0 y1 y2 y3 y4 y5 ly
          obtain ⟨y0, y1, y2, y3, y4, y5⟩ := HY.out
          have ly := cell_lt y0
          clear hcur HK
          go_wp2_with fail
          refine (HCP1.out _ (HB.out.trans (by repeat (first | assumption | exact Bel.refl _ | refine Bel.drew ?_ | refine Bel.drewN ?_ _ | refine Bel.alloc ?_ _ | refine Bel.setCell ?_ (by simp <;> omega) _ | refine Bel.trans ?_ (by assumption))))).mono ?_
          rintro e w21 ⟨gd, cd, gs, cs, gp, cp, rfl, hown⟩
          have HOWN := Lib.hid hown
          have HD0 := Lib.hid (DSt.first (T1 := 25) (O2 := .cells #[.int .i64 (atD b.doors k).a, .int .i64 (atD b.doors k).b, .int .i64 c] 43) rfl rfl hown hk ⟨(atD b.doors k).a, (atD b.doors k).b, c⟩)
          have lgd : gd < w21.heap.size := own_lt hown.od rfl
          obtain ⟨own1, own2, own3⟩ := own_doors hown.od
          obtain ⟨e0, e1, e2⟩ := own1 k hk
          clear own1 hown
          have hixg := idxDoors (n := b.doors.length) (c := cd) (b := gd) (off := 0) (fun _ => rfl)
          unfold trapAgg
          have HU2 := Lib.hid (show _ ∧ _ ∧ _ ∧ _ ∧ _ from ⟨u0, u1, u2, u3, u4⟩)
          replace u0 := HOWN.out.bel.cell u0
          replace u1 := HOWN.out.bel.cell u1
          replace u2 := HOWN.out.bel.cell u2
          replace u3 := HOWN.out.bel.cell u3
          replace u4 := HOWN.out.bel.cell u4
          clear lu y0 y1 y2 y3 y4 y5 ly
          have lu := cell_lt u0
          obtain ⟨y0, y1, y2, y3, y4, y5⟩ := HY.out.bel HOWN.out.bel
          have ly := cell_lt y0
          go_upto_region 18 with fail
          generalize hW : World.alloc (World.alloc (World.setCell _ _ _) _) _ = W8
          have HD8 : Hid (DSt w20 b (b.doors.set k ⟨(atD b.doors k).a, (atD b.doors k).b, c⟩) w21.heap.size gd cd gs cs gp cp b.look b.eats W8) := Lib.hid (by rw [← hW]; exact HD0.out)
          clear hW HD0 HOWN e0 e1 e2 own2 own3 lgd
          clear u0 u1 u2 u3 u4
          obtain ⟨u0, u1, u2, u3, u4⟩ := HU2.out
          clear HU2
          have HK := Lib.hid HD8.out.bel
          replace HY := Lib.hid (HY.out.bel HK.out)
          replace HB := Lib.hid (HB.out.trans HK.out)
          replace u0 := HK.out.cell u0
          replace u1 := HK.out.cell u1
          replace u2 := HK.out.cell u2
          replace u3 := HK.out.cell u3
          replace u4 := HK.out.cell u4
          clear lu
          have lu := cell_lt u0
          clear y0 y1 y2 y3 y4 y5 ly
          obtain ⟨y0, y1, y2, y3, y4, y5⟩ := HY.out
          have ly := cell_lt y0
          have lo := HD8.out.lt
          have o0 := HD8.out.c0
          have o1 := HD8.out.c1
          have o2 := HD8.out.c2
          have o3 := HD8.out.c3
          have o4 := HD8.out.c4
          have o5 := HD8.out.c5
          have HT8 : Hid (BTrapAt W8 _ (costB b k c)) := Lib.hid (HD8.out.trap (by omega) (by omega) (by omega))
          clear HD8
          generalize leastV (costB b k c) true = z1 at *
          generalize leastV (costB b k c) false = z2 at *
          generalize freeV b k = fv at *
          go_wp2_with fail
          refine (HBC1.out _ _ (HB.out.trans (by repeat (first | assumption | exact Bel.refl _ | refine Bel.drew ?_ | refine Bel.drewN ?_ _ | refine Bel.alloc ?_ _ | refine Bel.setCell ?_ (by simp <;> omega) _ | refine Bel.trans ?_ (by assumption)))) HT8.out).mono ?_
          rintro e w23 ⟨rfl, hb⟩
          have HK := Lib.hid (show Bel W8 w23 from hb)
          clear hb o0 o1 o2 o3 o4 o5 lo HT8
          replace HY := Lib.hid (HY.out.bel HK.out)
          replace HB := Lib.hid (HB.out.trans HK.out)
          replace u0 := HK.out.cell u0
          replace u1 := HK.out.cell u1
          replace u2 := HK.out.cell u2
          replace u3 := HK.out.cell u3
          replace u4 := HK.out.cell u4
          clear lu
          have lu := cell_lt u0
          clear y0 y1 y2 y3 y4 y5 ly
          obtain ⟨y0, y1, y2, y3, y4, y5⟩ := HY.out
          have ly := cell_lt y0
          go_wp2_with fail
          refine (HFR1.out _ (HB.out.trans (by repeat (first | assumption | exact Bel.refl _ | refine Bel.drew ?_ | refine Bel.drewN ?_ _ | refine Bel.alloc ?_ _ | refine Bel.setCell ?_ (by simp <;> omega) _ | refine Bel.trans ?_ (by assumption))))).mono ?_
          rintro e w24 ⟨rfl, hb⟩
          have HK := Lib.hid (show Bel w23 w24 from Bel.trans (by repeat (first | assumption | exact Bel.refl _ | refine Bel.drew ?_ | refine Bel.drewN ?_ _ | refine Bel.alloc ?_ _ | refine Bel.setCell ?_ (by simp <;> omega) _ | refine Bel.trans ?_ (by assumption))) hb)
          replace HY := Lib.hid (HY.out.bel HK.out)
          replace HB := Lib.hid (HB.out.trans HK.out)
          replace u0 := HK.out.cell u0
          replace u1 := HK.out.cell u1
          replace u2 := HK.out.cell u2
          replace u3 := HK.out.cell u3
          replace u4 := HK.out.cell u4
          clear lu
          have lu := cell_lt u0
          clear y0 y1 y2 y3 y4 y5 ly
          obtain ⟨y0, y1, y2, y3, y4, y5⟩ := HY.out
          have ly := cell_lt y0
          clear hb HK
          have c1 : ¬ m < z1 := by omega
          have c2 : ¬ n < z2 := by omega
          have c3 : m - z1 ≤ fv := by omega
          have c4 : fv ≤ m := by omega
          by_cases hc0 : 0 < c
          · skip
            have c5 : (0:Int) < c := hc0
            go_wp2_with fail
            refine (HWK.out _ (HB.out.trans (by repeat (first | assumption | exact Bel.refl _ | refine Bel.drew ?_ | refine Bel.drewN ?_ _ | refine Bel.alloc ?_ _ | refine Bel.setCell ?_ (by simp <;> omega) _ | refine Bel.trans ?_ (by assumption))))).mono ?_
            rintro e w25 ⟨rfl, hb⟩
            have HK := Lib.hid (show Bel w24 w25 from Bel.trans (by repeat (first | assumption | exact Bel.refl _ | refine Bel.drew ?_ | refine Bel.drewN ?_ _ | refine Bel.alloc ?_ _ | refine Bel.setCell ?_ (by simp <;> omega) _ | refine Bel.trans ?_ (by assumption))) hb)
            replace HY := Lib.hid (HY.out.bel HK.out)
            replace HB := Lib.hid (HB.out.trans HK.out)
            replace u0 := HK.out.cell u0
            replace u1 := HK.out.cell u1
            replace u2 := HK.out.cell u2
            replace u3 := HK.out.cell u3
            replace u4 := HK.out.cell u4
            clear lu
            have lu := cell_lt u0
            clear y0 y1 y2 y3 y4 y5 ly
            obtain ⟨y0, y1, y2, y3, y4, y5⟩ := HY.out
            have ly := cell_lt y0
            clear hb HK
            go_wp2
            go_ret
            exact ⟨rfl, HB.out⟩
          · skip
            have c5 : ¬ (0:Int) < c := hc0
            obtain rfl : fv = m - z1 := k9 (by omega)
            go_wp2_with fail
            refine (HWK.out _ (HB.out.trans (by repeat (first | assumption | exact Bel.refl _ | refine Bel.drew ?_ | refine Bel.drewN ?_ _ | refine Bel.alloc ?_ _ | refine Bel.setCell ?_ (by simp <;> omega) _ | refine Bel.trans ?_ (by assumption))))).mono ?_
            rintro e w25 ⟨rfl, hb⟩
            have HK := Lib.hid (show Bel w24 w25 from Bel.trans (by repeat (first | assumption | exact Bel.refl _ | refine Bel.drew ?_ | refine Bel.drewN ?_ _ | refine Bel.alloc ?_ _ | refine Bel.setCell ?_ (by simp <;> omega) _ | refine Bel.trans ?_ (by assumption))) hb)
            replace HY := Lib.hid (HY.out.bel HK.out)
            replace HB := Lib.hid (HB.out.trans HK.out)
            replace u0 := HK.out.cell u0
            replace u1 := HK.out.cell u1
            replace u2 := HK.out.cell u2
            replace u3 := HK.out.cell u3
            replace u4 := HK.out.cell u4
            clear lu
            have lu := cell_lt u0
            clear y0 y1 y2 y3 y4 y5 ly
            obtain ⟨y0, y1, y2, y3, y4, y5⟩ := HY.out
            have ly := cell_lt y0
            clear hb HK
            go_wp2
            go_ret
            exact ⟨rfl, HB.out⟩
  · skip
    replace o0 := hb.cell o0
    replace o1 := hb.cell o1
    replace o2 := hb.cell o2
    replace o3 := hb.cell o3
    replace o4 := hb.cell o4
    replace o5 := hb.cell o5
    replace lo := cell_lt o0
    have HTM5 := Lib.hid (HTM4.out.bel hb)
    have HBM1 := Lib.hid (HBM.out (HVM.out rfl))
    have hlm := HLM.out rfl
    clear hb HTM4 HBM HVM HLM
    go_wp2_with fail
    refine (HBM1.out _ _ (HB.out.trans (by repeat (first | assumption | exact Bel.refl _ | refine Bel.drew ?_ | refine Bel.drewN ?_ _ | refine Bel.alloc ?_ _ | refine Bel.setCell ?_ (by simp <;> omega) _ | refine Bel.trans ?_ (by assumption)))) HTM5.out).mono ?_
    rintro e w6 ⟨rfl, hb⟩
    have HK := Lib.hid (show Bel w5 w6 from Bel.trans (by repeat (first | assumption | exact Bel.refl _ | refine Bel.drew ?_ | refine Bel.drewN ?_ _ | refine Bel.alloc ?_ _ | refine Bel.setCell ?_ (by simp <;> omega) _ | refine Bel.trans ?_ (by assumption))) hb)
    replace HY := Lib.hid (HY.out.bel HK.out)
    replace HB := Lib.hid (HB.out.trans HK.out)
    replace u0 := HK.out.cell u0
    replace u1 := HK.out.cell u1
    replace u2 := HK.out.cell u2
    replace u3 := HK.out.cell u3
    replace u4 := HK.out.cell u4
    clear lu
    have lu := cell_lt u0
    clear y0 y1 y2 y3 y4 y5 ly
    obtain ⟨y0, y1, y2, y3, y4, y5⟩ := HY.out
    have ly := cell_lt y0
    clear hb HK
    clear o0 o1 o2 o3 o4 o5 lo HTM5
    cases pl
    · skip
      clear hlm
      rcases hdoor with rfl | ⟨k, rfl, hk, rfl⟩
      · skip
        clear HBC HLC HWI HFR
        go_wp2
        refine wp_region_mixB (Plan.seq [0, 1, 2, 1003, 4, 5, 6, 7, 8, 9, 10, 11, 12, 13, 14, 1015, 16, 17] .nil) (by kernel_rfl) (by kernel_rfl) (fun hcur => ?_)
        simp only [Plan.seq, Plan.fill, List.getD_cons_zero, List.getD_cons_succ, Nat.reduceLT, ↓reduceIte, Nat.reduceSub]
        apply mix_pure _ rfl
        · intro w' hw'
          have hcr := hw'.cells
          go_simp
          rfl
        intro K hK
        go_simp
        refine hK _ ?_
        clear hK K
        apply mix_pure _ rfl
        · intro w' hw'
          have hcr := hw'.cells
          go_simp
          rfl
        intro K hK
        go_simp
        refine hK _ ?_
        clear hK K
        apply mix_pure _ rfl
        · intro w' hw'
          have hcr := hw'.cells
          go_simp
          rfl
        intro K hK
        go_simp
        refine hK _ ?_
        clear hK K
        refine mix_act rfl (fun K hK => ?_)
        go_simp
        refine (HID.out _ (HB.out.trans hcur)).mono ?_
        rintro e w20 ⟨rfl, hb⟩
        simp only []
        refine hK _ _ (hcur.trans hb) (fun hcur => ?_)
        clear hK K hb
        apply mix_pure _ rfl
        · intro w' hw'
          have hcr := hw'.cells
          go_simp
          rfl
        intro K hK
        go_simp
        refine hK _ ?_
        clear hK K
        apply mix_pure _ rfl
        · intro w' hw'
          have hcr := hw'.cells
          go_simp
          rfl
        intro K hK
        go_simp
        refine hK _ ?_
        clear hK K
        refine mix_skip (by go_simp) ?_
        intro K hK
        go_simp
        refine hK _ ?_
        clear hK K
        refine mix_skip (by go_simp) ?_
        intro K hK
        go_simp
        refine hK _ ?_
        clear hK K
        refine mix_skip (by go_simp) ?_
        intro K hK
        go_simp
        refine hK _ ?_
        clear hK K
        refine mix_skip (by go_simp) ?_
        intro K hK
        go_simp
        refine hK _ ?_
        clear hK K
        refine mix_skip (by go_simp) ?_
        intro K hK
        go_simp
        refine hK _ ?_
        clear hK K
        refine mix_skip (by go_simp) ?_
        intro K hK
        go_simp
        refine hK _ ?_
        clear hK K
        refine mix_skip (by go_simp) ?_
        intro K hK
        go_simp
        refine hK _ ?_
        clear hK K
        refine mix_skip (by go_simp) ?_
        intro K hK
        go_simp
        refine hK _ ?_
        clear hK K
        refine mix_skip (by go_simp) ?_
        intro K hK
        go_simp
        refine hK _ ?_
        clear hK K
        refine mix_askip (by go_simp) ?_
        intro K hK
        go_simp
        refine hK _ ?_
        clear hK K
        refine mix_skip (by go_simp) ?_
        intro K hK
        go_simp
        refine hK _ ?_
        clear hK K
        apply mix_pure _ rfl
        · intro w' hw'
          have hcr := hw'.cells
          go_simp
          rfl
        intro K hK
        go_simp
        refine hK _ ?_
        clear hK K
        refine mix_nil ?_
        have HK := Lib.hid (show Bel w6 w20 from Bel.trans (by repeat (first | assumption | exact Bel.refl _ | refine Bel.drew ?_ | refine Bel.drewN ?_ _ | refine Bel.alloc ?_ _ | refine Bel.setCell ?_ (by simp <;> omega) _ | refine Bel.trans ?_ (by assumption))) hcur)
        replace HY := Lib.hid (HY.out.bel HK.out)
        replace HB := Lib.hid (HB.out.trans HK.out)
        replace u0 := HK.out.cell u0
        replace u1 := HK.out.cell u1
        replace u2 := HK.out.cell u2
        replace u3 := HK.out.cell u3
        replace u4 := HK.out.cell u4
        clear lu
        have lu := cell_lt u0
        clear y0 y1 y2 y3 y4 y5 ly
        obtain ⟨y0, y1, y2, y3, y4, y5⟩ := HY.out
        have ly := cell_lt y0
        clear hcur HK
        go_wp2_with fail
        refine (HWK.out _ (HB.out.trans (by repeat (first | assumption | exact Bel.refl _ | refine Bel.drew ?_ | refine Bel.drewN ?_ _ | refine Bel.alloc ?_ _ | refine Bel.setCell ?_ (by simp <;> omega) _ | refine Bel.trans ?_ (by assumption))))).mono ?_
        rintro e w21 ⟨rfl, hb⟩
        have HK := Lib.hid (show Bel w20 w21 from Bel.trans (by repeat (first | assumption | exact Bel.refl _ | refine Bel.drew ?_ | refine Bel.drewN ?_ _ | refine Bel.alloc ?_ _ | refine Bel.setCell ?_ (by simp <;> omega) _ | refine Bel.trans ?_ (by assumption))) hb)
        replace HY := Lib.hid (HY.out.bel HK.out)
        replace HB := Lib.hid (HB.out.trans HK.out)
        replace u0 := HK.out.cell u0
        replace u1 := HK.out.cell u1
        replace u2 := HK.out.cell u2
        replace u3 := HK.out.cell u3
        replace u4 := HK.out.cell u4
        clear lu
        have lu := cell_lt u0
        clear y0 y1 y2 y3 y4 y5 ly
        obtain ⟨y0, y1, y2, y3, y4, y5⟩ := HY.out
        have ly := cell_lt y0
        clear hb HK
        go_wp2
        go_ret
        exact ⟨rfl, HB.out⟩
      · skip
        rw [Int.toNat_natCast] at HBC HLC
        have hki : (k : Int) < (b.doors.length : Int) := by omega
        have d2 := HB.out.cell (HDC.out k hk).2.2
        have ld := cell_lt d2
        replace HWI := Lib.hid (HWI.out (atD b.doors k).cost)
        cases hwi : withinB c 0 (atD b.doors k).cost
        · skip
          rw [hwi] at HWI
          clear hwi HBC HLC HFR
          generalize (atD b.doors k).cost = dco at *
          go_wp2
          refine wp_region_mixB (Plan.seq [0, 1, 2, 1003, 4, 5, 6, 7, 8, 9, 10, 11, 12, 13, 14, 1015, 16, 17] .nil) (by kernel_rfl) (by kernel_rfl) (fun hcur => ?_)
          simp only [Plan.seq, Plan.fill, List.getD_cons_zero, List.getD_cons_succ, Nat.reduceLT, ↓reduceIte, Nat.reduceSub]
          apply mix_pure _ rfl
          · intro w' hw'
            have hcr := hw'.cells
            go_simp
            rfl
          intro K hK
          go_simp
          refine hK _ ?_
          clear hK K
          apply mix_pure _ rfl
          · intro w' hw'
            have hcr := hw'.cells
            go_simp
            rfl
          intro K hK
          go_simp
          refine hK _ ?_
          clear hK K
          apply mix_pure _ rfl
          · intro w' hw'
            have hcr := hw'.cells
            go_simp
            rfl
          intro K hK
          go_simp
          refine hK _ ?_
          clear hK K
          refine mix_act rfl (fun K hK => ?_)
          go_simp
          refine (HID.out _ (HB.out.trans hcur)).mono ?_
          rintro e w20 ⟨rfl, hb⟩
          simp only []
          refine hK _ _ (hcur.trans hb) (fun hcur => ?_)
          clear hK K hb
          apply mix_pure _ rfl
          · intro w' hw'
            have hcr := hw'.cells
            go_simp
            rfl
          intro K hK
          go_simp
          refine hK _ ?_
          clear hK K
          apply mix_pure _ rfl
          · intro w' hw'
            have hcr := hw'.cells
            go_simp
            rfl
          intro K hK
          go_simp
          refine hK _ ?_
          clear hK K
          apply mix_pureG _ (by go_simp)
          · intro w' hw'
            have hcr := hw'.cells
            go_simp
            rfl
          intro K hK
          go_simp
          refine hK _ ?_
          clear hK K
          apply mix_pureG _ (by go_simp)
          · intro w' hw'
            have hcr := hw'.cells
            go_simp
            rfl
          intro K hK
          go_simp
          refine hK _ ?_
          clear hK K
          apply mix_pureG _ (by go_simp)
          · intro w' hw'
            have hcr := hw'.cells
            go_simp
            rfl
          intro K hK
          go_simp
          refine hK _ ?_
          clear hK K
          apply mix_pureG _ (by go_simp)
          · intro w' hw'
            have hcr := hw'.cells
            go_simp
            rfl
          intro K hK
          go_simp
          refine hK _ ?_
          clear hK K
          apply mix_pureG _ (by go_simp)
          · intro w' hw'
            have hcr := hw'.cells
            go_simp
            rfl
          intro K hK
          go_simp
          refine hK _ ?_
          clear hK K
          apply mix_pureG _ (by go_simp)
          · intro w' hw'
            have hcr := hw'.cells
            go_simp
            rfl
          intro K hK
          go_simp
          refine hK _ ?_
          clear hK K
          apply mix_pureG _ (by go_simp)
          · intro w' hw'
            have hcr := hw'.cells
            go_simp
            rfl
          intro K hK
          go_simp
          refine hK _ ?_
          clear hK K
          apply mix_pureG _ (by go_simp)
          · intro w' hw'
            have hcr := hw'.cells
            go_simp
            rfl
          intro K hK
          go_simp
          refine hK _ ?_
          clear hK K
          apply mix_pureG _ (by go_simp)
          · intro w' hw'
            have hcr := hw'.cells
            go_simp
            rfl
          intro K hK
          go_simp
          refine hK _ ?_
          clear hK K
          refine mix_actG (by go_simp) (fun K hK => ?_)
          go_simp
          refine (HWI.out _).mono ?_
          rintro e wq ⟨rfl, rfl⟩
          simp only []
          refine hK _ _ hcur (fun hcur => ?_)
          clear hK K
          apply mix_pureG _ (by go_simp)
          · intro w' hw'
            have hcr := hw'.cells
            go_simp
            rfl
          intro K hK
          go_simp
          refine hK _ ?_
          clear hK K
          apply mix_pure _ rfl
          · intro w' hw'
            have hcr := hw'.cells
            go_simp
            rfl
          intro K hK
          go_simp
          refine hK _ ?_
          clear hK K
          refine mix_nil ?_
          clear d2 ld
          have HK := Lib.hid (show Bel w6 w20 from Bel.trans (by repeat (first | assumption | exact Bel.refl _ | refine Bel.drew ?_ | refine Bel.drewN ?_ _ | refine Bel.alloc ?_ _ | refine Bel.setCell ?_ (by simp <;> omega) _ | refine Bel.trans ?_ (by assumption))) hcur)
          replace HY := Lib.hid (HY.out.bel HK.out)
          replace HB := Lib.hid (HB.out.trans HK.out)
          replace u0 := HK.out.cell u0
          replace u1 := HK.out.cell u1
          replace u2 := HK.out.cell u2
          replace u3 := HK.out.cell u3
          replace u4 := HK.out.cell u4
          clear lu
          have lu := cell_lt u0
          clear y0 y1 y2 y3 y4 y5 ly
          obtain ⟨y0, y1, y2, y3, y4, y5⟩ := HY.out
          have ly := cell_lt y0
          clear hcur HK
          go_wp2_with fail
          refine (HWK.out _ (HB.out.trans (by repeat (first | assumption | exact Bel.refl _ | refine Bel.drew ?_ | refine Bel.drewN ?_ _ | refine Bel.alloc ?_ _ | refine Bel.setCell ?_ (by simp <;> omega) _ | refine Bel.trans ?_ (by assumption))))).mono ?_
          rintro e w21 ⟨rfl, hb⟩
          have HK := Lib.hid (show Bel w20 w21 from Bel.trans (by repeat (first | assumption | exact Bel.refl _ | refine Bel.drew ?_ | refine Bel.drewN ?_ _ | refine Bel.alloc ?_ _ | refine Bel.setCell ?_ (by simp <;> omega) _ | refine Bel.trans ?_ (by assumption))) hb)
          replace HY := Lib.hid (HY.out.bel HK.out)
          replace HB := Lib.hid (HB.out.trans HK.out)
          replace u0 := HK.out.cell u0
          replace u1 := HK.out.cell u1
          replace u2 := HK.out.cell u2
          replace u3 := HK.out.cell u3
          replace u4 := HK.out.cell u4
          clear lu
          have lu := cell_lt u0
          clear y0 y1 y2 y3 y4 y5 ly
          obtain ⟨y0, y1, y2, y3, y4, y5⟩ := HY.out
          have ly := cell_lt y0
          clear hb HK
          go_wp2
          go_ret
          exact ⟨rfl, HB.out⟩
        · skip
          rw [hwi] at HWI
          obtain ⟨hw1, hw2⟩ := withinB_true.1 hwi
          obtain ⟨k1, k2, k3, k4, k5, k6⟩ := HLC.out hk hw1 hw2
          have HBC1 := Lib.hid (HBC.out k1)
          have HFR1 := Lib.hid (HFR.out k)
          rw [k2] at HBC1
          rw [k3] at HFR1
          have lz := leastV_in (b := costB b k c) (looks := true)
          clear hwi HBC HLC HFR k1 k2 k3
          clear k6
          rw [if_neg (by simp)] at HFR1
          generalize (atD b.doors k).cost = dco at *
          go_wp2
          refine wp_region_mixB (Plan.seq [0, 1, 2, 1003, 4, 5, 6, 7, 8, 9, 10, 11, 12, 13, 14, 1015, 16, 17] .nil) (by kernel_rfl) (by kernel_rfl) (fun hcur => ?_)
          simp only [Plan.seq, Plan.fill, List.getD_cons_zero, List.getD_cons_succ, Nat.reduceLT, ↓reduceIte, Nat.reduceSub]
          apply mix_pure _ rfl
          · intro w' hw'
            have hcr := hw'.cells
            go_simp
            rfl
          intro K hK
          go_simp
          refine hK _ ?_
          clear hK K
          apply mix_pure _ rfl
          · intro w' hw'
            have hcr := hw'.cells
            go_simp
            rfl
          intro K hK
          go_simp
          refine hK _ ?_
          clear hK K
          apply mix_pure _ rfl
          · intro w' hw'
            have hcr := hw'.cells
            go_simp
            rfl
          intro K hK
          go_simp
          refine hK _ ?_
          clear hK K
          refine mix_act rfl (fun K hK => ?_)
          go_simp
          refine (HID.out _ (HB.out.trans hcur)).mono ?_
          rintro e w20 ⟨rfl, hb⟩
          simp only []
          refine hK _ _ (hcur.trans hb) (fun hcur => ?_)
          clear hK K hb
          apply mix_pure _ rfl
          · intro w' hw'
            have hcr := hw'.cells
            go_simp
            rfl
          intro K hK
          go_simp
          refine hK _ ?_
          clear hK K
          apply mix_pure _ rfl
          · intro w' hw'
            have hcr := hw'.cells
            go_simp
            rfl
          intro K hK
          go_simp
          refine hK _ ?_
          clear hK K
          apply mix_pureG _ (by go_simp)
          · intro w' hw'
            have hcr := hw'.cells
            go_simp
            rfl
          intro K hK
          go_simp
          refine hK _ ?_
          clear hK K
          apply mix_pureG _ (by go_simp)
          · intro w' hw'
            have hcr := hw'.cells
            go_simp
            rfl
          intro K hK
          go_simp
          refine hK _ ?_
          clear hK K
          apply mix_pureG _ (by go_simp)
          · intro w' hw'
            have hcr := hw'.cells
            go_simp
            rfl
          intro K hK
          go_simp
          refine hK _ ?_
          clear hK K
          apply mix_pureG _ (by go_simp)
          · intro w' hw'
            have hcr := hw'.cells
            go_simp
            rfl
          intro K hK
          go_simp
          refine hK _ ?_
          clear hK K
          apply mix_pureG _ (by go_simp)
          · intro w' hw'
            have hcr := hw'.cells
            go_simp
            rfl
          intro K hK
          go_simp
          refine hK _ ?_
          clear hK K
          apply mix_pureG _ (by go_simp)
          · intro w' hw'
            have hcr := hw'.cells
            go_simp
            rfl
          intro K hK
          go_simp
          refine hK _ ?_
          clear hK K
          apply mix_pureG _ (by go_simp)
          · intro w' hw'
            have hcr := hw'.cells
            go_simp
            rfl
          intro K hK
          go_simp
          refine hK _ ?_
          clear hK K
          apply mix_pureG _ (by go_simp)
          · intro w' hw'
            have hcr := hw'.cells
            go_simp
            rfl
          intro K hK
          go_simp
          refine hK _ ?_
          clear hK K
          apply mix_pureG _ (by go_simp)
          · intro w' hw'
            have hcr := hw'.cells
            go_simp
            rfl
          intro K hK
          go_simp
          refine hK _ ?_
          clear hK K
          refine mix_actG (by go_simp) (fun K hK => ?_)
          go_simp
          refine (HWI.out _).mono ?_
          rintro e wq ⟨rfl, rfl⟩
          simp only []
          refine hK _ _ hcur (fun hcur => ?_)
          clear hK K
          apply mix_pureG _ (by go_simp)
          · intro w' hw'
            have hcr := hw'.cells
            go_simp
            rfl
          intro K hK
          go_simp
          refine hK _ ?_
          clear hK K
          apply mix_pure _ rfl
          · intro w' hw'
            have hcr := hw'.cells
            go_simp
            rfl
          intro K hK
          go_simp
          refine hK _ ?_
          clear hK K
          refine mix_nil ?_
          clear d2 ld
          have HK := Lib.hid (show Bel w6 w20 from Bel.trans (by repeat (first | assumption | exact Bel.refl _ | refine Bel.drew ?_ | refine Bel.drewN ?_ _ | refine Bel.alloc ?_ _ | refine Bel.setCell ?_ (by simp <;> omega) _ | refine Bel.trans ?_ (by assumption))) hcur)
          replace HY := Lib.hid (HY.out.bel HK.out)
          replace HB := Lib.hid (HB.out.trans HK.out)
          replace u0 := HK.out.cell u0
          replace u1 := HK.out.cell u1
          replace u2 := HK.out.cell u2
          replace u3 := HK.out.cell u3
          replace u4 := HK.out.cell u4
          clear lu
          have lu := cell_lt u0
          clear y0 y1 y2 y3 y4 y5 ly
          obtain ⟨y0, y1, y2, y3, y4, y5⟩ := HY.out
          have ly := cell_lt y0
          clear hcur HK
          go_wp2_with fail
          refine (HCP1.out _ (HB.out.trans (by repeat (first | assumption | exact Bel.refl _ | refine Bel.drew ?_ | refine Bel.drewN ?_ _ | refine Bel.alloc ?_ _ | refine Bel.setCell ?_ (by simp <;> omega) _ | refine Bel.trans ?_ (by assumption))))).mono ?_
          rintro e w21 ⟨gd, cd, gs, cs, gp, cp, rfl, hown⟩
          have HOWN := Lib.hid hown
          have HD0 := Lib.hid (DSt.first (T1 := 25) (O2 := .cells #[.int .i64 (atD b.doors k).a, .int .i64 (atD b.doors k).b, .int .i64 c] 43) rfl rfl hown hk ⟨(atD b.doors k).a, (atD b.doors k).b, c⟩)
          have lgd : gd < w21.heap.size := own_lt hown.od rfl
          obtain ⟨own1, own2, own3⟩ := own_doors hown.od
          obtain ⟨e0, e1, e2⟩ := own1 k hk
          clear own1 hown
          have hixg := idxDoors (n := b.doors.length) (c := cd) (b := gd) (off := 0) (fun _ => rfl)
          unfold trapAgg
          have HU2 := Lib.hid (show _ ∧ _ ∧ _ ∧ _ ∧ _ from ⟨u0, u1, u2, u3, u4⟩)
          replace u0 := HOWN.out.bel.cell u0
          replace u1 := HOWN.out.bel.cell u1
          replace u2 := HOWN.out.bel.cell u2
          replace u3 := HOWN.out.bel.cell u3
          replace u4 := HOWN.out.bel.cell u4
          clear lu y0 y1 y2 y3 y4 y5 ly
          have lu := cell_lt u0
          obtain ⟨y0, y1, y2, y3, y4, y5⟩ := HY.out.bel HOWN.out.bel
          have ly := cell_lt y0
          go_upto_region 18 with fail
          generalize hW : World.alloc (World.alloc (World.setCell _ _ _) _) _ = W8
          have HD8 : Hid (DSt w20 b (b.doors.set k ⟨(atD b.doors k).a, (atD b.doors k).b, c⟩) w21.heap.size gd cd gs cs gp cp b.look b.eats W8) := Lib.hid (by rw [← hW]; exact HD0.out)
          clear hW HD0 HOWN e0 e1 e2 own2 own3 lgd
          clear u0 u1 u2 u3 u4
          obtain ⟨u0, u1, u2, u3, u4⟩ := HU2.out
          clear HU2
          have HK := Lib.hid HD8.out.bel
          replace HY := Lib.hid (HY.out.bel HK.out)
          replace HB := Lib.hid (HB.out.trans HK.out)
          replace u0 := HK.out.cell u0
          replace u1 := HK.out.cell u1
          replace u2 := HK.out.cell u2
          replace u3 := HK.out.cell u3
          replace u4 := HK.out.cell u4
          clear lu
          have lu := cell_lt u0
          clear y0 y1 y2 y3 y4 y5 ly
          obtain ⟨y0, y1, y2, y3, y4, y5⟩ := HY.out
          have ly := cell_lt y0
          have lo := HD8.out.lt
          have o0 := HD8.out.c0
          have o1 := HD8.out.c1
          have o2 := HD8.out.c2
          have o3 := HD8.out.c3
          have o4 := HD8.out.c4
          have o5 := HD8.out.c5
          have HT8 : Hid (BTrapAt W8 _ (costB b k c)) := Lib.hid (HD8.out.trap (by omega) (by omega) (by omega))
          clear HD8
          generalize leastV (costB b k c) true = z1 at *
          generalize leastV (costB b k c) false = z2 at *
          generalize freeV b k = fv at *
          go_wp2_with fail
          refine (HBC1.out _ _ (HB.out.trans (by repeat (first | assumption | exact Bel.refl _ | refine Bel.drew ?_ | refine Bel.drewN ?_ _ | refine Bel.alloc ?_ _ | refine Bel.setCell ?_ (by simp <;> omega) _ | refine Bel.trans ?_ (by assumption)))) HT8.out).mono ?_
          rintro e w23 ⟨rfl, hb⟩
          have HK := Lib.hid (show Bel W8 w23 from hb)
          clear hb o0 o1 o2 o3 o4 o5 lo HT8
          replace HY := Lib.hid (HY.out.bel HK.out)
          replace HB := Lib.hid (HB.out.trans HK.out)
          replace u0 := HK.out.cell u0
          replace u1 := HK.out.cell u1
          replace u2 := HK.out.cell u2
          replace u3 := HK.out.cell u3
          replace u4 := HK.out.cell u4
          clear lu
          have lu := cell_lt u0
          clear y0 y1 y2 y3 y4 y5 ly
          obtain ⟨y0, y1, y2, y3, y4, y5⟩ := HY.out
          have ly := cell_lt y0
          go_wp2_with fail
          refine (HFR1.out _ (HB.out.trans (by repeat (first | assumption | exact Bel.refl _ | refine Bel.drew ?_ | refine Bel.drewN ?_ _ | refine Bel.alloc ?_ _ | refine Bel.setCell ?_ (by simp <;> omega) _ | refine Bel.trans ?_ (by assumption))))).mono ?_
          rintro e w24 ⟨rfl, hb⟩
          have HK := Lib.hid (show Bel w23 w24 from Bel.trans (by repeat (first | assumption | exact Bel.refl _ | refine Bel.drew ?_ | refine Bel.drewN ?_ _ | refine Bel.alloc ?_ _ | refine Bel.setCell ?_ (by simp <;> omega) _ | refine Bel.trans ?_ (by assumption))) hb)
          replace HY := Lib.hid (HY.out.bel HK.out)
          replace HB := Lib.hid (HB.out.trans HK.out)
          replace u0 := HK.out.cell u0
          replace u1 := HK.out.cell u1
          replace u2 := HK.out.cell u2
          replace u3 := HK.out.cell u3
          replace u4 := HK.out.cell u4
          clear lu
          have lu := cell_lt u0
          clear y0 y1 y2 y3 y4 y5 ly
          obtain ⟨y0, y1, y2, y3, y4, y5⟩ := HY.out
          have ly := cell_lt y0
          clear hb HK
          have c1 : ¬ m < z1 := by omega
          have c2 : ¬ n < z2 := by omega
          go_wp2_with fail
          refine (HWK.out _ (HB.out.trans (by repeat (first | assumption | exact Bel.refl _ | refine Bel.drew ?_ | refine Bel.drewN ?_ _ | refine Bel.alloc ?_ _ | refine Bel.setCell ?_ (by simp <;> omega) _ | refine Bel.trans ?_ (by assumption))))).mono ?_
          rintro e w25 ⟨rfl, hb⟩
          have HK := Lib.hid (show Bel w24 w25 from Bel.trans (by repeat (first | assumption | exact Bel.refl _ | refine Bel.drew ?_ | refine Bel.drewN ?_ _ | refine Bel.alloc ?_ _ | refine Bel.setCell ?_ (by simp <;> omega) _ | refine Bel.trans ?_ (by assumption))) hb)
          replace HY := Lib.hid (HY.out.bel HK.out)
          replace HB := Lib.hid (HB.out.trans HK.out)
          replace u0 := HK.out.cell u0
          replace u1 := HK.out.cell u1
          replace u2 := HK.out.cell u2
          replace u3 := HK.out.cell u3
          replace u4 := HK.out.cell u4
          clear lu
          have lu := cell_lt u0
          clear y0 y1 y2 y3 y4 y5 ly
          obtain ⟨y0, y1, y2, y3, y4, y5⟩ := HY.out
          have ly := cell_lt y0
          clear hb HK
          go_wp2
          go_ret
          exact ⟨rfl, HB.out⟩
    · skip
      obtain ⟨rfl, lm2, lm3⟩ := hlm rfl
      clear hlm
      have lm2' : ¬ m < x1 := by omega
      have lm3' : ¬ n < x2 := by omega
      rcases hdoor with rfl | ⟨k, rfl, hk, rfl⟩
      · skip
        clear HBC HLC HWI HFR
        go_wp2
        refine wp_region_mixB (Plan.seq [0, 1, 2, 1003, 4, 5, 6, 7, 8, 9, 10, 11, 12, 13, 14, 1015, 16, 17] .nil) (by kernel_rfl) (by kernel_rfl) (fun hcur => ?_)
        simp only [Plan.seq, Plan.fill, List.getD_cons_zero, List.getD_cons_succ, Nat.reduceLT, ↓reduceIte, Nat.reduceSub]
        apply mix_pure _ rfl
        · intro w' hw'
          have hcr := hw'.cells
          go_simp
          rfl
        intro K hK
        go_simp
        refine hK _ ?_
        clear hK K
        apply mix_pure _ rfl
        · intro w' hw'
          have hcr := hw'.cells
          go_simp
          rfl
        intro K hK
        go_simp
        refine hK _ ?_
        clear hK K
        apply mix_pure _ rfl
        · intro w' hw'
          have hcr := hw'.cells
          go_simp
          rfl
        intro K hK
        go_simp
        refine hK _ ?_
        clear hK K
        refine mix_act rfl (fun K hK => ?_)
        go_simp
        refine (HID.out _ (HB.out.trans hcur)).mono ?_
        rintro e w20 ⟨rfl, hb⟩
        simp only []
        refine hK _ _ (hcur.trans hb) (fun hcur => ?_)
        clear hK K hb
        apply mix_pure _ rfl
        · intro w' hw'
          have hcr := hw'.cells
          go_simp
          rfl
        intro K hK
        go_simp
        refine hK _ ?_
        clear hK K
        apply mix_pure _ rfl
        · intro w' hw'
          have hcr := hw'.cells
          go_simp
          rfl
        intro K hK
        go_simp
        refine hK _ ?_
        clear hK K
        refine mix_skip (by go_simp) ?_
        intro K hK
        go_simp
        refine hK _ ?_
        clear hK K
        refine mix_skip (by go_simp) ?_
        intro K hK
        go_simp
        refine hK _ ?_
        clear hK K
        refine mix_skip (by go_simp) ?_
        intro K hK
        go_simp
        refine hK _ ?_
        clear hK K
        refine mix_skip (by go_simp) ?_
        intro K hK
        go_simp
        refine hK _ ?_
        clear hK K
        refine mix_skip (by go_simp) ?_
        intro K hK
        go_simp
        refine hK _ ?_
        clear hK K
        refine mix_skip (by go_simp) ?_
        intro K hK
        go_simp
        refine hK _ ?_
        clear hK K
        refine mix_skip (by go_simp) ?_
        intro K hK
        go_simp
        refine hK _ ?_
        clear hK K
        refine mix_skip (by go_simp) ?_
        intro K hK
        go_simp
        refine hK _ ?_
        clear hK K
        refine mix_skip (by go_simp) ?_
        intro K hK
        go_simp
        refine hK _ ?_
        clear hK K
        refine mix_askip (by go_simp) ?_
        intro K hK
        go_simp
        refine hK _ ?_
        clear hK K
        refine mix_skip (by go_simp) ?_
        intro K hK
        go_simp
        refine hK _ ?_
        clear hK K
        apply mix_pure _ rfl
        · intro w' hw'
          have hcr := hw'.cells
          go_simp
          rfl
        intro K hK
        go_simp
        refine hK _ ?_
        clear hK K
        refine mix_nil ?_
        have HK := Lib.hid (show Bel w6 w20 from Bel.trans (by repeat (first | assumption | exact Bel.refl _ | refine Bel.drew ?_ | refine Bel.drewN ?_ _ | refine Bel.alloc ?_ _ | refine Bel.setCell ?_ (by simp <;> omega) _ | refine Bel.trans ?_ (by assumption))) hcur)
        replace HY := Lib.hid (HY.out.bel HK.out)
        replace HB := Lib.hid (HB.out.trans HK.out)
        replace u0 := HK.out.cell u0
        replace u1 := HK.out.cell u1
        replace u2 := HK.out.cell u2
        replace u3 := HK.out.cell u3
        replace u4 := HK.out.cell u4
        clear lu
        have lu := cell_lt u0
        clear y0 y1 y2 y3 y4 y5 ly
        obtain ⟨y0, y1, y2, y3, y4, y5⟩ := HY.out
        have ly := cell_lt y0
        clear hcur HK
        go_wp2_with fail
        refine (HWK.out _ (HB.out.trans (by repeat (first | assumption | exact Bel.refl _ | refine Bel.drew ?_ | refine Bel.drewN ?_ _ | refine Bel.alloc ?_ _ | refine Bel.setCell ?_ (by simp <;> omega) _ | refine Bel.trans ?_ (by assumption))))).mono ?_
        rintro e w21 ⟨rfl, hb⟩
        have HK := Lib.hid (show Bel w20 w21 from Bel.trans (by repeat (first | assumption | exact Bel.refl _ | refine Bel.drew ?_ | refine Bel.drewN ?_ _ | refine Bel.alloc ?_ _ | refine Bel.setCell ?_ (by simp <;> omega) _ | refine Bel.trans ?_ (by assumption))) hb)
        replace HY := Lib.hid (HY.out.bel HK.out)
        replace HB := Lib.hid (HB.out.trans HK.out)
        replace u0 := HK.out.cell u0
        replace u1 := HK.out.cell u1
        replace u2 := HK.out.cell u2
        replace u3 := HK.out.cell u3
        replace u4 := HK.out.cell u4
        clear lu
        have lu := cell_lt u0
        clear y0 y1 y2 y3 y4 y5 ly
        obtain ⟨y0, y1, y2, y3, y4, y5⟩ := HY.out
        have ly := cell_lt y0
        clear hb HK
        go_wp2
        go_ret
        exact ⟨rfl, HB.out⟩
      · skip
        rw [Int.toNat_natCast] at HBC HLC
        have hki : (k : Int) < (b.doors.length : Int) := by omega
        have d2 := HB.out.cell (HDC.out k hk).2.2
        have ld := cell_lt d2
        replace HWI := Lib.hid (HWI.out (atD b.doors k).cost)
        cases hwi : withinB c 0 (atD b.doors k).cost
        · skip
          rw [hwi] at HWI
          clear hwi HBC HLC HFR
          generalize (atD b.doors k).cost = dco at *
          go_wp2
          refine wp_region_mixB (Plan.seq [0, 1, 2, 1003, 4, 5, 6, 7, 8, 9, 10, 11, 12, 13, 14, 1015, 16, 17] .nil) (by kernel_rfl) (by kernel_rfl) (fun hcur => ?_)
          simp only [Plan.seq, Plan.fill, List.getD_cons_zero, List.getD_cons_succ, Nat.reduceLT, ↓reduceIte, Nat.reduceSub]
          apply mix_pure _ rfl
          · intro w' hw'
            have hcr := hw'.cells
            go_simp
            rfl
          intro K hK
          go_simp
          refine hK _ ?_
          clear hK K
          apply mix_pure _ rfl
          · intro w' hw'
            have hcr := hw'.cells
            go_simp
            rfl
          intro K hK
          go_simp
          refine hK _ ?_
          clear hK K
          apply mix_pure _ rfl
          · intro w' hw'
            have hcr := hw'.cells
            go_simp
            rfl
          intro K hK
          go_simp
          refine hK _ ?_
          clear hK K
          refine mix_act rfl (fun K hK => ?_)
          go_simp
          refine (HID.out _ (HB.out.trans hcur)).mono ?_
          rintro e w20 ⟨rfl, hb⟩
          simp only []
          refine hK _ _ (hcur.trans hb) (fun hcur => ?_)
          clear hK K hb
          apply mix_pure _ rfl
          · intro w' hw'
            have hcr := hw'.cells
            go_simp
            rfl
          intro K hK
          go_simp
          refine hK _ ?_
          clear hK K
          apply mix_pure _ rfl
          · intro w' hw'
            have hcr := hw'.cells
            go_simp
            rfl
          intro K hK
          go_simp
          refine hK _ ?_
          clear hK K
          apply mix_pureG _ (by go_simp)
          · intro w' hw'
            have hcr := hw'.cells
            go_simp
            rfl
          intro K hK
          go_simp
          refine hK _ ?_
          clear hK K
          apply mix_pureG _ (by go_simp)
          · intro w' hw'
            have hcr := hw'.cells
            go_simp
            rfl
          intro K hK
          go_simp
          refine hK _ ?_
          clear hK K
          apply mix_pureG _ (by go_simp)
          · intro w' hw'
            have hcr := hw'.cells
            go_simp
            rfl
          intro K hK
          go_simp
          refine hK _ ?_
          clear hK K
          apply mix_pureG _ (by go_simp)
          · intro w' hw'
            have hcr := hw'.cells
            go_simp
            rfl
          intro K hK
          go_simp
          refine hK _ ?_
          clear hK K
          apply mix_pureG _ (by go_simp)
          · intro w' hw'
            have hcr := hw'.cells
            go_simp
            rfl
          intro K hK
          go_simp
          refine hK _ ?_
          clear hK K
          apply mix_pureG _ (by go_simp)
          · intro w' hw'
            have hcr := hw'.cells
            go_simp
            rfl
          intro K hK
          go_simp
          refine hK _ ?_
          clear hK K
          apply mix_pureG _ (by go_simp)
          · intro w' hw'
            have hcr := hw'.cells
            go_simp
            rfl
          intro K hK
          go_simp
          refine hK _ ?_
          clear hK K
          apply mix_pureG _ (by go_simp)
          · intro w' hw'
            have hcr := hw'.cells
            go_simp
            rfl
          intro K hK
          go_simp
          refine hK _ ?_
          clear hK K
          apply mix_pureG _ (by go_simp)
          · intro w' hw'
            have hcr := hw'.cells
            go_simp
            rfl
          intro K hK
          go_simp
          refine hK _ ?_
          clear hK K
          refine mix_actG (by go_simp) (fun K hK => ?_)
          go_simp
          refine (HWI.out _).mono ?_
          rintro e wq ⟨rfl, rfl⟩
          simp only []
          refine hK _ _ hcur (fun hcur => ?_)
          clear hK K
          apply mix_pureG _ (by go_simp)
          · intro w' hw'
            have hcr := hw'.cells
            go_simp
            rfl
          intro K hK
          go_simp
          refine hK _ ?_
          clear hK K
          apply mix_pure _ rfl
          · intro w' hw'
            have hcr := hw'.cells
            go_simp
            rfl
          intro K hK
          go_simp
          refine hK _ ?_
          clear hK K
          refine mix_nil ?_
          clear d2 ld
          have HK := Lib.hid (show Bel w6 w20 from Bel.trans (by repeat (first | assumption | exact Bel.refl _ | refine Bel.drew ?_ | refine Bel.drewN ?_ _ | refine Bel.alloc ?_ _ | refine Bel.setCell ?_ (by simp <;> omega) _ | refine Bel.trans ?_ (by assumption))) hcur)
          replace HY := Lib.hid (HY.out.bel HK.out)
          replace HB := Lib.hid (HB.out.trans HK.out)
          replace u0 := HK.out.cell u0
          replace u1 := HK.out.cell u1
          replace u2 := HK.out.cell u2
          replace u3 := HK.out.cell u3
          replace u4 := HK.out.cell u4
          clear lu
          have lu := cell_lt u0
          clear y0 y1 y2 y3 y4 y5 ly
          obtain ⟨y0, y1, y2, y3, y4, y5⟩ := HY.out
          have ly := cell_lt y0
          clear hcur HK
          go_wp2_with fail
          refine (HWK.out _ (HB.out.trans (by repeat (first | assumption | exact Bel.refl _ | refine Bel.drew ?_ | refine Bel.drewN ?_ _ | refine Bel.alloc ?_ _ | refine Bel.setCell ?_ (by simp <;> omega) _ | refine Bel.trans ?_ (by assumption))))).mono ?_
          rintro e w21 ⟨rfl, hb⟩
          have HK := Lib.hid (show Bel w20 w21 from Bel.trans (by repeat (first | assumption | exact Bel.refl _ | refine Bel.drew ?_ | refine Bel.drewN ?_ _ | refine Bel.alloc ?_ _ | refine Bel.setCell ?_ (by simp <;> omega) _ | refine Bel.trans ?_ (by assumption))) hb)
          replace HY := Lib.hid (HY.out.bel HK.out)
          replace HB := Lib.hid (HB.out.trans HK.out)
          replace u0 := HK.out.cell u0
          replace u1 := HK.out.cell u1
          replace u2 := HK.out.cell u2
          replace u3 := HK.out.cell u3
          replace u4 := HK.out.cell u4
          clear lu
          have lu := cell_lt u0
          clear y0 y1 y2 y3 y4 y5 ly
          obtain ⟨y0, y1, y2, y3, y4, y5⟩ := HY.out
          have ly := cell_lt y0
          clear hb HK
          go_wp2
          go_ret
          exact ⟨rfl, HB.out⟩
        · skip
          rw [hwi] at HWI
          obtain ⟨hw1, hw2⟩ := withinB_true.1 hwi
          obtain ⟨k1, k2, k3, k4, k5, k6⟩ := HLC.out hk hw1 hw2
          have HBC1 := Lib.hid (HBC.out k1)
          have HFR1 := Lib.hid (HFR.out k)
          rw [k2] at HBC1
          rw [k3] at HFR1
          have lz := leastV_in (b := costB b k c) (looks := true)
          clear hwi HBC HLC HFR k1 k2 k3
          obtain ⟨k7, k8, k9⟩ := k6 rfl
          clear k6
          rw [if_pos rfl] at HFR1
          generalize (atD b.doors k).cost = dco at *
          go_wp2
          refine wp_region_mixB (Plan.seq [0, 1, 2, 1003, 4, 5, 6, 7, 8, 9, 10, 11, 12, 13, 14, 1015, 16, 17] .nil) (by kernel_rfl) (by kernel_rfl) (fun hcur => ?_)
          simp only [Plan.seq, Plan.fill, List.getD_cons_zero, List.getD_cons_succ, Nat.reduceLT, ↓reduceIte, Nat.reduceSub]
          apply mix_pure _ rfl
          · intro w' hw'
            have hcr := hw'.cells
            go_simp
            rfl
          intro K hK
          go_simp
          refine hK _ ?_
          clear hK K
          apply mix_pure _ rfl
          · intro w' hw'
            have hcr := hw'.cells
            go_simp
            rfl
          intro K hK
          go_simp
          refine hK _ ?_
          clear hK K
          apply mix_pure _ rfl
          · intro w' hw'
            have hcr := hw'.cells
            go_simp
            rfl
          intro K hK
          go_simp
          refine hK _ ?_
          clear hK K
          refine mix_act rfl (fun K hK => ?_)
          go_simp
          refine (HID.out _ (HB.out.trans hcur)).mono ?_
          rintro e w20 ⟨rfl, hb⟩
          simp only []
          refine hK _ _ (hcur.trans hb) (fun hcur => ?_)
          clear hK K hb
          apply mix_pure _ rfl
          · intro w' hw'
            have hcr := hw'.cells
            go_simp
            rfl
          intro K hK
          go_simp
          refine hK _ ?_
          clear hK K
          apply mix_pure _ rfl
          · intro w' hw'
            have hcr := hw'.cells
            go_simp
            rfl
          intro K hK
          go_simp
          refine hK _ ?_
          clear hK K
          apply mix_pureG _ (by go_simp)
          · intro w' hw'
            have hcr := hw'.cells
            go_simp
            rfl
          intro K hK
          go_simp
          refine hK _ ?_
          clear hK K
          apply mix_pureG _ (by go_simp)
          · intro w' hw'
            have hcr := hw'.cells
            go_simp
            rfl
          intro K hK
          go_simp
          refine hK _ ?_
          clear hK K
          apply mix_pureG _ (by go_simp)
          · intro w' hw'
            have hcr := hw'.cells
            go_simp
            rfl
          intro K hK
          go_simp
          refine hK _ ?_
          clear hK K
          apply mix_pureG _ (by go_simp)
          · intro w' hw'
            have hcr := hw'.cells
            go_simp
            rfl
          intro K hK
          go_simp
          refine hK _ ?_
          clear hK K
          apply mix_pureG _ (by go_simp)
          · intro w' hw'
            have hcr := hw'.cells
            go_simp
            rfl
          intro K hK
          go_simp
          refine hK _ ?_
          clear hK K
          apply mix_pureG _ (by go_simp)
          · intro w' hw'
            have hcr := hw'.cells
            go_simp
            rfl
          intro K hK
          go_simp
          refine hK _ ?_
          clear hK K
          apply mix_pureG _ (by go_simp)
          · intro w' hw'
            have hcr := hw'.cells
            go_simp
            rfl
          intro K hK
          go_simp
          refine hK _ ?_
          clear hK K
          apply mix_pureG _ (by go_simp)
          · intro w' hw'
            have hcr := hw'.cells
            go_simp
            rfl
          intro K hK
          go_simp
          refine hK _ ?_
          clear hK K
          apply mix_pureG _ (by go_simp)
          · intro w' hw'
            have hcr := hw'.cells
            go_simp
            rfl
          intro K hK
          go_simp
          refine hK _ ?_
          clear hK K
          refine mix_actG (by go_simp) (fun K hK => ?_)
          go_simp
          refine (HWI.out _).mono ?_
          rintro e wq ⟨rfl, rfl⟩
          simp only []
          refine hK _ _ hcur (fun hcur => ?_)
          clear hK K
          apply mix_pureG _ (by go_simp)
          · intro w' hw'
            have hcr := hw'.cells
            go_simp
            rfl
          intro K hK
          go_simp
          refine hK _ ?_
          clear hK K
          apply mix_pure _ rfl
          · intro w' hw'
            have hcr := hw'.cells
            go_simp
            rfl
          intro K hK
          go_simp
          refine hK _ ?_
          clear hK K
          refine mix_nil ?_
          clear d2 ld
          have HK := Lib.hid (show Bel w6 w20 from Bel.trans (by repeat (first | assumption | exact Bel.refl _ | refine Bel.drew ?_ | refine Bel.drewN ?_ _ | refine Bel.alloc ?_ _ | refine Bel.setCell ?_ (by simp <;> omega) _ | refine Bel.trans ?_ (by assumption))) hcur)
          replace HY := Lib.hid (HY.out.bel HK.out)
          replace HB := Lib.hid (HB.out.trans HK.out)
          replace u0 := HK.out.cell u0
          replace u1 := HK.out.cell u1
          replace u2 := HK.out.cell u2
          replace u3 := HK.out.cell u3
          replace u4 := HK.out.cell u4
          clear lu
          have lu := cell_lt u0
          clear y0 y1 y2 y3 y4 y5 ly
          obtain ⟨y0, y1, y2, y3, y4, y5⟩ := HY.out
          have ly := cell_lt y0
          clear hcur HK
          go_wp2_with fail
          refine (HCP1.out _ (HB.out.trans (by repeat (first | assumption | exact Bel.refl _ | refine Bel.drew ?_ | refine Bel.drewN ?_ _ | refine Bel.alloc ?_ _ | refine Bel.setCell ?_ (by simp <;> omega) _ | refine Bel.trans ?_ (by assumption))))).mono ?_
          rintro e w21 ⟨gd, cd, gs, cs, gp, cp, rfl, hown⟩
          have HOWN := Lib.hid hown
          have HD0 := Lib.hid (DSt.first (T1 := 25) (O2 := .cells #[.int .i64 (atD b.doors k).a, .int .i64 (atD b.doors k).b, .int .i64 c] 43) rfl rfl hown hk ⟨(atD b.doors k).a, (atD b.doors k).b, c⟩)
          have lgd : gd < w21.heap.size := own_lt hown.od rfl
          obtain ⟨own1, own2, own3⟩ := own_doors hown.od
          obtain ⟨e0, e1, e2⟩ := own1 k hk
          clear own1 hown
          have hixg := idxDoors (n := b.doors.length) (c := cd) (b := gd) (off := 0) (fun _ => rfl)
          unfold trapAgg
          have HU2 := Lib.hid (show _ ∧ _ ∧ _ ∧ _ ∧ _ from ⟨u0, u1, u2, u3, u4⟩)
          replace u0 := HOWN.out.bel.cell u0
          replace u1 := HOWN.out.bel.cell u1
          replace u2 := HOWN.out.bel.cell u2
          replace u3 := HOWN.out.bel.cell u3
          replace u4 := HOWN.out.bel.cell u4
          clear lu y0 y1 y2 y3 y4 y5 ly
          have lu := cell_lt u0
          obtain ⟨y0, y1, y2, y3, y4, y5⟩ := HY.out.bel HOWN.out.bel
          have ly := cell_lt y0
          go_upto_region 18 with fail
          generalize hW : World.alloc (World.alloc (World.setCell _ _ _) _) _ = W8
          have HD8 : Hid (DSt w20 b (b.doors.set k ⟨(atD b.doors k).a, (atD b.doors k).b, c⟩) w21.heap.size gd cd gs cs gp cp b.look b.eats W8) := Lib.hid (by rw [← hW]; exact HD0.out)
          clear hW HD0 HOWN e0 e1 e2 own2 own3 lgd
          clear u0 u1 u2 u3 u4
          obtain ⟨u0, u1, u2, u3, u4⟩ := HU2.out
          clear HU2
          have HK := Lib.hid HD8.out.bel
          replace HY := Lib.hid (HY.out.bel HK.out)
          replace HB := Lib.hid (HB.out.trans HK.out)
          replace u0 := HK.out.cell u0
          replace u1 := HK.out.cell u1
          replace u2 := HK.out.cell u2
          replace u3 := HK.out.cell u3
          replace u4 := HK.out.cell u4
          clear lu
          have lu := cell_lt u0
          clear y0 y1 y2 y3 y4 y5 ly
          obtain ⟨y0, y1, y2, y3, y4, y5⟩ := HY.out
          have ly := cell_lt y0
          have lo := HD8.out.lt
          have o0 := HD8.out.c0
          have o1 := HD8.out.c1
          have o2 := HD8.out.c2
          have o3 := HD8.out.c3
          have o4 := HD8.out.c4
          have o5 := HD8.out.c5
          have HT8 : Hid (BTrapAt W8 _ (costB b k c)) := Lib.hid (HD8.out.trap (by omega) (by omega) (by omega))
          clear HD8
          generalize leastV (costB b k c) true = z1 at *
          generalize leastV (costB b k c) false = z2 at *
          generalize freeV b k = fv at *
          go_wp2_with fail
          refine (HBC1.out _ _ (HB.out.trans (by repeat (first | assumption | exact Bel.refl _ | refine Bel.drew ?_ | refine Bel.drewN ?_ _ | refine Bel.alloc ?_ _ | refine Bel.setCell ?_ (by simp <;> omega) _ | refine Bel.trans ?_ (by assumption)))) HT8.out).mono ?_
          rintro e w23 ⟨rfl, hb⟩
          have HK := Lib.hid (show Bel W8 w23 from hb)
          clear hb o0 o1 o2 o3 o4 o5 lo HT8
          replace HY := Lib.hid (HY.out.bel HK.out)
          replace HB := Lib.hid (HB.out.trans HK.out)
          replace u0 := HK.out.cell u0
          replace u1 := HK.out.cell u1
          replace u2 := HK.out.cell u2
          replace u3 := HK.out.cell u3
          replace u4 := HK.out.cell u4
          clear lu
          have lu := cell_lt u0
          clear y0 y1 y2 y3 y4 y5 ly
          obtain ⟨y0, y1, y2, y3, y4, y5⟩ := HY.out
          have ly := cell_lt y0
          go_wp2_with fail
          refine (HFR1.out _ (HB.out.trans (by repeat (first | assumption | exact Bel.refl _ | refine Bel.drew ?_ | refine Bel.drewN ?_ _ | refine Bel.alloc ?_ _ | refine Bel.setCell ?_ (by simp <;> omega) _ | refine Bel.trans ?_ (by assumption))))).mono ?_
          rintro e w24 ⟨rfl, hb⟩
          have HK := Lib.hid (show Bel w23 w24 from Bel.trans (by repeat (first | assumption | exact Bel.refl _ | refine Bel.drew ?_ | refine Bel.drewN ?_ _ | refine Bel.alloc ?_ _ | refine Bel.setCell ?_ (by simp <;> omega) _ | refine Bel.trans ?_ (by assumption))) hb)
          replace HY := Lib.hid (HY.out.bel HK.out)
          replace HB := Lib.hid (HB.out.trans HK.out)
          replace u0 := HK.out.cell u0
          replace u1 := HK.out.cell u1
          replace u2 := HK.out.cell u2
          replace u3 := HK.out.cell u3
          replace u4 := HK.out.cell u4
          clear lu
          have lu := cell_lt u0
          clear y0 y1 y2 y3 y4 y5 ly
          obtain ⟨y0, y1, y2, y3, y4, y5⟩ := HY.out
          have ly := cell_lt y0
          clear hb HK
          have c1 : ¬ m < z1 := by omega
          have c2 : ¬ n < z2 := by omega
          have c3 : m - z1 ≤ fv := by omega
          have c4 : fv ≤ m := by omega
          by_cases hc0 : 0 < c
          · skip
            have c5 : (0:Int) < c := hc0
            go_wp2_with fail
            refine (HWK.out _ (HB.out.trans (by repeat (first | assumption | exact Bel.refl _ | refine Bel.drew ?_ | refine Bel.drewN ?_ _ | refine Bel.alloc ?_ _ | refine Bel.setCell ?_ (by simp <;> omega) _ | refine Bel.trans ?_ (by assumption))))).mono ?_
            rintro e w25 ⟨rfl, hb⟩
            have HK := Lib.hid (show Bel w24 w25 from Bel.trans (by repeat (first | assumption | exact Bel.refl _ | refine Bel.drew ?_ | refine Bel.drewN ?_ _ | refine Bel.alloc ?_ _ | refine Bel.setCell ?_ (by simp <;> omega) _ | refine Bel.trans ?_ (by assumption))) hb)
            replace HY := Lib.hid (HY.out.bel HK.out)
            replace HB := Lib.hid (HB.out.trans HK.out)
            replace u0 := HK.out.cell u0
            replace u1 := HK.out.cell u1
            replace u2 := HK.out.cell u2
            replace u3 := HK.out.cell u3
            replace u4 := HK.out.cell u4
            clear lu
            have lu := cell_lt u0
            clear y0 y1 y2 y3 y4 y5 ly
            obtain ⟨y0, y1, y2, y3, y4, y5⟩ := HY.out
            have ly := cell_lt y0
            clear hb HK
            go_wp2
            go_ret
            exact ⟨rfl, HB.out⟩
          · skip
            have c5 : ¬ (0:Int) < c := hc0
            obtain rfl : fv = m - z1 := k9 (by omega)
            go_wp2_with fail
            refine (HWK.out _ (HB.out.trans (by repeat (first | assumption | exact Bel.refl _ | refine Bel.drew ?_ | refine Bel.drewN ?_ _ | refine Bel.alloc ?_ _ | refine Bel.setCell ?_ (by simp <;> omega) _ | refine Bel.trans ?_ (by assumption))))).mono ?_
            rintro e w25 ⟨rfl, hb⟩
            have HK := Lib.hid (show Bel w24 w25 from Bel.trans (by repeat (first | assumption | exact Bel.refl _ | refine Bel.drew ?_ | refine Bel.drewN ?_ _ | refine Bel.alloc ?_ _ | refine Bel.setCell ?_ (by simp <;> omega) _ | refine Bel.trans ?_ (by assumption))) hb)
            replace HY := Lib.hid (HY.out.bel HK.out)
            replace HB := Lib.hid (HB.out.trans HK.out)
            replace u0 := HK.out.cell u0
            replace u1 := HK.out.cell u1
            replace u2 := HK.out.cell u2
            replace u3 := HK.out.cell u3
            replace u4 := HK.out.cell u4
            clear lu
            have lu := cell_lt u0
            clear y0 y1 y2 y3 y4 y5 ly
            obtain ⟨y0, y1, y2, y3, y4, y5⟩ := HY.out
            have ly := cell_lt y0
            clear hb HK
            go_wp2
            go_ret
            exact ⟨rfl, HB.out⟩
end Go.Proofs.YtogiidkofddhaaaDoor

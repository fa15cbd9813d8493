/-
  law: BeastsScript: by Script the beast comes to the sea from each of the Places, and Blind is lost; no step of it is a look: the call returns true for every trap, and changes nothing that was there
-/
import Derived.Test.YtogiidkofddhaaaDoorBWorks
import Derived.Test.YtogiidkofddhaaaDoorBLaw2
import Derived.Test.YtogiidkofddhaaaDoorBRef3
namespace Go.Proofs.YtogiidkofddhaaaDoor
open Go Go.RowKit Go.Shelf
set_option maxHeartbeats 8000000
set_option maxRecDepth 100000
theorem BeastsScript_any (b : BT) (v : Value) (w : World) (hf : FarAt w) (hv : BTrapAt w v b) : Calls Tryd.prog 7 #[v] w fun e w' => e = .returned (.bool true) ∧ Bel w w' := by
  have HWK := Lib.hid (fun wx (hx : Bel w wx) => works_any wx (hf.bel hx))
  have HFA := Lib.hid (fun wx (hx : Bel w wx) => hf.bel hx)
  have HV := Lib.hid (fun wx (hx : Bel w wx) => hv.bel hx)
  have HB := Lib.hid (Bel.refl w)
  have HRD := Lib.hid (fun wx (hx : Bel w wx) => bready_any b v wx (hv.bel hx))
  have HBO := Lib.hid (fun h wx (hx : Bel w wx) => both_any b h v wx (hf.bel hx) (hv.bel hx))
  have HSC := Lib.hid (fun wx (hx : Bel w wx) => Script_any b v wx (hf.bel hx) (hv.bel hx))
  have HAR := Lib.hid (fun lv wx (hx : Bel w wx) h => areSteps_any b (scriptA b) v lv wx (hv.bel hx) h)
  obtain ⟨da, dc, sa, sc, pa, pc, rfl, hd, hs, hp⟩ := hv.open
  have HBX := Lib.hid (fun wx hx => (BoxB.new (w := w) (b := b) (dv := .slice da b.doors.length dc) (sv := .slice sa b.seen.length sc) (pv := .slice pa b.places.length pc) (T := 25)).bel (w' := wx) hx)
  obtain ⟨pb, poff, hpa, hpl, _, hpc⟩ := hp.open
  have hixp := idxInts (c := pc) hpa
  have HPC := Lib.hid hpc
  clear hf hv hd hs hp hpa hpc
  cases hr : readyT b
  · rw [hr] at HRD
    clear hr
    go_enter Tryd.func7, Tryd.ntmps7
    go_wp2_with fail
    refine (HRD.out _ (HB.out.trans (by repeat (first | assumption | exact Bel.refl _ | refine Bel.drew ?_ | refine Bel.drewN ?_ _ | refine Bel.alloc ?_ _ | refine Bel.setCell ?_ (by simp <;> omega) _ | refine Bel.trans ?_ (by assumption))))).mono ?_
    rintro e w1 ⟨rfl, hb⟩
    have HY := Lib.hid (HBX.out _ hb)
    have HK := Lib.hid (show Bel w w1 from Bel.trans (by repeat (first | assumption | exact Bel.refl _ | refine Bel.drew ?_ | refine Bel.drewN ?_ _ | refine Bel.alloc ?_ _ | refine Bel.setCell ?_ (by simp <;> omega) _ | refine Bel.trans ?_ (by assumption))) hb)
    replace HB := Lib.hid (HB.out.trans HK.out)
    obtain ⟨y0, y1, y2, y3, y4, y5⟩ := HY.out
    have ly := cell_lt y0
    clear hb HK
    go_wp2_with fail
    refine (HWK.out _ (HB.out.trans (by repeat (first | assumption | exact Bel.refl _ | refine Bel.drew ?_ | refine Bel.drewN ?_ _ | refine Bel.alloc ?_ _ | refine Bel.setCell ?_ (by simp <;> omega) _ | refine Bel.trans ?_ (by assumption))))).mono ?_
    rintro e w2 ⟨rfl, hb⟩
    have HK := Lib.hid (show Bel w1 w2 from Bel.trans (by repeat (first | assumption | exact Bel.refl _ | refine Bel.drew ?_ | refine Bel.drewN ?_ _ | refine Bel.alloc ?_ _ | refine Bel.setCell ?_ (by simp <;> omega) _ | refine Bel.trans ?_ (by assumption))) hb)
    replace HY := Lib.hid (HY.out.bel HK.out)
    replace HB := Lib.hid (HB.out.trans HK.out)
    clear y0 y1 y2 y3 y4 y5 ly
    obtain ⟨y0, y1, y2, y3, y4, y5⟩ := HY.out
    have ly := cell_lt y0
    clear hb HK
    go_wp2
    go_ret
    exact ⟨rfl, HB.out⟩
  rw [hr] at HRD
  obtain ⟨hfar, hval⟩ := readyT_iff.1 hr
  have hfr := farB_false hfar
  have HBO1 := Lib.hid (HBO.out hval)
  obtain ⟨g0, g1, g2, g3, g4, _, _⟩ := both_law hval
  rw [g4] at HSC
  clear hr g3 g4 HBO
  cases hpl2 : planB b
  · rw [hpl2] at HBO1 HSC
    rw [if_neg (by simp)] at HSC
    clear hpl2
    generalize leastV b true = m at *
    generalize leastV b false = n at *
    go_enter Tryd.func7, Tryd.ntmps7
    go_wp2_with fail
    refine (HRD.out _ (HB.out.trans (by repeat (first | assumption | exact Bel.refl _ | refine Bel.drew ?_ | refine Bel.drewN ?_ _ | refine Bel.alloc ?_ _ | refine Bel.setCell ?_ (by simp <;> omega) _ | refine Bel.trans ?_ (by assumption))))).mono ?_
    rintro e w1 ⟨rfl, hb⟩
    have HY := Lib.hid (HBX.out _ hb)
    have HK := Lib.hid (show Bel w w1 from Bel.trans (by repeat (first | assumption | exact Bel.refl _ | refine Bel.drew ?_ | refine Bel.drewN ?_ _ | refine Bel.alloc ?_ _ | refine Bel.setCell ?_ (by simp <;> omega) _ | refine Bel.trans ?_ (by assumption))) hb)
    replace HB := Lib.hid (HB.out.trans HK.out)
    obtain ⟨y0, y1, y2, y3, y4, y5⟩ := HY.out
    have ly := cell_lt y0
    clear hb HK
    go_wp2_with fail
    refine (HBO1.out _ (HB.out.trans (by repeat (first | assumption | exact Bel.refl _ | refine Bel.drew ?_ | refine Bel.drewN ?_ _ | refine Bel.alloc ?_ _ | refine Bel.setCell ?_ (by simp <;> omega) _ | refine Bel.trans ?_ (by assumption))))).mono ?_
    rintro e w2 ⟨rfl, hb⟩
    have HK := Lib.hid (show Bel w1 w2 from Bel.trans (by repeat (first | assumption | exact Bel.refl _ | refine Bel.drew ?_ | refine Bel.drewN ?_ _ | refine Bel.alloc ?_ _ | refine Bel.setCell ?_ (by simp <;> omega) _ | refine Bel.trans ?_ (by assumption))) hb)
    replace HY := Lib.hid (HY.out.bel HK.out)
    replace HB := Lib.hid (HB.out.trans HK.out)
    clear y0 y1 y2 y3 y4 y5 ly
    obtain ⟨y0, y1, y2, y3, y4, y5⟩ := HY.out
    have ly := cell_lt y0
    clear hb HK
    go_wp2_with fail
    refine (HSC.out _ (HB.out.trans (by repeat (first | assumption | exact Bel.refl _ | refine Bel.drew ?_ | refine Bel.drewN ?_ _ | refine Bel.alloc ?_ _ | refine Bel.setCell ?_ (by simp <;> omega) _ | refine Bel.trans ?_ (by assumption))))).mono ?_
    rintro e w3 ⟨V3, rfl, hV3, hb⟩
    have HK := Lib.hid (show Bel w2 w3 from Bel.trans (by repeat (first | assumption | exact Bel.refl _ | refine Bel.drew ?_ | refine Bel.drewN ?_ _ | refine Bel.alloc ?_ _ | refine Bel.setCell ?_ (by simp <;> omega) _ | refine Bel.trans ?_ (by assumption))) hb)
    replace HY := Lib.hid (HY.out.bel HK.out)
    replace HB := Lib.hid (HB.out.trans HK.out)
    clear y0 y1 y2 y3 y4 y5 ly
    obtain ⟨y0, y1, y2, y3, y4, y5⟩ := HY.out
    have ly := cell_lt y0
    have HS3 := Lib.hid hV3
    clear hV3
    clear hb HK
    go_wp2_with fail
    refine (HWK.out _ (HB.out.trans (by repeat (first | assumption | exact Bel.refl _ | refine Bel.drew ?_ | refine Bel.drewN ?_ _ | refine Bel.alloc ?_ _ | refine Bel.setCell ?_ (by simp <;> omega) _ | refine Bel.trans ?_ (by assumption))))).mono ?_
    rintro e w4 ⟨rfl, hb⟩
    have HK := Lib.hid (show Bel w3 w4 from Bel.trans (by repeat (first | assumption | exact Bel.refl _ | refine Bel.drew ?_ | refine Bel.drewN ?_ _ | refine Bel.alloc ?_ _ | refine Bel.setCell ?_ (by simp <;> omega) _ | refine Bel.trans ?_ (by assumption))) hb)
    replace HY := Lib.hid (HY.out.bel HK.out)
    replace HB := Lib.hid (HB.out.trans HK.out)
    replace HS3 := Lib.hid (HS3.out.bel HK.out)
    clear y0 y1 y2 y3 y4 y5 ly
    obtain ⟨y0, y1, y2, y3, y4, y5⟩ := HY.out
    have ly := cell_lt y0
    clear hb HK
    go_wp2
    go_ret
    exact ⟨rfl, HB.out⟩
  rw [hpl2] at HBO1 HSC
  rw [if_pos rfl] at HSC
  obtain ⟨k1, k2, k3, k4, k5⟩ := script_law hval hpl2
  have hare : areB b (scriptA b) = true := by unfold areB; rw [k3, decide_eq_false (by omega)]; rfl
  rw [hare] at HAR
  have HCS := Lib.hid (fun lv wx (hx : Bel w wx) h => (R6CostsOf_any b hval (scriptA b) k3 (by omega) _ lv wx (HV.out wx hx) h).mono (R' := fun e w' => e = .returned (.int .i64 (leastV b false)) ∧ Bel wx w') fun e w' q => ⟨by rw [q.1, k2], q.2⟩)
  have HRN := Lib.hid (fun p (hp : p ∈ b.places) lv wx (hx : Bel w wx) h => (R6Ran_any b (scriptA b) k3 (by omega) p _ lv wx (HV.out wx hx) h).mono (R' := fun e w' => ∃ V, e = .returned (.tuple #[.int .i64 (-1), V]) ∧ Bel wx w') fun e w' ⟨V, q1, _, q2⟩ => ⟨V, by rw [q1, ran_run k3, k5 p hp], q2⟩)
  have HK4 := Lib.hid k4
  clear hpl2 hare k2 k3 k4 k5 hfar hval
  generalize leastV b true = m at *
  generalize leastV b false = n at *
  generalize scriptA b = l at *
  go_enter Tryd.func7, Tryd.ntmps7
  go_wp2_with fail
  refine (HRD.out _ (HB.out.trans (by repeat (first | assumption | exact Bel.refl _ | refine Bel.drew ?_ | refine Bel.drewN ?_ _ | refine Bel.alloc ?_ _ | refine Bel.setCell ?_ (by simp <;> omega) _ | refine Bel.trans ?_ (by assumption))))).mono ?_
  rintro e w1 ⟨rfl, hb⟩
  have HY := Lib.hid (HBX.out _ hb)
  have HK := Lib.hid (show Bel w w1 from Bel.trans (by repeat (first | assumption | exact Bel.refl _ | refine Bel.drew ?_ | refine Bel.drewN ?_ _ | refine Bel.alloc ?_ _ | refine Bel.setCell ?_ (by simp <;> omega) _ | refine Bel.trans ?_ (by assumption))) hb)
  replace HB := Lib.hid (HB.out.trans HK.out)
  obtain ⟨y0, y1, y2, y3, y4, y5⟩ := HY.out
  have ly := cell_lt y0
  clear hb HK
  go_wp2_with fail
  refine (HBO1.out _ (HB.out.trans (by repeat (first | assumption | exact Bel.refl _ | refine Bel.drew ?_ | refine Bel.drewN ?_ _ | refine Bel.alloc ?_ _ | refine Bel.setCell ?_ (by simp <;> omega) _ | refine Bel.trans ?_ (by assumption))))).mono ?_
  rintro e w2 ⟨rfl, hb⟩
  have HK := Lib.hid (show Bel w1 w2 from Bel.trans (by repeat (first | assumption | exact Bel.refl _ | refine Bel.drew ?_ | refine Bel.drewN ?_ _ | refine Bel.alloc ?_ _ | refine Bel.setCell ?_ (by simp <;> omega) _ | refine Bel.trans ?_ (by assumption))) hb)
  replace HY := Lib.hid (HY.out.bel HK.out)
  replace HB := Lib.hid (HB.out.trans HK.out)
  clear y0 y1 y2 y3 y4 y5 ly
  obtain ⟨y0, y1, y2, y3, y4, y5⟩ := HY.out
  have ly := cell_lt y0
  clear hb HK
  go_wp2_with fail
  refine (HSC.out _ (HB.out.trans (by repeat (first | assumption | exact Bel.refl _ | refine Bel.drew ?_ | refine Bel.drewN ?_ _ | refine Bel.alloc ?_ _ | refine Bel.setCell ?_ (by simp <;> omega) _ | refine Bel.trans ?_ (by assumption))))).mono ?_
  rintro e w3 ⟨V3, rfl, hV3, hb⟩
  have HK := Lib.hid (show Bel w2 w3 from Bel.trans (by repeat (first | assumption | exact Bel.refl _ | refine Bel.drew ?_ | refine Bel.drewN ?_ _ | refine Bel.alloc ?_ _ | refine Bel.setCell ?_ (by simp <;> omega) _ | refine Bel.trans ?_ (by assumption))) hb)
  replace HY := Lib.hid (HY.out.bel HK.out)
  replace HB := Lib.hid (HB.out.trans HK.out)
  clear y0 y1 y2 y3 y4 y5 ly
  obtain ⟨y0, y1, y2, y3, y4, y5⟩ := HY.out
  have ly := cell_lt y0
  have HS3 := Lib.hid hV3
  clear hV3
  clear hb HK
  obtain ⟨la, lc, lb, loff, hle, hla, ⟨hll, _⟩, hlc⟩ := HS3.out
  subst hle
  have hixl := idxSteps (c := lc) hla
  have HLC := Lib.hid hlc
  have HK35 := Lib.hid (Bel.refl w3)
  clear hla hlc
  go_wp2_with fail
  refine (HAR.out _ _ (HB.out.trans (by repeat (first | assumption | exact Bel.refl _ | refine Bel.drew ?_ | refine Bel.drewN ?_ _ | refine Bel.alloc ?_ _ | refine Bel.setCell ?_ (by simp <;> omega) _ | refine Bel.trans ?_ (by assumption)))) (HS3.out.bel (by repeat (first | assumption | exact Bel.refl _ | refine Bel.drew ?_ | refine Bel.drewN ?_ _ | refine Bel.alloc ?_ _ | refine Bel.setCell ?_ (by simp <;> omega) _ | refine Bel.trans ?_ (by assumption))))).mono ?_
  rintro e w4 ⟨rfl, hb⟩
  have HK := Lib.hid (show Bel w3 w4 from Bel.trans (by repeat (first | assumption | exact Bel.refl _ | refine Bel.drew ?_ | refine Bel.drewN ?_ _ | refine Bel.alloc ?_ _ | refine Bel.setCell ?_ (by simp <;> omega) _ | refine Bel.trans ?_ (by assumption))) hb)
  replace HY := Lib.hid (HY.out.bel HK.out)
  replace HB := Lib.hid (HB.out.trans HK.out)
  replace HK35 := Lib.hid (HK35.out.trans HK.out)
  replace HS3 := Lib.hid (HS3.out.bel HK.out)
  clear y0 y1 y2 y3 y4 y5 ly
  obtain ⟨y0, y1, y2, y3, y4, y5⟩ := HY.out
  have ly := cell_lt y0
  clear hb HK
  go_wp2_with fail
  refine (HCS.out _ _ (HB.out.trans (by repeat (first | assumption | exact Bel.refl _ | refine Bel.drew ?_ | refine Bel.drewN ?_ _ | refine Bel.alloc ?_ _ | refine Bel.setCell ?_ (by simp <;> omega) _ | refine Bel.trans ?_ (by assumption)))) (HS3.out.bel (by repeat (first | assumption | exact Bel.refl _ | refine Bel.drew ?_ | refine Bel.drewN ?_ _ | refine Bel.alloc ?_ _ | refine Bel.setCell ?_ (by simp <;> omega) _ | refine Bel.trans ?_ (by assumption))))).mono ?_
  rintro e w5 ⟨rfl, hb⟩
  have HK := Lib.hid (show Bel w4 w5 from Bel.trans (by repeat (first | assumption | exact Bel.refl _ | refine Bel.drew ?_ | refine Bel.drewN ?_ _ | refine Bel.alloc ?_ _ | refine Bel.setCell ?_ (by simp <;> omega) _ | refine Bel.trans ?_ (by assumption))) hb)
  replace HY := Lib.hid (HY.out.bel HK.out)
  replace HB := Lib.hid (HB.out.trans HK.out)
  replace HK35 := Lib.hid (HK35.out.trans HK.out)
  replace HS3 := Lib.hid (HS3.out.bel HK.out)
  clear y0 y1 y2 y3 y4 y5 ly
  obtain ⟨y0, y1, y2, y3, y4, y5⟩ := HY.out
  have ly := cell_lt y0
  clear hb HK
  have HL5 := Lib.hid (show ∀ i, i < l.length → w5.cell? ⟨lb, loff + i * 2, none⟩ = some (.int .i64 (atS l i).k) ∧ w5.cell? ⟨lb, loff + i * 2 + 1, none⟩ = some (.int .i64 (atS l i).x) from fun i hi => ⟨(HK35.out).cell (HLC.out i hi).1, (HK35.out).cell (HLC.out i hi).2⟩)
  go_wp2
  clear y0 y1 y2 y3 y4 y5 ly
  go_loopw [9] (fun i wr => ∃ k : Nat, k ≤ l.length ∧ i = .int .i64 k ∧ Bel w5 wr) (fun i _ => l.length - (intOf i).toNat)
  case atStart => exact ⟨0, by omega, rfl, Bel.refl _⟩
  case round =>
    obtain ⟨k, hk, rfl, hw⟩ := hrel
    have HW := Lib.hid hw
    by_cases hlt : k < l.length
    · have hlti : (k : Int) < (l.length : Int) := by omega
      obtain ⟨e0, e1⟩ := HL5.out k hlt
      replace e0 := hw.cell e0
      have hk1 := HK4.out k hlt
      have b1 : ((atS l k).k != 1) = false := by rw [hk1]; rfl
      clear hw hk1
      generalize atS l k = x at *
      go_wp2
      go_roundw
      case rel => exact ⟨k + 1, by omega, by go_num, HW.out⟩
      case measure => simp [intOf]; omega
    · have hlti : ¬ (k : Int) < (l.length : Int) := by omega
      obtain rfl : k = l.length := by omega
      have HY6 := Lib.hid (HY.out.bel hw)
      have HB6 := Lib.hid (HB.out.trans hw)
      have HS6 := Lib.hid (HS3.out.bel hw)
      clear hw
      go_wp2
      go_loopw [10] (fun i wx => ∃ k : Nat, k ≤ b.places.length ∧ i = .int .i64 k ∧ Bel wr wx) (fun i _ => b.places.length - (intOf i).toNat)
      case atStart => exact ⟨0, by omega, rfl, Bel.refl _⟩
      case round =>
        obtain ⟨k, hk, rfl, hw⟩ := hrel
        have HW2 := Lib.hid hw
        obtain ⟨y0, y1, y2, y3, y4, y5⟩ := HY6.out.bel hw
        have ly := cell_lt y0
        have HBW := Lib.hid (HB6.out.trans hw)
        by_cases hlt : k < b.places.length
        · have hlti2 : (k : Int) < (b.places.length : Int) := by omega
          have q0 := HBW.out.cell (HPC.out k hlt)
          have lq := cell_lt q0
          have HRK := Lib.hid (fun lv wx hx h => HRN.out (at0 b.places k) (getD_mem b.places k 0 hlt) lv wx hx h)
          have HS7 := Lib.hid (HS6.out.bel hw)
          clear hw
          generalize at0 b.places k = p at *
          go_wp2
          refine wp_region_mixB (Plan.seq [0, 1, 2, 3, 4, 5, 6, 1007, 8, 9, 10, 11, 12] .nil) (by kernel_rfl) (by kernel_rfl) (fun hcur => ?_)
          simp only [Plan.seq, Plan.fill, List.getD_cons_zero, List.getD_cons_succ, Nat.reduceLT, ↓reduceIte, Nat.reduceSub]
          apply mix_pure _ rfl
          · intro w' hw'
            have hcr := hw'.cells
            go_simp
            rfl
          intro K hK
          go_simp
          refine hK _ ?_
          clear hK K
          apply mix_pure _ rfl
          · intro w' hw'
            have hcr := hw'.cells
            go_simp
            rfl
          intro K hK
          go_simp
          refine hK _ ?_
          clear hK K
          apply mix_pure _ rfl
          · intro w' hw'
            have hcr := hw'.cells
            go_simp
            rfl
          intro K hK
          go_simp
          refine hK _ ?_
          clear hK K
          apply mix_pure _ rfl
          · intro w' hw'
            have hcr := hw'.cells
            go_simp
            rfl
          intro K hK
          go_simp
          refine hK _ ?_
          clear hK K
          apply mix_pure _ rfl
          · intro w' hw'
            have hcr := hw'.cells
            go_simp
            rfl
          intro K hK
          go_simp
          refine hK _ ?_
          clear hK K
          apply mix_pure _ rfl
          · intro w' hw'
            have hcr := hw'.cells
            go_simp
            rfl
          intro K hK
          go_simp
          refine hK _ ?_
          clear hK K
          apply mix_pure _ rfl
          · intro w' hw'
            have hcr := hw'.cells
            go_simp
            rfl
          intro K hK
          go_simp
          refine hK _ ?_
          clear hK K
          refine mix_act rfl (fun K hK => ?_)
          go_simp
          refine (HRK.out _ _ (HBW.out.trans hcur) (HS7.out.bel hcur)).mono ?_
          rintro e w8 ⟨V8, rfl, hb⟩
          simp only []
          refine hK _ _ (hcur.trans hb) (fun hcur => ?_)
          clear hK K hb
          apply mix_pure _ rfl
          · intro w' hw'
            have hcr := hw'.cells
            go_simp
            rfl
          intro K hK
          go_simp
          refine hK _ ?_
          clear hK K
          apply mix_pure _ rfl
          · intro w' hw'
            have hcr := hw'.cells
            go_simp
            rfl
          intro K hK
          go_simp
          refine hK _ ?_
          clear hK K
          apply mix_pure _ rfl
          · intro w' hw'
            have hcr := hw'.cells
            go_simp
            rfl
          intro K hK
          go_simp
          refine hK _ ?_
          clear hK K
          apply mix_pure _ rfl
          · intro w' hw'
            have hcr := hw'.cells
            go_simp
            rfl
          intro K hK
          go_simp
          refine hK _ ?_
          clear hK K
          apply mix_pure _ rfl
          · intro w' hw'
            have hcr := hw'.cells
            go_simp
            rfl
          intro K hK
          go_simp
          refine hK _ ?_
          clear hK K
          refine mix_nil ?_
          have HF := Lib.hid (HW2.out.trans hcur)
          clear hcur y0 y1 y2 y3 y4 y5 ly q0 lq
          go_wp2
          go_roundw
          case rel => exact ⟨k + 1, by omega, by go_num, HF.out⟩
          case measure => simp [intOf]; omega
        · have hlti2 : ¬ (k : Int) < (b.places.length : Int) := by omega
          clear hw
          go_wp2_with fail
          refine (HWK.out _ HBW.out).mono ?_
          rintro e w9 ⟨rfl, hb⟩
          have HF := Lib.hid (HBW.out.trans hb)
          clear hb
          go_wp2
          go_ret
          exact ⟨rfl, HF.out⟩
end Go.Proofs.YtogiidkofddhaaaDoor

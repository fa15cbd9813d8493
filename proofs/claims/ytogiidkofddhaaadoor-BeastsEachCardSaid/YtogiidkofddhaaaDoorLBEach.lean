/-
  law: BeastsEach: by Path the beast comes to the sea, and Paid is lost; nobody loses more than Least, and from some place just as much is lost; Path begins with Next: the call returns true for every trap and chamber, and changes nothing that was there
-/
import Derived.Test.YtogiidkofddhaaaDoorBWorks
import Derived.Test.YtogiidkofddhaaaDoorBLaw2
import Derived.Test.YtogiidkofddhaaaDoorBRef3
namespace Go.Proofs.YtogiidkofddhaaaDoor
open Go Go.RowKit Go.Shelf
set_option maxHeartbeats 8000000
set_option maxRecDepth 100000
noncomputable def foundTo (b : BT) : Nat → Bool
  | 0 => false
  | k + 1 => foundTo b k || decide (paidA b (at0 b.places k) = leastV b true)
theorem foundTo_of {b : BT} {j : Nat} : ∀ k, j < k → paidA b (at0 b.places j) = leastV b true → foundTo b k = true
  | k + 1, hj, h => by
    unfold foundTo
    by_cases e : j = k
    · subst e; rw [decide_eq_true h]; simp
    · rw [foundTo_of k (by omega) h]; rfl
theorem BeastsEach_any (b : BT) (v : Value) (c : Int) (w : World) (hf : FarAt w) (hv : BTrapAt w v b) : Calls Tryd.prog 5 #[v, .int .i64 c] w fun e w' => e = .returned (.bool true) ∧ Bel w w' := by
  have HWK := Lib.hid (fun wx (hx : Bel w wx) => works_any wx (hf.bel hx))
  have HFA := Lib.hid (fun wx (hx : Bel w wx) => hf.bel hx)
  have HV := Lib.hid (fun wx (hx : Bel w wx) => hv.bel hx)
  have HB := Lib.hid (Bel.refl w)
  have HRD := Lib.hid (fun wx (hx : Bel w wx) => bready_any b v wx (hv.bel hx))
  have HBO := Lib.hid (fun h wx (hx : Bel w wx) => both_any b h v wx (hf.bel hx) (hv.bel hx))
  have HPT := Lib.hid (fun wx (hx : Bel w wx) => Path_any b v c wx (hf.bel hx) (hv.bel hx))
  have HNX := Lib.hid (fun wx (hx : Bel w wx) => Next_any b v wx (hf.bel hx) (hv.bel hx))
  have HPD := Lib.hid (fun p wx (hx : Bel w wx) => Paid_any b v p wx (hf.bel hx) (hv.bel hx))
  have HAR := Lib.hid (fun lv wx (hx : Bel w wx) h => areSteps_any b (pathA b c) v lv wx (hv.bel hx) h)
  obtain ⟨da, dc, sa, sc, pa, pc, rfl, hd, hs, hp⟩ := hv.open
  have HBX := Lib.hid (fun wx hx => (BoxB.new (w := w) (b := b) (dv := .slice da b.doors.length dc) (sv := .slice sa b.seen.length sc) (pv := .slice pa b.places.length pc) (T := 25)).bel (w' := wx) hx)
  obtain ⟨pb, poff, hpa, hpl, _, hpc⟩ := hp.open
  have hixp := idxInts (c := pc) hpa
  have HPC := Lib.hid hpc
  have HIN := Lib.hid (fun wx (hx : Bel w wx) => In_any (.slice pa b.places.length pc) b.places c wx (hp.bel hx))
  clear hf hv hd hs hp hpa hpc
  cases hr : readyT b
  · rw [hr] at HRD
    clear hr
    go_enter Tryd.func5, Tryd.ntmps5
    go_wp2_with fail
    refine (HRD.out _ (HB.out.trans (by repeat (first | assumption | exact Bel.refl _ | refine Bel.drew ?_ | refine Bel.drewN ?_ _ | refine Bel.alloc ?_ _ | refine Bel.setCell ?_ (by simp <;> omega) _ | refine Bel.trans ?_ (by assumption))))).mono ?_
    rintro e w1 ⟨rfl, hb⟩
    have HY := Lib.hid (HBX.out _ hb)
    have HK := Lib.hid (show Bel w w1 from Bel.trans (by repeat (first | assumption | exact Bel.refl _ | refine Bel.drew ?_ | refine Bel.drewN ?_ _ | refine Bel.alloc ?_ _ | refine Bel.setCell ?_ (by simp <;> omega) _ | refine Bel.trans ?_ (by assumption))) hb)
    replace HB := Lib.hid (HB.out.trans HK.out)
    obtain ⟨y0, y1, y2, y3, y4, y5⟩ := HY.out
    have ly := cell_lt y0
    clear hb HK
    go_wp2_with fail
    refine (HWK.out _ (HB.out.trans (by repeat (first | assumption | exact Bel.refl _ | refine Bel.drew ?_ | refine Bel.drewN ?_ _ | refine Bel.alloc ?_ _ | refine Bel.setCell ?_ (by simp <;> omega) _ | refine Bel.trans ?_ (by assumption))))).mono ?_
    rintro e w2 ⟨rfl, hb⟩
    have HK := Lib.hid (show Bel w1 w2 from Bel.trans (by repeat (first | assumption | exact Bel.refl _ | refine Bel.drew ?_ | refine Bel.drewN ?_ _ | refine Bel.alloc ?_ _ | refine Bel.setCell ?_ (by simp <;> omega) _ | refine Bel.trans ?_ (by assumption))) hb)
    replace HY := Lib.hid (HY.out.bel HK.out)
    replace HB := Lib.hid (HB.out.trans HK.out)
    clear y0 y1 y2 y3 y4 y5 ly
    obtain ⟨y0, y1, y2, y3, y4, y5⟩ := HY.out
    have ly := cell_lt y0
    clear hb HK
    go_wp2
    go_ret
    exact ⟨rfl, HB.out⟩
  rw [hr] at HRD
  cases hi : inB b.places c
  · rw [hi] at HIN
    clear hr hi
    go_enter Tryd.func5, Tryd.ntmps5
    go_wp2_with fail
    refine (HRD.out _ (HB.out.trans (by repeat (first | assumption | exact Bel.refl _ | refine Bel.drew ?_ | refine Bel.drewN ?_ _ | refine Bel.alloc ?_ _ | refine Bel.setCell ?_ (by simp <;> omega) _ | refine Bel.trans ?_ (by assumption))))).mono ?_
    rintro e w1 ⟨rfl, hb⟩
    have HY := Lib.hid (HBX.out _ hb)
    have HK := Lib.hid (show Bel w w1 from Bel.trans (by repeat (first | assumption | exact Bel.refl _ | refine Bel.drew ?_ | refine Bel.drewN ?_ _ | refine Bel.alloc ?_ _ | refine Bel.setCell ?_ (by simp <;> omega) _ | refine Bel.trans ?_ (by assumption))) hb)
    replace HB := Lib.hid (HB.out.trans HK.out)
    obtain ⟨y0, y1, y2, y3, y4, y5⟩ := HY.out
    have ly := cell_lt y0
    clear hb HK
    go_wp2_with fail
    refine (HIN.out _ (HB.out.trans (by repeat (first | assumption | exact Bel.refl _ | refine Bel.drew ?_ | refine Bel.drewN ?_ _ | refine Bel.alloc ?_ _ | refine Bel.setCell ?_ (by simp <;> omega) _ | refine Bel.trans ?_ (by assumption))))).mono ?_
    rintro e wq ⟨rfl, rfl⟩
    go_wp2_with fail
    refine (HWK.out _ (HB.out.trans (by repeat (first | assumption | exact Bel.refl _ | refine Bel.drew ?_ | refine Bel.drewN ?_ _ | refine Bel.alloc ?_ _ | refine Bel.setCell ?_ (by simp <;> omega) _ | refine Bel.trans ?_ (by assumption))))).mono ?_
    rintro e w2 ⟨rfl, hb⟩
    have HK := Lib.hid (show Bel w1 w2 from Bel.trans (by repeat (first | assumption | exact Bel.refl _ | refine Bel.drew ?_ | refine Bel.drewN ?_ _ | refine Bel.alloc ?_ _ | refine Bel.setCell ?_ (by simp <;> omega) _ | refine Bel.trans ?_ (by assumption))) hb)
    replace HY := Lib.hid (HY.out.bel HK.out)
    replace HB := Lib.hid (HB.out.trans HK.out)
    clear y0 y1 y2 y3 y4 y5 ly
    obtain ⟨y0, y1, y2, y3, y4, y5⟩ := HY.out
    have ly := cell_lt y0
    clear hb HK
    go_wp2
    go_ret
    exact ⟨rfl, HB.out⟩
  rw [hi] at HIN
  have hc := inB_mem hi
  obtain ⟨hfar, hval⟩ := readyT_iff.1 hr
  have hfr := farB_false hfar
  have HBO1 := Lib.hid (HBO.out hval)
  obtain ⟨g0, g1, g2, g3, _, _, _⟩ := both_law hval
  rw [g3] at HNX
  clear hr hi g3 HBO
  cases hpl2 : planB b
  · rw [(path_no hval hpl2 hc).2] at HPT
    rw [hpl2] at HBO1 HNX
    rw [if_neg (by simp)] at HNX
    clear hpl2 HAR HPD
    generalize leastV b true = m at *
    generalize leastV b false = n at *
    go_enter Tryd.func5, Tryd.ntmps5
    go_wp2_with fail
    refine (HRD.out _ (HB.out.trans (by repeat (first | assumption | exact Bel.refl _ | refine Bel.drew ?_ | refine Bel.drewN ?_ _ | refine Bel.alloc ?_ _ | refine Bel.setCell ?_ (by simp <;> omega) _ | refine Bel.trans ?_ (by assumption))))).mono ?_
    rintro e w1 ⟨rfl, hb⟩
    have HY := Lib.hid (HBX.out _ hb)
    have HK := Lib.hid (show Bel w w1 from Bel.trans (by repeat (first | assumption | exact Bel.refl _ | refine Bel.drew ?_ | refine Bel.drewN ?_ _ | refine Bel.alloc ?_ _ | refine Bel.setCell ?_ (by simp <;> omega) _ | refine Bel.trans ?_ (by assumption))) hb)
    replace HB := Lib.hid (HB.out.trans HK.out)
    obtain ⟨y0, y1, y2, y3, y4, y5⟩ := HY.out
    have ly := cell_lt y0
    clear hb HK
    go_wp2_with fail
    refine (HIN.out _ (HB.out.trans (by repeat (first | assumption | exact Bel.refl _ | refine Bel.drew ?_ | refine Bel.drewN ?_ _ | refine Bel.alloc ?_ _ | refine Bel.setCell ?_ (by simp <;> omega) _ | refine Bel.trans ?_ (by assumption))))).mono ?_
    rintro e wq ⟨rfl, rfl⟩
    go_wp2_with fail
    refine (HBO1.out _ (HB.out.trans (by repeat (first | assumption | exact Bel.refl _ | refine Bel.drew ?_ | refine Bel.drewN ?_ _ | refine Bel.alloc ?_ _ | refine Bel.setCell ?_ (by simp <;> omega) _ | refine Bel.trans ?_ (by assumption))))).mono ?_
    rintro e w2 ⟨rfl, hb⟩
    have HK := Lib.hid (show Bel w1 w2 from Bel.trans (by repeat (first | assumption | exact Bel.refl _ | refine Bel.drew ?_ | refine Bel.drewN ?_ _ | refine Bel.alloc ?_ _ | refine Bel.setCell ?_ (by simp <;> omega) _ | refine Bel.trans ?_ (by assumption))) hb)
    replace HY := Lib.hid (HY.out.bel HK.out)
    replace HB := Lib.hid (HB.out.trans HK.out)
    clear y0 y1 y2 y3 y4 y5 ly
    obtain ⟨y0, y1, y2, y3, y4, y5⟩ := HY.out
    have ly := cell_lt y0
    clear hb HK
    go_wp2_with fail
    refine (HPT.out _ (HB.out.trans (by repeat (first | assumption | exact Bel.refl _ | refine Bel.drew ?_ | refine Bel.drewN ?_ _ | refine Bel.alloc ?_ _ | refine Bel.setCell ?_ (by simp <;> omega) _ | refine Bel.trans ?_ (by assumption))))).mono ?_
    rintro e w3 ⟨V3, rfl, hV3, hb⟩
    have HK := Lib.hid (show Bel w2 w3 from Bel.trans (by repeat (first | assumption | exact Bel.refl _ | refine Bel.drew ?_ | refine Bel.drewN ?_ _ | refine Bel.alloc ?_ _ | refine Bel.setCell ?_ (by simp <;> omega) _ | refine Bel.trans ?_ (by assumption))) hb)
    replace HY := Lib.hid (HY.out.bel HK.out)
    replace HB := Lib.hid (HB.out.trans HK.out)
    clear y0 y1 y2 y3 y4 y5 ly
    obtain ⟨y0, y1, y2, y3, y4, y5⟩ := HY.out
    have ly := cell_lt y0
    have HS3 := Lib.hid hV3
    clear hV3
    clear hb HK
    go_wp2_with fail
    refine (HNX.out _ (HB.out.trans (by repeat (first | assumption | exact Bel.refl _ | refine Bel.drew ?_ | refine Bel.drewN ?_ _ | refine Bel.alloc ?_ _ | refine Bel.setCell ?_ (by simp <;> omega) _ | refine Bel.trans ?_ (by assumption))))).mono ?_
    rintro e w4 ⟨rfl, hb⟩
    have HK := Lib.hid (show Bel w3 w4 from Bel.trans (by repeat (first | assumption | exact Bel.refl _ | refine Bel.drew ?_ | refine Bel.drewN ?_ _ | refine Bel.alloc ?_ _ | refine Bel.setCell ?_ (by simp <;> omega) _ | refine Bel.trans ?_ (by assumption))) hb)
    replace HY := Lib.hid (HY.out.bel HK.out)
    replace HB := Lib.hid (HB.out.trans HK.out)
    replace HS3 := Lib.hid (HS3.out.bel HK.out)
    clear y0 y1 y2 y3 y4 y5 ly
    obtain ⟨y0, y1, y2, y3, y4, y5⟩ := HY.out
    have ly := cell_lt y0
    clear hb HK
    go_wp2_with fail
    refine (HWK.out _ (HB.out.trans (by repeat (first | assumption | exact Bel.refl _ | refine Bel.drew ?_ | refine Bel.drewN ?_ _ | refine Bel.alloc ?_ _ | refine Bel.setCell ?_ (by simp <;> omega) _ | refine Bel.trans ?_ (by assumption))))).mono ?_
    rintro e w5 ⟨rfl, hb⟩
    have HK := Lib.hid (show Bel w4 w5 from Bel.trans (by repeat (first | assumption | exact Bel.refl _ | refine Bel.drew ?_ | refine Bel.drewN ?_ _ | refine Bel.alloc ?_ _ | refine Bel.setCell ?_ (by simp <;> omega) _ | refine Bel.trans ?_ (by assumption))) hb)
    replace HY := Lib.hid (HY.out.bel HK.out)
    replace HB := Lib.hid (HB.out.trans HK.out)
    replace HS3 := Lib.hid (HS3.out.bel HK.out)
    clear y0 y1 y2 y3 y4 y5 ly
    obtain ⟨y0, y1, y2, y3, y4, y5⟩ := HY.out
    have ly := cell_lt y0
    clear hb HK
    go_wp2
    go_ret
    exact ⟨rfl, HB.out⟩
  rw [hpl2] at HBO1 HNX
  rw [if_pos rfl] at HNX
  obtain ⟨k1, k2, k3, k4, k5, k6, k7, k8⟩ := each_law hval hpl2 hc
  have HEA := Lib.hid (fun p hp => each_law hval hpl2 (c := p) hp)
  obtain ⟨cw, hcw, hcw2⟩ := each_worst hval hpl2
  have HFT := Lib.hid (show foundTo b b.places.length = true by
    obtain ⟨j, hj, e⟩ := mem_getD b.places cw 0 hcw
    exact foundTo_of _ hj (by unfold at0; rw [e]; exact hcw2))
  have hare : areB b (pathA b c) = true := by unfold areB; rw [k4, decide_eq_false (by omega)]; rfl
  rw [hare] at HAR
  rw [k1] at HPT
  have HPC2 := Lib.hid (show costsL b (pathA b c) = paidA b c from rfl)
  have HCS := Lib.hid (fun lv wx (hx : Bel w wx) h => R6CostsOf_any b hval (pathA b c) k4 (by omega) _ lv wx (HV.out wx hx) h)
  rw [HPC2.out] at HCS
  have HRN := Lib.hid (fun lv wx (hx : Bel w wx) h => (R6Ran_any b (pathA b c) k4 (by omega) c _ lv wx (HV.out wx hx) h).mono (R' := fun e w' => ∃ V, e = .returned (.tuple #[.int .i64 (-1), V]) ∧ Bel wx w') fun e w' ⟨V, q1, _, q2⟩ => ⟨V, by rw [q1, ran_run k4, k6], q2⟩)
  have HFS := Lib.hid (fun k => show foundTo b (k + 1) = (foundTo b k || decide (paidA b (at0 b.places k) = leastV b true)) from rfl)
  have HF0 := Lib.hid (show foundTo b 0 = false from rfl)
  have hlp : (0 : Int) < ((pathA b c).length : Int) := by omega
  have hlz : (((pathA b c).length : Int) == 0) = false := by rw [beq_eq_false_iff_ne]; omega
  have hln : ¬ (pathA b c).length = 0 := by omega
  have HHD := Lib.hid k5
  clear hpl2 hare k1 k2 k4 k5 k6 k7 k8 hfar hcw hcw2 HPC2 hval
  generalize leastV b true = m at *
  generalize leastV b false = n at *
  generalize pathA b c = l at *
  generalize nextA b = nx at *
  go_enter Tryd.func5, Tryd.ntmps5
  go_wp2_with fail
  refine (HRD.out _ (HB.out.trans (by repeat (first | assumption | exact Bel.refl _ | refine Bel.drew ?_ | refine Bel.drewN ?_ _ | refine Bel.alloc ?_ _ | refine Bel.setCell ?_ (by simp <;> omega) _ | refine Bel.trans ?_ (by assumption))))).mono ?_
  rintro e w1 ⟨rfl, hb⟩
  have HY := Lib.hid (HBX.out _ hb)
  have HK := Lib.hid (show Bel w w1 from Bel.trans (by repeat (first | assumption | exact Bel.refl _ | refine Bel.drew ?_ | refine Bel.drewN ?_ _ | refine Bel.alloc ?_ _ | refine Bel.setCell ?_ (by simp <;> omega) _ | refine Bel.trans ?_ (by assumption))) hb)
  replace HB := Lib.hid (HB.out.trans HK.out)
  obtain ⟨y0, y1, y2, y3, y4, y5⟩ := HY.out
  have ly := cell_lt y0
  clear hb HK
  go_wp2_with fail
  refine (HIN.out _ (HB.out.trans (by repeat (first | assumption | exact Bel.refl _ | refine Bel.drew ?_ | refine Bel.drewN ?_ _ | refine Bel.alloc ?_ _ | refine Bel.setCell ?_ (by simp <;> omega) _ | refine Bel.trans ?_ (by assumption))))).mono ?_
  rintro e wq ⟨rfl, rfl⟩
  go_wp2_with fail
  refine (HBO1.out _ (HB.out.trans (by repeat (first | assumption | exact Bel.refl _ | refine Bel.drew ?_ | refine Bel.drewN ?_ _ | refine Bel.alloc ?_ _ | refine Bel.setCell ?_ (by simp <;> omega) _ | refine Bel.trans ?_ (by assumption))))).mono ?_
  rintro e w2 ⟨rfl, hb⟩
  have HK := Lib.hid (show Bel w1 w2 from Bel.trans (by repeat (first | assumption | exact Bel.refl _ | refine Bel.drew ?_ | refine Bel.drewN ?_ _ | refine Bel.alloc ?_ _ | refine Bel.setCell ?_ (by simp <;> omega) _ | refine Bel.trans ?_ (by assumption))) hb)
  replace HY := Lib.hid (HY.out.bel HK.out)
  replace HB := Lib.hid (HB.out.trans HK.out)
  clear y0 y1 y2 y3 y4 y5 ly
  obtain ⟨y0, y1, y2, y3, y4, y5⟩ := HY.out
  have ly := cell_lt y0
  clear hb HK
  go_wp2_with fail
  refine (HPT.out _ (HB.out.trans (by repeat (first | assumption | exact Bel.refl _ | refine Bel.drew ?_ | refine Bel.drewN ?_ _ | refine Bel.alloc ?_ _ | refine Bel.setCell ?_ (by simp <;> omega) _ | refine Bel.trans ?_ (by assumption))))).mono ?_
  rintro e w3 ⟨V3, rfl, hV3, hb⟩
  have HK := Lib.hid (show Bel w2 w3 from Bel.trans (by repeat (first | assumption | exact Bel.refl _ | refine Bel.drew ?_ | refine Bel.drewN ?_ _ | refine Bel.alloc ?_ _ | refine Bel.setCell ?_ (by simp <;> omega) _ | refine Bel.trans ?_ (by assumption))) hb)
  replace HY := Lib.hid (HY.out.bel HK.out)
  replace HB := Lib.hid (HB.out.trans HK.out)
  clear y0 y1 y2 y3 y4 y5 ly
  obtain ⟨y0, y1, y2, y3, y4, y5⟩ := HY.out
  have ly := cell_lt y0
  have HS3 := Lib.hid hV3
  clear hV3
  clear hb HK
  go_wp2_with fail
  refine (HNX.out _ (HB.out.trans (by repeat (first | assumption | exact Bel.refl _ | refine Bel.drew ?_ | refine Bel.drewN ?_ _ | refine Bel.alloc ?_ _ | refine Bel.setCell ?_ (by simp <;> omega) _ | refine Bel.trans ?_ (by assumption))))).mono ?_
  rintro e w4 ⟨rfl, hb⟩
  have HK := Lib.hid (show Bel w3 w4 from Bel.trans (by repeat (first | assumption | exact Bel.refl _ | refine Bel.drew ?_ | refine Bel.drewN ?_ _ | refine Bel.alloc ?_ _ | refine Bel.setCell ?_ (by simp <;> omega) _ | refine Bel.trans ?_ (by assumption))) hb)
  replace HY := Lib.hid (HY.out.bel HK.out)
  replace HB := Lib.hid (HB.out.trans HK.out)
  replace HS3 := Lib.hid (HS3.out.bel HK.out)
  clear y0 y1 y2 y3 y4 y5 ly
  obtain ⟨y0, y1, y2, y3, y4, y5⟩ := HY.out
  have ly := cell_lt y0
  clear hb HK
  obtain ⟨la, lc, lb, loff, hle, hla, ⟨hll, _⟩, hlc⟩ := HS3.out
  subst hle
  have hixl := idxSteps (c := lc) hla
  have hix0 : ∀ wx, (Instr.indexAt 29 (.slice la l.length lc) (.int .i64 0)).run Tryd.prog wx = .ok (.pointer (some ⟨lb, loff, none⟩)) wx := fun wx => by simpa using hixl wx 0 k3
  obtain ⟨e0, e1⟩ := hlc 0 k3
  rw [HHD.out] at e0 e1
  rw [Nat.zero_mul, Nat.add_zero] at e0 e1
  have hla1 := hla k3
  subst hla1
  have le := cell_lt e0
  go_wp2
  have s0 : (w4.alloc (.cells #[.int .i64 nx.k, .int .i64 nx.x] 50)).cell? ⟨w4.heap.size, 0, none⟩ = some (.int .i64 nx.k) := (row_facts (new_row rfl)).1 0
  have s1 : (w4.alloc (.cells #[.int .i64 nx.k, .int .i64 nx.x] 50)).cell? ⟨w4.heap.size, 1, none⟩ = some (.int .i64 nx.x) := (row_facts (new_row rfl)).1 1
  have HK := Lib.hid (show Bel w4 (w4.alloc (.cells #[.int .i64 nx.k, .int .i64 nx.x] 50)) from (Bel.refl w4).alloc _)
  generalize w4.alloc (.cells #[.int .i64 nx.k, .int .i64 nx.x] 50) = w6 at *
  replace HB := Lib.hid (HB.out.trans HK.out)
  replace HY := Lib.hid (HY.out.bel HK.out)
  replace HS3 := Lib.hid (HS3.out.bel HK.out)
  replace e0 := HK.out.cell e0
  replace e1 := HK.out.cell e1
  have le6 := cell_lt e0
  have ls6 := cell_lt s0
  clear y0 y1 y2 y3 y4 y5 ly HK
  obtain ⟨y0, y1, y2, y3, y4, y5⟩ := HY.out
  have ly := cell_lt y0
  refine wp_region_mixB (Plan.seq [0, 1, 1002, 3, 4, 5, 6, 7, 8, 9, 10, 11, 12, 13, 14, 15] .nil) (by kernel_rfl) (by kernel_rfl) (fun hcur => ?_)
  simp only [Plan.seq, Plan.fill, List.getD_cons_zero, List.getD_cons_succ, Nat.reduceLT, ↓reduceIte, Nat.reduceSub]
  apply mix_pure _ rfl
  · intro w' hw'
    have hcr := hw'.cells
    go_simp
    rfl
  intro K hK
  go_simp
  refine hK _ ?_
  clear hK K
  apply mix_pure _ rfl
  · intro w' hw'
    have hcr := hw'.cells
    go_simp
    rfl
  intro K hK
  go_simp
  refine hK _ ?_
  clear hK K
  refine mix_act rfl (fun K hK => ?_)
  go_simp
  refine (HAR.out _ _ (HB.out.trans hcur) (HS3.out.bel hcur)).mono ?_
  rintro e w7 ⟨rfl, hb⟩
  have hcr7 := hb.cells
  simp only []
  refine hK _ _ (hcur.trans hb) (fun hcur => ?_)
  clear hK K hb
  apply mix_pure _ rfl
  · intro w' hw'
    have hcr := hw'.cells
    go_simp
    rfl
  intro K hK
  go_simp
  refine hK _ ?_
  clear hK K
  apply mix_pure _ rfl
  · intro w' hw'
    have hcr := hw'.cells
    go_simp
    rfl
  intro K hK
  go_simp
  refine hK _ ?_
  clear hK K
  apply mix_pureG _ (by go_simp)
  · intro w' hw'
    have hcr := hw'.cells
    go_simp
    rfl
  intro K hK
  go_simp
  refine hK _ ?_
  clear hK K
  apply mix_pureG _ (by go_simp)
  · intro w' hw'
    have hcr := hw'.cells
    go_simp
    rfl
  intro K hK
  go_simp
  refine hK _ ?_
  clear hK K
  apply mix_pureG _ (by go_simp)
  · intro w' hw'
    have hcr := hw'.cells
    go_simp
    rfl
  intro K hK
  go_simp
  refine hK _ ?_
  clear hK K
  apply mix_pure _ rfl
  · intro w' hw'
    have hcr := hw'.cells
    go_simp
    rfl
  intro K hK
  go_simp
  refine hK _ ?_
  clear hK K
  apply mix_pure _ rfl
  · intro w' hw'
    have hcr := hw'.cells
    go_simp
    rfl
  intro K hK
  go_simp
  refine hK _ ?_
  clear hK K
  apply mix_pureG _ (by go_simp)
  · intro w' hw'
    have hcr := hw'.cells
    go_simp
    rfl
  intro K hK
  go_simp
  refine hK _ ?_
  clear hK K
  apply mix_pureG _ (by go_simp)
  · intro w' hw'
    have hcr := hw'.cells
    go_simp
    rfl
  intro K hK
  go_simp
  refine hK _ ?_
  clear hK K
  apply mix_pureG _ (by go_simp)
  · intro w' hw'
    have hcr := hw'.cells
    go_simp
    rfl
  intro K hK
  go_simp
  refine hK _ ?_
  clear hK K
  apply mix_pureG _ (by go_simp)
  · intro w' hw'
    have hcr := hw'.cells
    go_simp
    rfl
  intro K hK
  go_simp
  refine hK _ ?_
  clear hK K
  apply mix_pureG _ (by go_simp)
  · intro w' hw'
    have hcr := hw'.cells
    go_simp
    rfl
  intro K hK
  go_simp
  refine hK _ ?_
  clear hK K
  apply mix_pure _ rfl
  · intro w' hw'
    have hcr := hw'.cells
    go_simp
    rfl
  intro K hK
  go_simp
  refine hK _ ?_
  clear hK K
  refine mix_nil ?_
  have HK := Lib.hid hcur
  replace HB := Lib.hid (HB.out.trans HK.out)
  replace HY := Lib.hid (HY.out.bel HK.out)
  replace HS3 := Lib.hid (HS3.out.bel HK.out)
  clear y0 y1 y2 y3 y4 y5 ly HK hcur e0 e1 le le6 s0 s1 ls6
  obtain ⟨y0, y1, y2, y3, y4, y5⟩ := HY.out
  have ly := cell_lt y0
  go_wp2_with fail
  refine (HRN.out _ _ (HB.out.trans (by repeat (first | assumption | exact Bel.refl _ | refine Bel.drew ?_ | refine Bel.drewN ?_ _ | refine Bel.alloc ?_ _ | refine Bel.setCell ?_ (by simp <;> omega) _ | refine Bel.trans ?_ (by assumption)))) (HS3.out.bel (by repeat (first | assumption | exact Bel.refl _ | refine Bel.drew ?_ | refine Bel.drewN ?_ _ | refine Bel.alloc ?_ _ | refine Bel.setCell ?_ (by simp <;> omega) _ | refine Bel.trans ?_ (by assumption))))).mono ?_
  rintro e w8 ⟨V8, rfl, hb⟩
  have HK := Lib.hid (show Bel w7 w8 from hb)
  replace HB := Lib.hid (HB.out.trans HK.out)
  replace HY := Lib.hid (HY.out.bel HK.out)
  replace HS3 := Lib.hid (HS3.out.bel HK.out)
  clear y0 y1 y2 y3 y4 y5 ly HK hb HRN HAR HHD hix0
  go_wp2
  go_loopw [15, 16] (fun vf i wr => ∃ k : Nat, k ≤ b.places.length ∧ i = .int .i64 k ∧ vf = .bool (foundTo b k) ∧ Bel w8 wr) (fun _ i _ => b.places.length - (intOf i).toNat)
  case atStart => exact ⟨0, by omega, rfl, by rw [HF0.out], Bel.refl _⟩
  case round =>
    obtain ⟨k, hk, rfl, rfl, hw⟩ := hrel
    have HW := Lib.hid hw
    obtain ⟨y0, y1, y2, y3, y4, y5⟩ := HY.out.bel hw
    have ly := cell_lt y0
    have HBW := Lib.hid (HB.out.trans hw)
    by_cases hlt : k < b.places.length
    · have hlti : (k : Int) < (b.places.length : Int) := by omega
      have q0 := HBW.out.cell (HPC.out k hlt)
      have lq := cell_lt q0
      have HSK := Lib.hid (HFS.out k)
      have hmem : at0 b.places k ∈ b.places := getD_mem b.places k 0 hlt
      obtain ⟨j1, _, _, _, _, _, j7, j8⟩ := HEA.out _ hmem
      have HPK := Lib.hid (fun wx hx => HPD.out (at0 b.places k) wx hx)
      rw [j1] at HPK
      have hlt0 : ¬ paidA b (at0 b.places k) < 0 := by omega
      have hltm : ¬ m < paidA b (at0 b.places k) := by omega
      have HS9 := Lib.hid (HS3.out.bel hw)
      have HEQ := Lib.hid (show at0 b.places k = c → paidA b (at0 b.places k) = paidA b c from fun e => by rw [e])
      clear hw j1 hmem
      generalize at0 b.places k = p at *
      generalize paidA b p = pd at *
      have hcase : foundTo b (k + 1) = (foundTo b k || decide (pd = m)) := HSK.out
      have HCASE := Lib.hid hcase
      clear hcase HSK
      go_wp2
      refine wp_region_mixB (Plan.seq [0, 1, 2, 3, 4, 5, 1006, 7, 8, 9, 10, 11] .nil) (by kernel_rfl) (by kernel_rfl) (fun hcur => ?_)
      simp only [Plan.seq, Plan.fill, List.getD_cons_zero, List.getD_cons_succ, Nat.reduceLT, ↓reduceIte, Nat.reduceSub]
      apply mix_pure _ rfl
      · intro w' hw'
        have hcr := hw'.cells
        go_simp
        rfl
      intro K hK
      go_simp
      refine hK _ ?_
      clear hK K
      apply mix_pure _ rfl
      · intro w' hw'
        have hcr := hw'.cells
        go_simp
        rfl
      intro K hK
      go_simp
      refine hK _ ?_
      clear hK K
      apply mix_pure _ rfl
      · intro w' hw'
        have hcr := hw'.cells
        go_simp
        rfl
      intro K hK
      go_simp
      refine hK _ ?_
      clear hK K
      apply mix_pure _ rfl
      · intro w' hw'
        have hcr := hw'.cells
        go_simp
        rfl
      intro K hK
      go_simp
      refine hK _ ?_
      clear hK K
      apply mix_pure _ rfl
      · intro w' hw'
        have hcr := hw'.cells
        go_simp
        rfl
      intro K hK
      go_simp
      refine hK _ ?_
      clear hK K
      apply mix_pure _ rfl
      · intro w' hw'
        have hcr := hw'.cells
        go_simp
        rfl
      intro K hK
      go_simp
      refine hK _ ?_
      clear hK K
      refine mix_act rfl (fun K hK => ?_)
      go_simp
      refine (HPK.out _ (HBW.out.trans hcur)).mono ?_
      rintro e w10 ⟨rfl, hb⟩
      simp only []
      refine hK _ _ (hcur.trans hb) (fun hcur => ?_)
      clear hK K hb
      apply mix_pure _ rfl
      · intro w' hw'
        have hcr := hw'.cells
        go_simp
        rfl
      intro K hK
      go_simp
      refine hK _ ?_
      clear hK K
      apply mix_pure _ rfl
      · intro w' hw'
        have hcr := hw'.cells
        go_simp
        rfl
      intro K hK
      go_simp
      refine hK _ ?_
      clear hK K
      apply mix_pure _ rfl
      · intro w' hw'
        have hcr := hw'.cells
        go_simp
        rfl
      intro K hK
      go_simp
      refine hK _ ?_
      clear hK K
      apply mix_pure _ rfl
      · intro w' hw'
        have hcr := hw'.cells
        go_simp
        rfl
      intro K hK
      go_simp
      refine hK _ ?_
      clear hK K
      apply mix_pure _ rfl
      · intro w' hw'
        have hcr := hw'.cells
        go_simp
        rfl
      intro K hK
      go_simp
      refine hK _ ?_
      clear hK K
      refine mix_nil ?_
      have HK := Lib.hid hcur
      have HB10 := Lib.hid (HBW.out.trans hcur)
      have HW10 := Lib.hid (HW.out.trans hcur)
      have HS10 := Lib.hid (HS9.out.bel hcur)
      replace q0 := hcur.cell q0
      have lq10 := cell_lt q0
      replace y0 := hcur.cell y0
      replace y1 := hcur.cell y1
      replace y2 := hcur.cell y2
      replace y3 := hcur.cell y3
      replace y4 := hcur.cell y4
      replace y5 := hcur.cell y5
      have ly10 := cell_lt y0
      clear hcur
      by_cases hpc : p = c
      · have hbq : (p == c) = true := by simpa using hpc
        have hpe := HEQ.out hpc
        rw [← hpe] at HCS
        clear hpc hpe HEQ
        go_wp2_with fail
        refine (HCS.out _ _ HB10.out HS10.out).mono ?_
        rintro e w11 ⟨rfl, hb⟩
        have HW11 := Lib.hid (HW10.out.trans hb)
        clear hb y0 y1 y2 y3 y4 y5 ly ly10 q0 lq lq10
        cases hff : foundTo b k
        all_goals
          cases hdm : decide (pd = m)
          all_goals
            first
              | (have hpm : (pd == m) = true := by simpa using hdm)
              | (have hpm : (pd == m) = false := by simpa using hdm)
            have HN := Lib.hid (HCASE.out.trans (by rw [hff, hdm]))
            clear hff hdm
            go_wp2
            go_roundw
            case rel => exact ⟨k + 1, by omega, by go_num, by rw [HN.out]; rfl, HW11.out⟩
            case measure => simp [intOf]; omega
      · have hbq : (p == c) = false := by simpa using hpc
        clear hpc HEQ
        cases hff : foundTo b k
        all_goals
          cases hdm : decide (pd = m)
          all_goals
            first
              | (have hpm : (pd == m) = true := by simpa using hdm)
              | (have hpm : (pd == m) = false := by simpa using hdm)
            have HN := Lib.hid (HCASE.out.trans (by rw [hff, hdm]))
            clear hff hdm
            go_wp2
            go_roundw
            case rel => exact ⟨k + 1, by omega, by go_num, by rw [HN.out]; rfl, HW10.out⟩
            case measure => simp [intOf]; omega
    · have hlti : ¬ (k : Int) < (b.places.length : Int) := by omega
      obtain rfl : k = b.places.length := by omega
      rw [HFT.out]
      clear hw
      go_wp2_with fail
      refine (HWK.out _ HBW.out).mono ?_
      rintro e w9 ⟨rfl, hb⟩
      have HF := Lib.hid (HBW.out.trans hb)
      clear hb
      go_wp2
      go_ret
      exact ⟨rfl, HF.out⟩
end Go.Proofs.YtogiidkofddhaaaDoor

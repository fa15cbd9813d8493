/-
  law: BeastsBack: a door between two chambers that is opened twice brings the beast back, and Move never has more places than there were: the call returns true for every trap, places and door, and changes nothing that was there
-/
import Derived.Test.YtogiidkofddhaaaDoorBWorks
import Derived.Test.YtogiidkofddhaaaDoorBLaw1
import Derived.Test.YtogiidkofddhaaaDoorBRef4
namespace Go.Proofs.YtogiidkofddhaaaDoor
open Go Go.RowKit Go.Shelf
set_option maxHeartbeats 8000000
set_option maxRecDepth 100000
theorem wrap_n {n : Int} (h1 : 1 ≤ n) (h2 : n ≤ 5) : wrap64 (n - 1) = n - 1 := wrap64_in _ (by omega)
theorem BeastsBack_any (b : BT) (v pv : Value) (ps : List Int) (n : Int) (w : World) (hf : FarAt w) (hv : BTrapAt w v b) (hpv : IntsAt w pv ps) : Calls Tryd.prog 4 #[v, pv, .int .i64 n] w fun e w' => e = .returned (.bool true) ∧ Bel w w' := by
  have HWK := Lib.hid (fun wx (hx : Bel w wx) => works_any wx (hf.bel hx))
  have HFA := Lib.hid (fun wx (hx : Bel w wx) => hf.bel hx)
  have HV := Lib.hid (fun wx (hx : Bel w wx) => hv.bel hx)
  have HB := Lib.hid (Bel.refl w)
  have HRD := Lib.hid (fun wx (hx : Bel w wx) => bready_any b v wx (hv.bel hx))
  have HID := Lib.hid (fun wx (hx : Bel w wx) => R6IsDoor_any b n v wx (hv.bel hx))
  have HRI := Lib.hid (fun wx (hx : Bel w wx) => Rising_any pv ps (-1) (b.n - 1) wx (hpv.bel hx))
  have HCP := Lib.hid (fun wx (hx : Bel w wx) h => bcopied_any pv ps wx (hpv.bel hx) h)
  have HMV := Lib.hid (fun qv l wx (hx : Bel w wx) h => bMove_any b v qv l n wx (hv.bel hx) h)
  have HPV := Lib.hid (fun wx (hx : Bel w wx) => hpv.bel hx)
  obtain ⟨da, dc, sa, sc, pa, pc, rfl, hd, hs, hp⟩ := hv.open
  have HBX := Lib.hid (fun wx hx => (BoxB.new (w := w) (b := b) (dv := .slice da b.doors.length dc) (sv := .slice sa b.seen.length sc) (pv := .slice pa b.places.length pc) (T := 25)).bel (w' := wx) hx)
  obtain ⟨db, doff, hda, hdl, _, hdc⟩ := hd.open
  have hixd := idxDoors (c := dc) hda
  obtain ⟨qa, qc, qb, qoff, rfl, -, ⟨hql, hqcp⟩, -⟩ := hpv
  clear hf hv hd hs hp hda
  cases hr : readyT b
  · rw [hr] at HRD
    clear hr
    go_enter Tryd.func4, Tryd.ntmps4
    go_wp2_with fail
    refine (HRD.out _ (HB.out.trans (by repeat (first | assumption | exact Bel.refl _ | refine Bel.drew ?_ | refine Bel.drewN ?_ _ | refine Bel.alloc ?_ _ | refine Bel.setCell ?_ (by simp <;> omega) _ | refine Bel.trans ?_ (by assumption))))).mono ?_
    rintro e w1 ⟨rfl, hb⟩
    have HY := Lib.hid (HBX.out _ hb)
    have HK := Lib.hid (show Bel w w1 from Bel.trans (by repeat (first | assumption | exact Bel.refl _ | refine Bel.drew ?_ | refine Bel.drewN ?_ _ | refine Bel.alloc ?_ _ | refine Bel.setCell ?_ (by simp <;> omega) _ | refine Bel.trans ?_ (by assumption))) hb)
    replace HB := Lib.hid (HB.out.trans HK.out)
    obtain ⟨y0, y1, y2, y3, y4, y5⟩ := HY.out
    have ly := cell_lt y0
    clear hb HK
    go_wp2_with fail
    refine (HWK.out _ (HB.out.trans (by repeat (first | assumption | exact Bel.refl _ | refine Bel.drew ?_ | refine Bel.drewN ?_ _ | refine Bel.alloc ?_ _ | refine Bel.setCell ?_ (by simp <;> omega) _ | refine Bel.trans ?_ (by assumption))))).mono ?_
    rintro e w2 ⟨rfl, hb⟩
    have HK := Lib.hid (show Bel w1 w2 from Bel.trans (by repeat (first | assumption | exact Bel.refl _ | refine Bel.drew ?_ | refine Bel.drewN ?_ _ | refine Bel.alloc ?_ _ | refine Bel.setCell ?_ (by simp <;> omega) _ | refine Bel.trans ?_ (by assumption))) hb)
    replace HY := Lib.hid (HY.out.bel HK.out)
    replace HB := Lib.hid (HB.out.trans HK.out)
    clear y0 y1 y2 y3 y4 y5 ly
    obtain ⟨y0, y1, y2, y3, y4, y5⟩ := HY.out
    have ly := cell_lt y0
    clear hb HK
    go_wp2
    go_ret
    exact ⟨rfl, HB.out⟩
  rw [hr] at HRD
  obtain ⟨hfar, hval⟩ := readyT_iff.1 hr
  have hok := okb_iff.1 hval
  have n1 := hok.n1
  have n2 := hok.n2
  clear hr
  by_cases hl : 40 < ps.length
  · have hl1 : (40 : Int) < (ps.length : Int) := by omega
    clear hl
    go_enter Tryd.func4, Tryd.ntmps4
    go_wp2_with fail
    refine (HRD.out _ (HB.out.trans (by repeat (first | assumption | exact Bel.refl _ | refine Bel.drew ?_ | refine Bel.drewN ?_ _ | refine Bel.alloc ?_ _ | refine Bel.setCell ?_ (by simp <;> omega) _ | refine Bel.trans ?_ (by assumption))))).mono ?_
    rintro e w1 ⟨rfl, hb⟩
    have HY := Lib.hid (HBX.out _ hb)
    have HK := Lib.hid (show Bel w w1 from Bel.trans (by repeat (first | assumption | exact Bel.refl _ | refine Bel.drew ?_ | refine Bel.drewN ?_ _ | refine Bel.alloc ?_ _ | refine Bel.setCell ?_ (by simp <;> omega) _ | refine Bel.trans ?_ (by assumption))) hb)
    replace HB := Lib.hid (HB.out.trans HK.out)
    obtain ⟨y0, y1, y2, y3, y4, y5⟩ := HY.out
    have ly := cell_lt y0
    clear hb HK
    go_wp2_with fail
    refine (HWK.out _ (HB.out.trans (by repeat (first | assumption | exact Bel.refl _ | refine Bel.drew ?_ | refine Bel.drewN ?_ _ | refine Bel.alloc ?_ _ | refine Bel.setCell ?_ (by simp <;> omega) _ | refine Bel.trans ?_ (by assumption))))).mono ?_
    rintro e w2 ⟨rfl, hb⟩
    have HK := Lib.hid (show Bel w1 w2 from Bel.trans (by repeat (first | assumption | exact Bel.refl _ | refine Bel.drew ?_ | refine Bel.drewN ?_ _ | refine Bel.alloc ?_ _ | refine Bel.setCell ?_ (by simp <;> omega) _ | refine Bel.trans ?_ (by assumption))) hb)
    replace HY := Lib.hid (HY.out.bel HK.out)
    replace HB := Lib.hid (HB.out.trans HK.out)
    clear y0 y1 y2 y3 y4 y5 ly
    obtain ⟨y0, y1, y2, y3, y4, y5⟩ := HY.out
    have ly := cell_lt y0
    clear hb HK
    go_wp2
    go_ret
    exact ⟨rfl, HB.out⟩
  have hl1 : ¬ (40 : Int) < (ps.length : Int) := by omega
  cases hi : isDoorB b n
  · rw [hi] at HID
    clear hi
    go_enter Tryd.func4, Tryd.ntmps4
    go_wp2_with fail
    refine (HRD.out _ (HB.out.trans (by repeat (first | assumption | exact Bel.refl _ | refine Bel.drew ?_ | refine Bel.drewN ?_ _ | refine Bel.alloc ?_ _ | refine Bel.setCell ?_ (by simp <;> omega) _ | refine Bel.trans ?_ (by assumption))))).mono ?_
    rintro e w1 ⟨rfl, hb⟩
    have HY := Lib.hid (HBX.out _ hb)
    have HK := Lib.hid (show Bel w w1 from Bel.trans (by repeat (first | assumption | exact Bel.refl _ | refine Bel.drew ?_ | refine Bel.drewN ?_ _ | refine Bel.alloc ?_ _ | refine Bel.setCell ?_ (by simp <;> omega) _ | refine Bel.trans ?_ (by assumption))) hb)
    replace HB := Lib.hid (HB.out.trans HK.out)
    obtain ⟨y0, y1, y2, y3, y4, y5⟩ := HY.out
    have ly := cell_lt y0
    clear hb HK
    go_wp2_with fail
    refine (HID.out _ (HB.out.trans (by repeat (first | assumption | exact Bel.refl _ | refine Bel.drew ?_ | refine Bel.drewN ?_ _ | refine Bel.alloc ?_ _ | refine Bel.setCell ?_ (by simp <;> omega) _ | refine Bel.trans ?_ (by assumption))))).mono ?_
    rintro e w2 ⟨rfl, hb⟩
    have HK := Lib.hid (show Bel w1 w2 from Bel.trans (by repeat (first | assumption | exact Bel.refl _ | refine Bel.drew ?_ | refine Bel.drewN ?_ _ | refine Bel.alloc ?_ _ | refine Bel.setCell ?_ (by simp <;> omega) _ | refine Bel.trans ?_ (by assumption))) hb)
    replace HY := Lib.hid (HY.out.bel HK.out)
    replace HB := Lib.hid (HB.out.trans HK.out)
    clear y0 y1 y2 y3 y4 y5 ly
    obtain ⟨y0, y1, y2, y3, y4, y5⟩ := HY.out
    have ly := cell_lt y0
    clear hb HK
    go_wp2_with fail
    refine (HWK.out _ (HB.out.trans (by repeat (first | assumption | exact Bel.refl _ | refine Bel.drew ?_ | refine Bel.drewN ?_ _ | refine Bel.alloc ?_ _ | refine Bel.setCell ?_ (by simp <;> omega) _ | refine Bel.trans ?_ (by assumption))))).mono ?_
    rintro e w3 ⟨rfl, hb⟩
    have HK := Lib.hid (show Bel w2 w3 from Bel.trans (by repeat (first | assumption | exact Bel.refl _ | refine Bel.drew ?_ | refine Bel.drewN ?_ _ | refine Bel.alloc ?_ _ | refine Bel.setCell ?_ (by simp <;> omega) _ | refine Bel.trans ?_ (by assumption))) hb)
    replace HY := Lib.hid (HY.out.bel HK.out)
    replace HB := Lib.hid (HB.out.trans HK.out)
    clear y0 y1 y2 y3 y4 y5 ly
    obtain ⟨y0, y1, y2, y3, y4, y5⟩ := HY.out
    have ly := cell_lt y0
    clear hb HK
    go_wp2
    go_ret
    exact ⟨rfl, HB.out⟩
  rw [hi] at HID
  cases hri : risingB ps (-1) (b.n - 1)
  · rw [hri] at HRI
    clear hi hri
    go_enter Tryd.func4, Tryd.ntmps4
    go_wp2_with fail
    refine (HRD.out _ (HB.out.trans (by repeat (first | assumption | exact Bel.refl _ | refine Bel.drew ?_ | refine Bel.drewN ?_ _ | refine Bel.alloc ?_ _ | refine Bel.setCell ?_ (by simp <;> omega) _ | refine Bel.trans ?_ (by assumption))))).mono ?_
    rintro e w1 ⟨rfl, hb⟩
    have HY := Lib.hid (HBX.out _ hb)
    have HK := Lib.hid (show Bel w w1 from Bel.trans (by repeat (first | assumption | exact Bel.refl _ | refine Bel.drew ?_ | refine Bel.drewN ?_ _ | refine Bel.alloc ?_ _ | refine Bel.setCell ?_ (by simp <;> omega) _ | refine Bel.trans ?_ (by assumption))) hb)
    replace HB := Lib.hid (HB.out.trans HK.out)
    obtain ⟨y0, y1, y2, y3, y4, y5⟩ := HY.out
    have ly := cell_lt y0
    clear hb HK
    go_wp2_with fail
    refine (HID.out _ (HB.out.trans (by repeat (first | assumption | exact Bel.refl _ | refine Bel.drew ?_ | refine Bel.drewN ?_ _ | refine Bel.alloc ?_ _ | refine Bel.setCell ?_ (by simp <;> omega) _ | refine Bel.trans ?_ (by assumption))))).mono ?_
    rintro e w2 ⟨rfl, hb⟩
    have HK := Lib.hid (show Bel w1 w2 from Bel.trans (by repeat (first | assumption | exact Bel.refl _ | refine Bel.drew ?_ | refine Bel.drewN ?_ _ | refine Bel.alloc ?_ _ | refine Bel.setCell ?_ (by simp <;> omega) _ | refine Bel.trans ?_ (by assumption))) hb)
    replace HY := Lib.hid (HY.out.bel HK.out)
    replace HB := Lib.hid (HB.out.trans HK.out)
    clear y0 y1 y2 y3 y4 y5 ly
    obtain ⟨y0, y1, y2, y3, y4, y5⟩ := HY.out
    have ly := cell_lt y0
    clear hb HK
    go_wp2_with fail
    refine (HRI.out _ (HB.out.trans (by repeat (first | assumption | exact Bel.refl _ | refine Bel.drew ?_ | refine Bel.drewN ?_ _ | refine Bel.alloc ?_ _ | refine Bel.setCell ?_ (by simp <;> omega) _ | refine Bel.trans ?_ (by assumption))))).mono ?_
    rintro e w3 ⟨rfl, hb⟩
    have HK := Lib.hid (show Bel w2 w3 from Bel.trans (by repeat (first | assumption | exact Bel.refl _ | refine Bel.drew ?_ | refine Bel.drewN ?_ _ | refine Bel.alloc ?_ _ | refine Bel.setCell ?_ (by simp <;> omega) _ | refine Bel.trans ?_ (by assumption))) hb)
    replace HY := Lib.hid (HY.out.bel HK.out)
    replace HB := Lib.hid (HB.out.trans HK.out)
    clear y0 y1 y2 y3 y4 y5 ly
    obtain ⟨y0, y1, y2, y3, y4, y5⟩ := HY.out
    have ly := cell_lt y0
    clear hb HK
    go_wp2_with fail
    refine (HWK.out _ (HB.out.trans (by repeat (first | assumption | exact Bel.refl _ | refine Bel.drew ?_ | refine Bel.drewN ?_ _ | refine Bel.alloc ?_ _ | refine Bel.setCell ?_ (by simp <;> omega) _ | refine Bel.trans ?_ (by assumption))))).mono ?_
    rintro e w4 ⟨rfl, hb⟩
    have HK := Lib.hid (show Bel w3 w4 from Bel.trans (by repeat (first | assumption | exact Bel.refl _ | refine Bel.drew ?_ | refine Bel.drewN ?_ _ | refine Bel.alloc ?_ _ | refine Bel.setCell ?_ (by simp <;> omega) _ | refine Bel.trans ?_ (by assumption))) hb)
    replace HY := Lib.hid (HY.out.bel HK.out)
    replace HB := Lib.hid (HB.out.trans HK.out)
    clear y0 y1 y2 y3 y4 y5 ly
    obtain ⟨y0, y1, y2, y3, y4, y5⟩ := HY.out
    have ly := cell_lt y0
    clear hb HK
    go_wp2
    go_ret
    exact ⟨rfl, HB.out⟩
  rw [hri] at HRI
  obtain ⟨g1, g2⟩ := withinB_true.1 (show withinB n 0 ((b.doors.length : Int) - 1) = true from hi)
  obtain ⟨i, rfl⟩ : ∃ i : Nat, n = i := ⟨n.toNat, by omega⟩
  have hil : i < b.doors.length := by omega
  have hii : (i : Int) < (b.doors.length : Int) := by omega
  obtain ⟨ha, hin⟩ := rising_asc hri
  obtain ⟨k1, k2, k3, k4, k5⟩ := back_law hok hil ha hin
  have hri2 := asc_rising k3 k4
  obtain ⟨j1, j2, j3, j4, _⟩ := back_law hok hil k3 k4
  have hm1 : moveE b ps i = 0 := by unfold moveE; rw [hval, hi, hri]; rfl
  have hM1 : moveL b ps i = plOf (mvB (atD b.doors i) (ofL ps)) := by unfold moveL; rw [if_pos hm1]; rfl
  have hm2 : moveE b (plOf (mvB (atD b.doors i) (ofL ps))) i = 0 := by unfold moveE; rw [hval, hi, hri2]; rfl
  have hM2 : moveL b (plOf (mvB (atD b.doors i) (ofL ps))) i = plOf (mvB (atD b.doors i) (ofL (plOf (mvB (atD b.doors i) (ofL ps))))) := by unfold moveL; rw [if_pos hm2]; rfl
  have HM1 := Lib.hid (fun qv wx hx (h : IntsAt wx qv ps) => (HMV.out qv ps wx hx h).mono (R' := LErr 0 (plOf (mvB (atD b.doors i) (ofL ps))) wx) fun e w' q => by rw [hm1, hM1] at q; exact q)
  have HM2 := Lib.hid (fun qv wx hx (h : IntsAt wx qv (plOf (mvB (atD b.doors i) (ofL ps)))) => (HMV.out qv _ wx hx h).mono (R' := LErr 0 (plOf (mvB (atD b.doors i) (ofL (plOf (mvB (atD b.doors i) (ofL ps)))))) wx) fun e w' q => by rw [hm2, hM2] at q; exact q)
  generalize hL : plOf (mvB (atD b.doors i) (ofL ps)) = l at *
  have HRI2 := Lib.hid (fun lv wx (hx : IntsAt wx lv l) => (Rising_any lv l (-1) (b.n - 1) wx hx).mono (R' := fun e w' => e = .returned (.bool true) ∧ Bel wx w') fun e w' h => ⟨by rw [h.1, hri2], h.2⟩)
  have HCP2 := Lib.hid (fun lv wx (hx : IntsAt wx lv l) => bcopied_any lv l wx hx (by omega))
  generalize plOf (mvB (atD b.doors i) (ofL l)) = l2 at *
  have hb1 : ¬ (ps.length : Int) < (l.length : Int) := by omega
  have hb2 : ¬ (l.length : Int) < (l2.length : Int) := by omega
  have HCP1 := Lib.hid (fun wx hx => HCP.out wx hx (by omega))
  have HDB := Lib.hid (hdc i hil)
  have HSI := Lib.hid (fun (h : (atD b.doors i).b ≠ -1) a wx (ha : IntsAt wx a l2) c (hc : IntsAt wx c ps) => (SameInts_any a c l2 ps wx ha hc).mono (R' := fun e w' => e = .returned (.bool true) ∧ Bel wx w') fun e w' q => ⟨by rw [q.1]; unfold sameB; rw [decide_eq_true (k5 h)], q.2⟩)
  have hpos : (0 < l.length ∧ 0 < ps.length) ∨ (l.length = 0 ∧ ps.length = 0) := by omega
  have hl1k : l.length ≤ 1000 := by omega
  generalize atD b.doors i = d at *
  clear hi hri g1 g2 ha hin k1 k2 k3 k4 k5 hri2 j1 j2 j3 j4 hm1 hM1 hm2 hM2 hL hdc hval hok hfar HCP HMV hl
  rcases hpos with ⟨q1, q2⟩ | ⟨q1, q2⟩
  all_goals
    first
      | (have r1 : (0 : Int) < (l.length : Int) := by omega
         have r2 : (0 : Int) < (ps.length : Int) := by omega)
      | (have r1 : ¬ (0 : Int) < (l.length : Int) := by omega
         have r2 : ¬ (0 : Int) < (ps.length : Int) := by omega)
    by_cases hdb : d.b = -1
    · have hd1 : (d.b == -1) = true := by simpa using hdb
      clear hdb HSI q1 q2
      go_enter Tryd.func4, Tryd.ntmps4
      go_wp2_with fail
      refine (HRD.out _ (HB.out.trans (by repeat (first | assumption | exact Bel.refl _ | refine Bel.drew ?_ | refine Bel.drewN ?_ _ | refine Bel.alloc ?_ _ | refine Bel.setCell ?_ (by simp <;> omega) _ | refine Bel.trans ?_ (by assumption))))).mono ?_
      rintro e w1 ⟨rfl, hb⟩
      have HY := Lib.hid (HBX.out _ hb)
      have HK := Lib.hid (show Bel w w1 from Bel.trans (by repeat (first | assumption | exact Bel.refl _ | refine Bel.drew ?_ | refine Bel.drewN ?_ _ | refine Bel.alloc ?_ _ | refine Bel.setCell ?_ (by simp <;> omega) _ | refine Bel.trans ?_ (by assumption))) hb)
      replace HB := Lib.hid (HB.out.trans HK.out)
      obtain ⟨y0, y1, y2, y3, y4, y5⟩ := HY.out
      have ly := cell_lt y0
      clear hb HK
      go_wp2_with fail
      refine (HID.out _ (HB.out.trans (by repeat (first | assumption | exact Bel.refl _ | refine Bel.drew ?_ | refine Bel.drewN ?_ _ | refine Bel.alloc ?_ _ | refine Bel.setCell ?_ (by simp <;> omega) _ | refine Bel.trans ?_ (by assumption))))).mono ?_
      rintro e w2 ⟨rfl, hb⟩
      have HK := Lib.hid (show Bel w1 w2 from Bel.trans (by repeat (first | assumption | exact Bel.refl _ | refine Bel.drew ?_ | refine Bel.drewN ?_ _ | refine Bel.alloc ?_ _ | refine Bel.setCell ?_ (by simp <;> omega) _ | refine Bel.trans ?_ (by assumption))) hb)
      replace HY := Lib.hid (HY.out.bel HK.out)
      replace HB := Lib.hid (HB.out.trans HK.out)
      clear y0 y1 y2 y3 y4 y5 ly
      obtain ⟨y0, y1, y2, y3, y4, y5⟩ := HY.out
      have ly := cell_lt y0
      clear hb HK
      go_wp2_with fail
      refine (HRI.out _ (HB.out.trans (by repeat (first | assumption | exact Bel.refl _ | refine Bel.drew ?_ | refine Bel.drewN ?_ _ | refine Bel.alloc ?_ _ | refine Bel.setCell ?_ (by simp <;> omega) _ | refine Bel.trans ?_ (by assumption))))).mono ?_
      rintro e w3 ⟨rfl, hb⟩
      have HK := Lib.hid (show Bel w2 w3 from Bel.trans (by repeat (first | assumption | exact Bel.refl _ | refine Bel.drew ?_ | refine Bel.drewN ?_ _ | refine Bel.alloc ?_ _ | refine Bel.setCell ?_ (by simp <;> omega) _ | refine Bel.trans ?_ (by assumption))) hb)
      replace HY := Lib.hid (HY.out.bel HK.out)
      replace HB := Lib.hid (HB.out.trans HK.out)
      clear y0 y1 y2 y3 y4 y5 ly
      obtain ⟨y0, y1, y2, y3, y4, y5⟩ := HY.out
      have ly := cell_lt y0
      clear hb HK
      go_wp2
      refine wp_region_mixB (Plan.seq [0, 1, 3, 1002, 1004, 5, 6, 7, 8, 9] .nil) (by kernel_rfl) (by kernel_rfl) (fun hcur => ?_)
      simp only [Plan.seq, Plan.fill, List.getD_cons_zero, List.getD_cons_succ, Nat.reduceLT, ↓reduceIte, Nat.reduceSub]
      apply mix_pure _ rfl
      · intro w' hw'
        have hcr := hw'.cells
        go_simp
        rfl
      intro K hK
      go_simp
      refine hK _ ?_
      clear hK K
      apply mix_pure _ rfl
      · intro w' hw'
        have hcr := hw'.cells
        go_simp
        rfl
      intro K hK
      go_simp
      refine hK _ ?_
      clear hK K
      apply mix_pure _ rfl
      · intro w' hw'
        have hcr := hw'.cells
        go_simp
        rfl
      intro K hK
      go_simp
      refine hK _ ?_
      clear hK K
      refine mix_act rfl (fun K hK => ?_)
      go_simp
      refine (HCP1.out _ (HB.out.trans hcur)).mono ?_
      rintro e w4 ⟨V4, rfl, hst⟩
      have HI4 := Lib.hid (ownInts (l := ps) (by omega) hst.own)
      have hcr4 := hst.bel.cells
      simp only []
      refine hK _ _ (hcur.trans hst.bel) (fun hcur => ?_)
      clear hK K hst
      refine mix_act rfl (fun K hK => ?_)
      go_simp
      refine (HM1.out _ _ (HB.out.trans hcur) HI4.out).mono ?_
      rintro e w5 ⟨V5, rfl, hV, hb⟩
      have HI5 := Lib.hid hV
      simp only []
      refine hK _ _ (hcur.trans hb) (fun hcur => ?_)
      clear hK K hb hV
      apply mix_pure _ rfl
      · intro w' hw'
        have hcr := hw'.cells
        go_simp
        rfl
      intro K hK
      go_simp
      refine hK _ ?_
      clear hK K
      apply mix_pure _ rfl
      · intro w' hw'
        have hcr := hw'.cells
        go_simp
        rfl
      intro K hK
      go_simp
      refine hK _ ?_
      clear hK K
      apply mix_pure _ rfl
      · intro w' hw'
        have hcr := hw'.cells
        go_simp
        rfl
      intro K hK
      go_simp
      refine hK _ ?_
      clear hK K
      apply mix_pure _ rfl
      · intro w' hw'
        have hcr := hw'.cells
        go_simp
        rfl
      intro K hK
      go_simp
      refine hK _ ?_
      clear hK K
      apply mix_pure _ rfl
      · intro w' hw'
        have hcr := hw'.cells
        go_simp
        rfl
      intro K hK
      go_simp
      refine hK _ ?_
      clear hK K
      refine mix_nil ?_

      have HK := Lib.hid (show Bel w3 w5 from Bel.trans (by repeat (first | assumption | exact Bel.refl _ | refine Bel.drew ?_ | refine Bel.drewN ?_ _ | refine Bel.alloc ?_ _ | refine Bel.setCell ?_ (by simp <;> omega) _ | refine Bel.trans ?_ (by assumption))) hcur)
      replace HY := Lib.hid (HY.out.bel HK.out)
      replace HB := Lib.hid (HB.out.trans HK.out)
      clear y0 y1 y2 y3 y4 y5 ly
      obtain ⟨y0, y1, y2, y3, y4, y5⟩ := HY.out
      have ly := cell_lt y0
      clear hcur HK
      clear HI4
      obtain ⟨la, lc, lb, loff, hle, -⟩ := HI5.out
      subst hle
      go_wp2_with fail
      refine (HRI2.out _ _ (HI5.out.bel (by repeat (first | assumption | exact Bel.refl _ | refine Bel.drew ?_ | refine Bel.drewN ?_ _ | refine Bel.alloc ?_ _ | refine Bel.setCell ?_ (by simp <;> omega) _ | refine Bel.trans ?_ (by assumption))))).mono ?_
      rintro e w6 ⟨rfl, hb⟩
      have HK := Lib.hid (show Bel w5 w6 from Bel.trans (by repeat (first | assumption | exact Bel.refl _ | refine Bel.drew ?_ | refine Bel.drewN ?_ _ | refine Bel.alloc ?_ _ | refine Bel.setCell ?_ (by simp <;> omega) _ | refine Bel.trans ?_ (by assumption))) hb)
      replace HY := Lib.hid (HY.out.bel HK.out)
      replace HB := Lib.hid (HB.out.trans HK.out)
      replace HI5 := Lib.hid (HI5.out.bel HK.out)
      clear y0 y1 y2 y3 y4 y5 ly
      obtain ⟨y0, y1, y2, y3, y4, y5⟩ := HY.out
      have ly := cell_lt y0
      clear hb HK
      go_wp2
      refine wp_region_mixB (Plan.seq [0, 1, 3, 1002, 1004, 5, 6, 7, 8, 9] .nil) (by kernel_rfl) (by kernel_rfl) (fun hcur => ?_)
      simp only [Plan.seq, Plan.fill, List.getD_cons_zero, List.getD_cons_succ, Nat.reduceLT, ↓reduceIte, Nat.reduceSub]
      apply mix_pure _ rfl
      · intro w' hw'
        have hcr := hw'.cells
        go_simp
        rfl
      intro K hK
      go_simp
      refine hK _ ?_
      clear hK K
      apply mix_pure _ rfl
      · intro w' hw'
        have hcr := hw'.cells
        go_simp
        rfl
      intro K hK
      go_simp
      refine hK _ ?_
      clear hK K
      apply mix_pure _ rfl
      · intro w' hw'
        have hcr := hw'.cells
        go_simp
        rfl
      intro K hK
      go_simp
      refine hK _ ?_
      clear hK K
      refine mix_act rfl (fun K hK => ?_)
      go_simp
      refine (HCP2.out _ _ (HI5.out.bel hcur)).mono ?_
      rintro e w7 ⟨V7, rfl, hst⟩
      have HI7 := Lib.hid (ownInts (l := l) (by omega) hst.own)
      have hcr7 := hst.bel.cells
      simp only []
      refine hK _ _ (hcur.trans hst.bel) (fun hcur => ?_)
      clear hK K hst
      refine mix_act rfl (fun K hK => ?_)
      go_simp
      refine (HM2.out _ _ (HB.out.trans hcur) HI7.out).mono ?_
      rintro e w8 ⟨V8, rfl, hV, hb⟩
      have HI8 := Lib.hid hV
      simp only []
      refine hK _ _ (hcur.trans hb) (fun hcur => ?_)
      clear hK K hb hV
      apply mix_pure _ rfl
      · intro w' hw'
        have hcr := hw'.cells
        go_simp
        rfl
      intro K hK
      go_simp
      refine hK _ ?_
      clear hK K
      apply mix_pure _ rfl
      · intro w' hw'
        have hcr := hw'.cells
        go_simp
        rfl
      intro K hK
      go_simp
      refine hK _ ?_
      clear hK K
      apply mix_pure _ rfl
      · intro w' hw'
        have hcr := hw'.cells
        go_simp
        rfl
      intro K hK
      go_simp
      refine hK _ ?_
      clear hK K
      apply mix_pure _ rfl
      · intro w' hw'
        have hcr := hw'.cells
        go_simp
        rfl
      intro K hK
      go_simp
      refine hK _ ?_
      clear hK K
      apply mix_pure _ rfl
      · intro w' hw'
        have hcr := hw'.cells
        go_simp
        rfl
      intro K hK
      go_simp
      refine hK _ ?_
      clear hK K
      refine mix_nil ?_

      have HK := Lib.hid (show Bel w6 w8 from Bel.trans (by repeat (first | assumption | exact Bel.refl _ | refine Bel.drew ?_ | refine Bel.drewN ?_ _ | refine Bel.alloc ?_ _ | refine Bel.setCell ?_ (by simp <;> omega) _ | refine Bel.trans ?_ (by assumption))) hcur)
      replace HY := Lib.hid (HY.out.bel HK.out)
      replace HB := Lib.hid (HB.out.trans HK.out)
      replace HI5 := Lib.hid (HI5.out.bel HK.out)
      clear y0 y1 y2 y3 y4 y5 ly
      obtain ⟨y0, y1, y2, y3, y4, y5⟩ := HY.out
      have ly := cell_lt y0
      clear hcur HK
      clear HI7
      obtain ⟨l2a, l2c, l2b, l2off, hle, -⟩ := HI8.out
      subst hle
      obtain ⟨d0, d1, d2⟩ := HDB.out
      replace d1 := HB.out.cell d1
      have ld := cell_lt d1
      clear d0 d2
      go_wp2_with fail
      refine (HWK.out _ (HB.out.trans (by repeat (first | assumption | exact Bel.refl _ | refine Bel.drew ?_ | refine Bel.drewN ?_ _ | refine Bel.alloc ?_ _ | refine Bel.setCell ?_ (by simp <;> omega) _ | refine Bel.trans ?_ (by assumption))))).mono ?_
      rintro e w9 ⟨rfl, hb⟩
      have HK := Lib.hid (show Bel w8 w9 from Bel.trans (by repeat (first | assumption | exact Bel.refl _ | refine Bel.drew ?_ | refine Bel.drewN ?_ _ | refine Bel.alloc ?_ _ | refine Bel.setCell ?_ (by simp <;> omega) _ | refine Bel.trans ?_ (by assumption))) hb)
      replace HY := Lib.hid (HY.out.bel HK.out)
      replace HB := Lib.hid (HB.out.trans HK.out)
      replace HI5 := Lib.hid (HI5.out.bel HK.out)
      replace HI8 := Lib.hid (HI8.out.bel HK.out)
      replace d1 := HK.out.cell d1
      have ld1 := cell_lt d1
      clear y0 y1 y2 y3 y4 y5 ly
      obtain ⟨y0, y1, y2, y3, y4, y5⟩ := HY.out
      have ly := cell_lt y0
      clear hb HK
      go_wp2
      go_ret
      exact ⟨rfl, HB.out⟩
    · have hd1 : (d.b == -1) = false := by simpa using hdb
      have HSI1 := Lib.hid (HSI.out hdb)
      clear hdb HSI q1 q2
      go_enter Tryd.func4, Tryd.ntmps4
      go_wp2_with fail
      refine (HRD.out _ (HB.out.trans (by repeat (first | assumption | exact Bel.refl _ | refine Bel.drew ?_ | refine Bel.drewN ?_ _ | refine Bel.alloc ?_ _ | refine Bel.setCell ?_ (by simp <;> omega) _ | refine Bel.trans ?_ (by assumption))))).mono ?_
      rintro e w1 ⟨rfl, hb⟩
      have HY := Lib.hid (HBX.out _ hb)
      have HK := Lib.hid (show Bel w w1 from Bel.trans (by repeat (first | assumption | exact Bel.refl _ | refine Bel.drew ?_ | refine Bel.drewN ?_ _ | refine Bel.alloc ?_ _ | refine Bel.setCell ?_ (by simp <;> omega) _ | refine Bel.trans ?_ (by assumption))) hb)
      replace HB := Lib.hid (HB.out.trans HK.out)
      obtain ⟨y0, y1, y2, y3, y4, y5⟩ := HY.out
      have ly := cell_lt y0
      clear hb HK
      go_wp2_with fail
      refine (HID.out _ (HB.out.trans (by repeat (first | assumption | exact Bel.refl _ | refine Bel.drew ?_ | refine Bel.drewN ?_ _ | refine Bel.alloc ?_ _ | refine Bel.setCell ?_ (by simp <;> omega) _ | refine Bel.trans ?_ (by assumption))))).mono ?_
      rintro e w2 ⟨rfl, hb⟩
      have HK := Lib.hid (show Bel w1 w2 from Bel.trans (by repeat (first | assumption | exact Bel.refl _ | refine Bel.drew ?_ | refine Bel.drewN ?_ _ | refine Bel.alloc ?_ _ | refine Bel.setCell ?_ (by simp <;> omega) _ | refine Bel.trans ?_ (by assumption))) hb)
      replace HY := Lib.hid (HY.out.bel HK.out)
      replace HB := Lib.hid (HB.out.trans HK.out)
      clear y0 y1 y2 y3 y4 y5 ly
      obtain ⟨y0, y1, y2, y3, y4, y5⟩ := HY.out
      have ly := cell_lt y0
      clear hb HK
      go_wp2_with fail
      refine (HRI.out _ (HB.out.trans (by repeat (first | assumption | exact Bel.refl _ | refine Bel.drew ?_ | refine Bel.drewN ?_ _ | refine Bel.alloc ?_ _ | refine Bel.setCell ?_ (by simp <;> omega) _ | refine Bel.trans ?_ (by assumption))))).mono ?_
      rintro e w3 ⟨rfl, hb⟩
      have HK := Lib.hid (show Bel w2 w3 from Bel.trans (by repeat (first | assumption | exact Bel.refl _ | refine Bel.drew ?_ | refine Bel.drewN ?_ _ | refine Bel.alloc ?_ _ | refine Bel.setCell ?_ (by simp <;> omega) _ | refine Bel.trans ?_ (by assumption))) hb)
      replace HY := Lib.hid (HY.out.bel HK.out)
      replace HB := Lib.hid (HB.out.trans HK.out)
      clear y0 y1 y2 y3 y4 y5 ly
      obtain ⟨y0, y1, y2, y3, y4, y5⟩ := HY.out
      have ly := cell_lt y0
      clear hb HK
      go_wp2
      refine wp_region_mixB (Plan.seq [0, 1, 3, 1002, 1004, 5, 6, 7, 8, 9] .nil) (by kernel_rfl) (by kernel_rfl) (fun hcur => ?_)
      simp only [Plan.seq, Plan.fill, List.getD_cons_zero, List.getD_cons_succ, Nat.reduceLT, ↓reduceIte, Nat.reduceSub]
      apply mix_pure _ rfl
      · intro w' hw'
        have hcr := hw'.cells
        go_simp
        rfl
      intro K hK
      go_simp
      refine hK _ ?_
      clear hK K
      apply mix_pure _ rfl
      · intro w' hw'
        have hcr := hw'.cells
        go_simp
        rfl
      intro K hK
      go_simp
      refine hK _ ?_
      clear hK K
      apply mix_pure _ rfl
      · intro w' hw'
        have hcr := hw'.cells
        go_simp
        rfl
      intro K hK
      go_simp
      refine hK _ ?_
      clear hK K
      refine mix_act rfl (fun K hK => ?_)
      go_simp
      refine (HCP1.out _ (HB.out.trans hcur)).mono ?_
      rintro e w4 ⟨V4, rfl, hst⟩
      have HI4 := Lib.hid (ownInts (l := ps) (by omega) hst.own)
      have hcr4 := hst.bel.cells
      simp only []
      refine hK _ _ (hcur.trans hst.bel) (fun hcur => ?_)
      clear hK K hst
      refine mix_act rfl (fun K hK => ?_)
      go_simp
      refine (HM1.out _ _ (HB.out.trans hcur) HI4.out).mono ?_
      rintro e w5 ⟨V5, rfl, hV, hb⟩
      have HI5 := Lib.hid hV
      simp only []
      refine hK _ _ (hcur.trans hb) (fun hcur => ?_)
      clear hK K hb hV
      apply mix_pure _ rfl
      · intro w' hw'
        have hcr := hw'.cells
        go_simp
        rfl
      intro K hK
      go_simp
      refine hK _ ?_
      clear hK K
      apply mix_pure _ rfl
      · intro w' hw'
        have hcr := hw'.cells
        go_simp
        rfl
      intro K hK
      go_simp
      refine hK _ ?_
      clear hK K
      apply mix_pure _ rfl
      · intro w' hw'
        have hcr := hw'.cells
        go_simp
        rfl
      intro K hK
      go_simp
      refine hK _ ?_
      clear hK K
      apply mix_pure _ rfl
      · intro w' hw'
        have hcr := hw'.cells
        go_simp
        rfl
      intro K hK
      go_simp
      refine hK _ ?_
      clear hK K
      apply mix_pure _ rfl
      · intro w' hw'
        have hcr := hw'.cells
        go_simp
        rfl
      intro K hK
      go_simp
      refine hK _ ?_
      clear hK K
      refine mix_nil ?_

      have HK := Lib.hid (show Bel w3 w5 from Bel.trans (by repeat (first | assumption | exact Bel.refl _ | refine Bel.drew ?_ | refine Bel.drewN ?_ _ | refine Bel.alloc ?_ _ | refine Bel.setCell ?_ (by simp <;> omega) _ | refine Bel.trans ?_ (by assumption))) hcur)
      replace HY := Lib.hid (HY.out.bel HK.out)
      replace HB := Lib.hid (HB.out.trans HK.out)
      clear y0 y1 y2 y3 y4 y5 ly
      obtain ⟨y0, y1, y2, y3, y4, y5⟩ := HY.out
      have ly := cell_lt y0
      clear hcur HK
      clear HI4
      obtain ⟨la, lc, lb, loff, hle, -⟩ := HI5.out
      subst hle
      go_wp2_with fail
      refine (HRI2.out _ _ (HI5.out.bel (by repeat (first | assumption | exact Bel.refl _ | refine Bel.drew ?_ | refine Bel.drewN ?_ _ | refine Bel.alloc ?_ _ | refine Bel.setCell ?_ (by simp <;> omega) _ | refine Bel.trans ?_ (by assumption))))).mono ?_
      rintro e w6 ⟨rfl, hb⟩
      have HK := Lib.hid (show Bel w5 w6 from Bel.trans (by repeat (first | assumption | exact Bel.refl _ | refine Bel.drew ?_ | refine Bel.drewN ?_ _ | refine Bel.alloc ?_ _ | refine Bel.setCell ?_ (by simp <;> omega) _ | refine Bel.trans ?_ (by assumption))) hb)
      replace HY := Lib.hid (HY.out.bel HK.out)
      replace HB := Lib.hid (HB.out.trans HK.out)
      replace HI5 := Lib.hid (HI5.out.bel HK.out)
      clear y0 y1 y2 y3 y4 y5 ly
      obtain ⟨y0, y1, y2, y3, y4, y5⟩ := HY.out
      have ly := cell_lt y0
      clear hb HK
      go_wp2
      refine wp_region_mixB (Plan.seq [0, 1, 3, 1002, 1004, 5, 6, 7, 8, 9] .nil) (by kernel_rfl) (by kernel_rfl) (fun hcur => ?_)
      simp only [Plan.seq, Plan.fill, List.getD_cons_zero, List.getD_cons_succ, Nat.reduceLT, ↓reduceIte, Nat.reduceSub]
      apply mix_pure _ rfl
      · intro w' hw'
        have hcr := hw'.cells
        go_simp
        rfl
      intro K hK
      go_simp
      refine hK _ ?_
      clear hK K
      apply mix_pure _ rfl
      · intro w' hw'
        have hcr := hw'.cells
        go_simp
        rfl
      intro K hK
      go_simp
      refine hK _ ?_
      clear hK K
      apply mix_pure _ rfl
      · intro w' hw'
        have hcr := hw'.cells
        go_simp
        rfl
      intro K hK
      go_simp
      refine hK _ ?_
      clear hK K
      refine mix_act rfl (fun K hK => ?_)
      go_simp
      refine (HCP2.out _ _ (HI5.out.bel hcur)).mono ?_
      rintro e w7 ⟨V7, rfl, hst⟩
      have HI7 := Lib.hid (ownInts (l := l) (by omega) hst.own)
      have hcr7 := hst.bel.cells
      simp only []
      refine hK _ _ (hcur.trans hst.bel) (fun hcur => ?_)
      clear hK K hst
      refine mix_act rfl (fun K hK => ?_)
      go_simp
      refine (HM2.out _ _ (HB.out.trans hcur) HI7.out).mono ?_
      rintro e w8 ⟨V8, rfl, hV, hb⟩
      have HI8 := Lib.hid hV
      simp only []
      refine hK _ _ (hcur.trans hb) (fun hcur => ?_)
      clear hK K hb hV
      apply mix_pure _ rfl
      · intro w' hw'
        have hcr := hw'.cells
        go_simp
        rfl
      intro K hK
      go_simp
      refine hK _ ?_
      clear hK K
      apply mix_pure _ rfl
      · intro w' hw'
        have hcr := hw'.cells
        go_simp
        rfl
      intro K hK
      go_simp
      refine hK _ ?_
      clear hK K
      apply mix_pure _ rfl
      · intro w' hw'
        have hcr := hw'.cells
        go_simp
        rfl
      intro K hK
      go_simp
      refine hK _ ?_
      clear hK K
      apply mix_pure _ rfl
      · intro w' hw'
        have hcr := hw'.cells
        go_simp
        rfl
      intro K hK
      go_simp
      refine hK _ ?_
      clear hK K
      apply mix_pure _ rfl
      · intro w' hw'
        have hcr := hw'.cells
        go_simp
        rfl
      intro K hK
      go_simp
      refine hK _ ?_
      clear hK K
      refine mix_nil ?_

      have HK := Lib.hid (show Bel w6 w8 from Bel.trans (by repeat (first | assumption | exact Bel.refl _ | refine Bel.drew ?_ | refine Bel.drewN ?_ _ | refine Bel.alloc ?_ _ | refine Bel.setCell ?_ (by simp <;> omega) _ | refine Bel.trans ?_ (by assumption))) hcur)
      replace HY := Lib.hid (HY.out.bel HK.out)
      replace HB := Lib.hid (HB.out.trans HK.out)
      replace HI5 := Lib.hid (HI5.out.bel HK.out)
      clear y0 y1 y2 y3 y4 y5 ly
      obtain ⟨y0, y1, y2, y3, y4, y5⟩ := HY.out
      have ly := cell_lt y0
      clear hcur HK
      clear HI7
      obtain ⟨l2a, l2c, l2b, l2off, hle, -⟩ := HI8.out
      subst hle
      obtain ⟨d0, d1, d2⟩ := HDB.out
      replace d1 := HB.out.cell d1
      have ld := cell_lt d1
      clear d0 d2
      go_wp2_with fail
      refine (HSI1.out _ _ (HI8.out.bel (by repeat (first | assumption | exact Bel.refl _ | refine Bel.drew ?_ | refine Bel.drewN ?_ _ | refine Bel.alloc ?_ _ | refine Bel.setCell ?_ (by simp <;> omega) _ | refine Bel.trans ?_ (by assumption)))) _ (HPV.out _ (HB.out.trans (by repeat (first | assumption | exact Bel.refl _ | refine Bel.drew ?_ | refine Bel.drewN ?_ _ | refine Bel.alloc ?_ _ | refine Bel.setCell ?_ (by simp <;> omega) _ | refine Bel.trans ?_ (by assumption)))))).mono ?_
      rintro e w9 ⟨rfl, hb⟩
      have HK := Lib.hid (show Bel w8 w9 from Bel.trans (by repeat (first | assumption | exact Bel.refl _ | refine Bel.drew ?_ | refine Bel.drewN ?_ _ | refine Bel.alloc ?_ _ | refine Bel.setCell ?_ (by simp <;> omega) _ | refine Bel.trans ?_ (by assumption))) hb)
      replace HY := Lib.hid (HY.out.bel HK.out)
      replace HB := Lib.hid (HB.out.trans HK.out)
      replace HI5 := Lib.hid (HI5.out.bel HK.out)
      replace HI8 := Lib.hid (HI8.out.bel HK.out)
      replace d1 := HK.out.cell d1
      have ld1 := cell_lt d1
      clear y0 y1 y2 y3 y4 y5 ly
      obtain ⟨y0, y1, y2, y3, y4, y5⟩ := HY.out
      have ly := cell_lt y0
      clear hb HK
      go_wp2_with fail
      refine (HWK.out _ (HB.out.trans (by repeat (first | assumption | exact Bel.refl _ | refine Bel.drew ?_ | refine Bel.drewN ?_ _ | refine Bel.alloc ?_ _ | refine Bel.setCell ?_ (by simp <;> omega) _ | refine Bel.trans ?_ (by assumption))))).mono ?_
      rintro e w10 ⟨rfl, hb⟩
      have HK := Lib.hid (show Bel w9 w10 from Bel.trans (by repeat (first | assumption | exact Bel.refl _ | refine Bel.drew ?_ | refine Bel.drewN ?_ _ | refine Bel.alloc ?_ _ | refine Bel.setCell ?_ (by simp <;> omega) _ | refine Bel.trans ?_ (by assumption))) hb)
      replace HY := Lib.hid (HY.out.bel HK.out)
      replace HB := Lib.hid (HB.out.trans HK.out)
      replace HI5 := Lib.hid (HI5.out.bel HK.out)
      replace HI8 := Lib.hid (HI8.out.bel HK.out)
      replace d1 := HK.out.cell d1
      have ld1 := cell_lt d1
      clear y0 y1 y2 y3 y4 y5 ly
      obtain ⟨y0, y1, y2, y3, y4, y5⟩ := HY.out
      have ly := cell_lt y0
      clear hb HK
      go_wp2
      go_ret
      exact ⟨rfl, HB.out⟩
end Go.Proofs.YtogiidkofddhaaaDoor

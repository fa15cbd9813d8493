/-
  law: BeastsTimes: with all costs so many times as great Least, Blind, Way, Paid and Free are so many times as great: the call returns true for every trap, and changes nothing that was there
-/
import Derived.Test.YtogiidkofddhaaaDoorBWorks
import Derived.Test.YtogiidkofddhaaaDoorBLaw2
import Derived.Test.YtogiidkofddhaaaDoorBStage
namespace Go.Proofs.YtogiidkofddhaaaDoor
open Go Go.RowKit Go.Shelf
set_option maxHeartbeats 16000000
set_option maxRecDepth 100000
theorem prod_in {a t c : Int} (h0 : 0 ≤ a) (h1 : a ≤ c) (h2 : 1 ≤ t) (h3 : t ≤ 20) : 0 ≤ a * t ∧ a * t ≤ c * 20 :=
  ⟨Int.mul_nonneg h0 (by omega), Int.le_trans (Int.mul_le_mul_of_nonneg_right h1 (by omega)) (Int.mul_le_mul_of_nonneg_left h3 (by omega))⟩
/-- What the law says of the trap with all costs t times as great. -/
theorem times_law {b : BT} {t : Int} (h1 : 1 ≤ t) (h : validT b = true) (h' : validT (timesB b t) = true) (c d : Int) :
    leastV (timesB b t) true = leastV b true * t ∧ leastV (timesB b t) false = leastV b false * t ∧ planB (timesB b t) = planB b ∧
    wayV (timesB b t) c = wayV b c * t ∧ wayE (timesB b t) c = wayE b c ∧ paidA (timesB b t) c = paidA b c * t ∧ pathE (timesB b t) c = pathE b c ∧ freeV (timesB b t) d = freeV b d * t ∧ freeE (timesB b t) d = freeE b d := by
  have s := timesB_scaled (b := b) h1
  obtain ⟨w1, w2, _⟩ := s.way h h' c
  obtain ⟨p1, p2, _⟩ := s.paid rfl h h' c
  obtain ⟨f1, f2, _⟩ := s.freeV rfl h h' d
  exact ⟨s.least rfl h h' true, s.least rfl h h' false, s.plan rfl h h', w1, w2, p1, p2, f1, f2⟩
theorem times_in {b : BT} (h : validT b = true) (c d : Int) : 0 ≤ wayV b c ∧ wayV b c ≤ 1856 ∧ 0 ≤ paidA b c ∧ paidA b c ≤ 1856 ∧ 0 ≤ freeV b d ∧ freeV b d ≤ 1856 := by
  have e : timesB b 1 = b := by
    have k : timesD 1 b.doors b.doors.length = b.doors := by
      apply List.ext_getElem (by rw [timesD_len])
      intro j h1 h2
      have := timesD_at (t := 1) (k := b.doors.length) h2
      rw [if_pos h2] at this
      unfold atD at this
      rw [getD_lt _ j default h1, getD_lt _ j default h2] at this
      rw [this, Int.mul_one]
    unfold timesB
    rw [k, Int.mul_one, Int.mul_one]
  have s := timesB_scaled (b := b) (t := 1) (by omega)
  have h' : validT (timesB b 1) = true := by rw [e]; exact h
  obtain ⟨_, _, w3, w4⟩ := s.way h h' c
  obtain ⟨_, _, p3, p4⟩ := s.paid rfl h h' c
  obtain ⟨_, _, f3, f4⟩ := s.freeV rfl h h' d
  exact ⟨w3, w4, p3, p4, f3, f4⟩
theorem BeastsTimes_any (b : BT) (v : Value) (i c : Int) (x : BD) (t ch : Int) (w : World) (hf : FarAt w) (hv : BTrapAt w v b) : Calls Tryd.prog 12 #[v, .agg #[.int .i64 i, .int .i64 c, .int .i64 x.a, .int .i64 x.b, .int .i64 x.cost, .int .i64 t], .int .i64 ch] w fun e w' => e = .returned (.bool true) ∧ Bel w w' := by
  have HWK := Lib.hid (fun wx (hx : Bel w wx) => works_any wx (hf.bel hx))
  have HFA := Lib.hid (fun wx (hx : Bel w wx) => hf.bel hx)
  have HV := Lib.hid (fun wx (hx : Bel w wx) => hv.bel hx)
  have HB := Lib.hid (Bel.refl w)
  have HRD := Lib.hid (fun wx (hx : Bel w wx) => bready_any b v wx (hv.bel hx))
  have HBO := Lib.hid (fun h wx (hx : Bel w wx) => both_any b h v wx (hf.bel hx) (hv.bel hx))
  have HWY := Lib.hid (fun wx (hx : Bel w wx) => Way_any b v ch wx (hf.bel hx) (hv.bel hx))
  have HPD := Lib.hid (fun wx (hx : Bel w wx) => Paid_any b v ch wx (hf.bel hx) (hv.bel hx))
  have HFR := Lib.hid (fun wx (hx : Bel w wx) => Free_any b v i wx (hf.bel hx) (hv.bel hx))
  have HCP := Lib.hid (fun h1 h2 h3 wx (hx : Bel w wx) => bCopy_any b v wx (hv.bel hx) h1 h2 h3)
  have HWI := Lib.hid (fun wx => Within_any t 1 20 wx)
  obtain ⟨da, dc, sa, sc, pa, pc, rfl, hd, hs, hp⟩ := hv.open
  have HBX := Lib.hid (fun wx hx => (BoxB.new (w := w) (b := b) (dv := .slice da b.doors.length dc) (sv := .slice sa b.seen.length sc) (pv := .slice pa b.places.length pc) (T := 25)).bel (w' := wx) hx)
  clear hf hv hd hs hp
  cases hr : readyT b
  · rw [hr] at HRD
    clear hr
    go_enter Tryd.func12, Tryd.ntmps12
    go_wp2_with fail
    refine (HRD.out _ (HB.out.trans (by repeat (first | assumption | exact Bel.refl _ | refine Bel.drew ?_ | refine Bel.drewN ?_ _ | refine Bel.alloc ?_ _ | refine Bel.setCell ?_ (by simp <;> omega) _ | refine Bel.trans ?_ (by assumption))))).mono ?_
    rintro e w1 ⟨rfl, hb⟩
    have HY := Lib.hid (HBX.out _ (Bel.trans ((Bel.refl _).alloc _) hb))
    have u0 : w1.cell? ⟨w.heap.size + 1, 0, none⟩ = some (.int .i64 i) := hb.cell ((row_facts (new_row (by simp))).1 0)
    have u5 : w1.cell? ⟨w.heap.size + 1, 5, none⟩ = some (.int .i64 t) := hb.cell ((row_facts (new_row (by simp))).1 5)
    have HK0 := Lib.hid (show Bel w w1 from Bel.trans (by repeat (first | assumption | exact Bel.refl _ | refine Bel.drew ?_ | refine Bel.drewN ?_ _ | refine Bel.alloc ?_ _ | refine Bel.setCell ?_ (by simp <;> omega) _ | refine Bel.trans ?_ (by assumption))) hb)
    have lu := cell_lt u0
    replace HB := Lib.hid (HB.out.trans HK0.out)
    obtain ⟨y0, y1, y2, y3, y4, y5⟩ := HY.out
    have ly := cell_lt y0
    clear hb HK0
    go_wp2_with fail
    refine (HWK.out _ (HB.out.trans (by repeat (first | assumption | exact Bel.refl _ | refine Bel.drew ?_ | refine Bel.drewN ?_ _ | refine Bel.alloc ?_ _ | refine Bel.setCell ?_ (by simp <;> omega) _ | refine Bel.trans ?_ (by assumption))))).mono ?_
    rintro e w2 ⟨rfl, hb⟩
    have HK := Lib.hid (show Bel w1 w2 from Bel.trans (by repeat (first | assumption | exact Bel.refl _ | refine Bel.drew ?_ | refine Bel.drewN ?_ _ | refine Bel.alloc ?_ _ | refine Bel.setCell ?_ (by simp <;> omega) _ | refine Bel.trans ?_ (by assumption))) hb)
    replace HY := Lib.hid (HY.out.bel HK.out)
    replace HB := Lib.hid (HB.out.trans HK.out)
    replace u0 := HK.out.cell u0
    replace u5 := HK.out.cell u5
    clear lu
    have lu := cell_lt u0
    clear y0 y1 y2 y3 y4 y5 ly
    obtain ⟨y0, y1, y2, y3, y4, y5⟩ := HY.out
    have ly := cell_lt y0
    clear hb HK
    go_wp2
    go_ret
    exact ⟨rfl, HB.out⟩
  rw [hr] at HRD
  cases hwi : withinB t 1 20
  · rw [hwi] at HWI
    clear hr hwi
    go_enter Tryd.func12, Tryd.ntmps12
    go_wp2_with fail
    refine (HRD.out _ (HB.out.trans (by repeat (first | assumption | exact Bel.refl _ | refine Bel.drew ?_ | refine Bel.drewN ?_ _ | refine Bel.alloc ?_ _ | refine Bel.setCell ?_ (by simp <;> omega) _ | refine Bel.trans ?_ (by assumption))))).mono ?_
    rintro e w1 ⟨rfl, hb⟩
    have HY := Lib.hid (HBX.out _ (Bel.trans ((Bel.refl _).alloc _) hb))
    have u0 : w1.cell? ⟨w.heap.size + 1, 0, none⟩ = some (.int .i64 i) := hb.cell ((row_facts (new_row (by simp))).1 0)
    have u5 : w1.cell? ⟨w.heap.size + 1, 5, none⟩ = some (.int .i64 t) := hb.cell ((row_facts (new_row (by simp))).1 5)
    have HK0 := Lib.hid (show Bel w w1 from Bel.trans (by repeat (first | assumption | exact Bel.refl _ | refine Bel.drew ?_ | refine Bel.drewN ?_ _ | refine Bel.alloc ?_ _ | refine Bel.setCell ?_ (by simp <;> omega) _ | refine Bel.trans ?_ (by assumption))) hb)
    have lu := cell_lt u0
    replace HB := Lib.hid (HB.out.trans HK0.out)
    obtain ⟨y0, y1, y2, y3, y4, y5⟩ := HY.out
    have ly := cell_lt y0
    clear hb HK0
    go_wp2_with fail
    refine (HWI.out _).mono ?_
    rintro e wq ⟨rfl, rfl⟩
    go_wp2_with fail
    refine (HWK.out _ (HB.out.trans (by repeat (first | assumption | exact Bel.refl _ | refine Bel.drew ?_ | refine Bel.drewN ?_ _ | refine Bel.alloc ?_ _ | refine Bel.setCell ?_ (by simp <;> omega) _ | refine Bel.trans ?_ (by assumption))))).mono ?_
    rintro e w2 ⟨rfl, hb⟩
    have HK := Lib.hid (show Bel w1 w2 from Bel.trans (by repeat (first | assumption | exact Bel.refl _ | refine Bel.drew ?_ | refine Bel.drewN ?_ _ | refine Bel.alloc ?_ _ | refine Bel.setCell ?_ (by simp <;> omega) _ | refine Bel.trans ?_ (by assumption))) hb)
    replace HY := Lib.hid (HY.out.bel HK.out)
    replace HB := Lib.hid (HB.out.trans HK.out)
    replace u0 := HK.out.cell u0
    replace u5 := HK.out.cell u5
    clear lu
    have lu := cell_lt u0
    clear y0 y1 y2 y3 y4 y5 ly
    obtain ⟨y0, y1, y2, y3, y4, y5⟩ := HY.out
    have ly := cell_lt y0
    clear hb HK
    go_wp2
    go_ret
    exact ⟨rfl, HB.out⟩
  rw [hwi] at HWI
  obtain ⟨t1, t2⟩ := withinB_true.1 hwi
  obtain ⟨hfar, hval⟩ := readyT_iff.1 hr
  have hfr := farB_false hfar
  have hok := okb_iff.1 hval
  have HBO1 := Lib.hid (HBO.out hval)
  have HCP1 := Lib.hid (HCP.out (by omega) (by omega) (by omega))
  have HRT := Lib.hid (fun V wx h => bready_any (timesB b t) V wx h)
  have HBT := Lib.hid (fun hv V wx (hx : Bel w wx) h => both_any (timesB b t) hv V wx (HFA.out wx hx) h)
  have HWT := Lib.hid (fun V wx (hx : Bel w wx) h => Way_any (timesB b t) V ch wx (HFA.out wx hx) h)
  have HPT := Lib.hid (fun V wx (hx : Bel w wx) h => Paid_any (timesB b t) V ch wx (HFA.out wx hx) h)
  have HFT := Lib.hid (fun V wx (hx : Bel w wx) h => Free_any (timesB b t) V i wx (HFA.out wx hx) h)
  have HVT := Lib.hid (fun (h : readyT (timesB b t) = true) => (readyT_iff.1 h).2)
  have HLW := Lib.hid (fun h => times_law (b := b) (t := t) t1 hval h ch i)
  obtain ⟨bo0, bo1, bo2, _, _, _, _⟩ := both_law hval
  obtain ⟨wi1, wi2, pi1, pi2, fi1, fi2⟩ := times_in hval ch i
  have m1 := prod_in bo0 (Int.le_trans bo1 bo2) t1 t2
  have n1 := prod_in (Int.le_trans bo0 bo1) bo2 t1 t2
  have w1 := prod_in wi1 wi2 t1 t2
  have p1 := prod_in pi1 pi2 t1 t2
  have f1 := prod_in fi1 fi2 t1 t2
  have l1 := prod_in hok.l1 hok.l2 t1 t2
  have e1 := prod_in (show 0 ≤ b.eats by have := hok.e1; omega) hok.e2 t1 t2
  have HDC := Lib.hid (fun k (hk : k < b.doors.length) => prod_in (hok.dk k hk).2.2.2.1 (hok.dk k hk).2.2.2.2 t1 t2)
  have HTS := Lib.hid (fun k (hk : k < b.doors.length) => timesD_succ (t := t) hk)
  have HTA := Lib.hid (fun k (hk : k < b.doors.length) => show atD (timesD t b.doors k) k = atD b.doors k by rw [timesD_at hk, if_neg (by omega)])
  have HT0 := Lib.hid (timesD_zero (t := t) (l := b.doors))
  have hd40 := hfr.1
  clear hr hwi hfar hok HBO HCP
  generalize hm : leastV b true = m at *
  generalize hn : leastV b false = n at *
  generalize hpl : planB b = pl at *
  generalize hwv : wayV b ch = wv at *
  generalize hwe : wayE b ch = we at *
  generalize hpa : paidA b ch = pa' at *
  generalize hpe : pathE b ch = pe at *
  generalize hfv : freeV b i = fv at *
  generalize hfe : freeE b i = fe at *
  clear hm hn hpl hwv hwe hpa hpe hfv hfe
  go_enter Tryd.func12, Tryd.ntmps12
  go_wp2_with fail
  refine (HRD.out _ (HB.out.trans (by repeat (first | assumption | exact Bel.refl _ | refine Bel.drew ?_ | refine Bel.drewN ?_ _ | refine Bel.alloc ?_ _ | refine Bel.setCell ?_ (by simp <;> omega) _ | refine Bel.trans ?_ (by assumption))))).mono ?_
  rintro e w1 ⟨rfl, hb⟩
  have HY := Lib.hid (HBX.out _ (Bel.trans ((Bel.refl _).alloc _) hb))
  have u0 : w1.cell? ⟨w.heap.size + 1, 0, none⟩ = some (.int .i64 i) := hb.cell ((row_facts (new_row (by simp))).1 0)
  have u5 : w1.cell? ⟨w.heap.size + 1, 5, none⟩ = some (.int .i64 t) := hb.cell ((row_facts (new_row (by simp))).1 5)
  have HK0 := Lib.hid (show Bel w w1 from Bel.trans (by repeat (first | assumption | exact Bel.refl _ | refine Bel.drew ?_ | refine Bel.drewN ?_ _ | refine Bel.alloc ?_ _ | refine Bel.setCell ?_ (by simp <;> omega) _ | refine Bel.trans ?_ (by assumption))) hb)
  have lu := cell_lt u0
  replace HB := Lib.hid (HB.out.trans HK0.out)
  obtain ⟨y0, y1, y2, y3, y4, y5⟩ := HY.out
  have ly := cell_lt y0
  clear hb HK0
  go_wp2_with fail
  refine (HWI.out _).mono ?_
  rintro e wq ⟨rfl, rfl⟩
  go_wp2_with fail
  refine (HCP1.out _ (HB.out.trans (by repeat (first | assumption | exact Bel.refl _ | refine Bel.drew ?_ | refine Bel.drewN ?_ _ | refine Bel.alloc ?_ _ | refine Bel.setCell ?_ (by simp <;> omega) _ | refine Bel.trans ?_ (by assumption))))).mono ?_
  rintro e w3 ⟨gd, cd, gs, cs, gp, cp, rfl, hown⟩
  have HOWN := Lib.hid hown
  have HD0 := Lib.hid (DSt.new (T1 := 25) rfl rfl hown)
  have hixg := idxDoors (n := b.doors.length) (c := cd) (b := gd) (off := 0) (fun _ => rfl)
  have HU := Lib.hid (show _ ∧ _ from ⟨u0, u5⟩)
  unfold trapAgg
  replace u0 := hown.bel.cell u0
  replace u5 := hown.bel.cell u5
  clear lu y0 y1 y2 y3 y4 y5 ly
  have lu := cell_lt u0
  obtain ⟨y0, y1, y2, y3, y4, y5⟩ := HY.out.bel hown.bel
  have ly := cell_lt y0
  clear hown
  go_wp2
  generalize hWb : World.alloc w3 _ = Wb
  have HD1 : Hid (DSt w1 b (timesD t b.doors 0) w3.heap.size gd cd gs cs gp cp b.look b.eats Wb) := Lib.hid (by rw [← hWb, HT0.out]; exact HD0.out)
  clear hWb HD0 HOWN u0 u5 lu y0 y1 y2 y3 y4 y5 ly
  go_loopw [8] (fun i wr => ∃ k : Nat, k ≤ b.doors.length ∧ i = .int .i64 k ∧ Hid (DSt w1 b (timesD t b.doors k) w3.heap.size gd cd gs cs gp cp b.look b.eats wr)) (fun i _ => b.doors.length - (intOf i).toNat)
  case atStart => exact ⟨0, by omega, rfl, HD1⟩
  case round =>
    obtain ⟨k, hk, rfl, hst⟩ := hrel
    obtain ⟨u0, u5⟩ := HU.out
    replace u0 := hst.out.bel.cell u0
    replace u5 := hst.out.bel.cell u5
    have lu := cell_lt u0
    obtain ⟨y0, y1, y2, y3, y4, y5⟩ := HY.out.bel hst.out.bel
    have ly := cell_lt y0
    have o1 := hst.out.c1
    have lo := hst.out.lt
    have lgd : gd < wr.heap.size := by have := hst.out.hgs; have := hst.out.hgp; have := hst.out.hob; omega
    have gf := hst.out.df
    by_cases hlt : k < b.doors.length
    · have hlti : (k : Int) < (b.doors.length : Int) := by omega
      obtain ⟨e0, e1', e2⟩ := hst.out.d k (by rw [timesD_len]; exact hlt)
      rw [HTA.out k hlt] at e0 e1' e2
      obtain ⟨dc1, dc2⟩ := HDC.out k hlt
      have HNX := Lib.hid ((hst.out.door (k := k) (by rw [timesD_len]; exact hlt) ⟨(atD b.doors k).a, (atD b.doors k).b, (atD b.doors k).cost * t⟩).go (((Bel.refl _).alloc (.cells #[.int .i64 (atD b.doors k).a, .int .i64 (atD b.doors k).b, .int .i64 ((atD b.doors k).cost * t)] 43))))
      have HNS := Lib.hid (HTS.out k hlt)
      generalize atD b.doors k = d at *
      go_wp2
      go_roundw
      case rel => exact ⟨k + 1, by omega, by go_num, by rw [HNS.out]; exact HNX⟩
      case measure => simp [intOf]; omega
    · have hlti : ¬ (k : Int) < (b.doors.length : Int) := by omega
      obtain rfl : k = b.doors.length := by omega
      have o3 := hst.out.c3
      have o4 := hst.out.c4
      have of := hst.out.fz
      go_upto_region 12 with fail
      generalize hW : World.setCell (World.setCell _ _ _) _ _ = W8
      have HD8 : Hid (DSt w1 b (timesD t b.doors b.doors.length) w3.heap.size gd cd gs cs gp cp (b.look * t) (b.eats * t) W8) := Lib.hid (by rw [← hW]; exact hst.out.costs (b.look * t) (b.eats * t))
      clear hW u0 u5 lu y0 y1 y2 y3 y4 y5 ly o1 o3 o4 of lo lgd gf hlti hlt hk
      have HT8 : Hid (BTrapAt W8 _ (timesB b t)) := Lib.hid (HD8.out.trap (by omega) (by omega) (by omega))
      obtain ⟨u0, u5⟩ := HU.out
      have HK := Lib.hid HD8.out.bel
      replace u0 := HK.out.cell u0
      replace u5 := HK.out.cell u5
      have lu := cell_lt u0
      replace HY := Lib.hid (HY.out.bel HK.out)
      replace HB := Lib.hid (HB.out.trans HK.out)
      obtain ⟨y0, y1, y2, y3, y4, y5⟩ := HY.out
      have ly := cell_lt y0
      have lo := HD8.out.lt
      have o0 := HD8.out.c0
      have o1 := HD8.out.c1
      have o2 := HD8.out.c2
      have o3 := HD8.out.c3
      have o4 := HD8.out.c4
      have o5 := HD8.out.c5
      clear HD8 HK hst
      go_wp2_with fail
      refine (HRT.out _ _ HT8.out).mono ?_
      rintro e w9 ⟨rfl, hb⟩
      have HK := Lib.hid (show Bel W8 w9 from hb)
      clear hb
      replace HY := Lib.hid (HY.out.bel HK.out)
      replace HB := Lib.hid (HB.out.trans HK.out)
      replace HT8 := Lib.hid (HT8.out.bel HK.out)
      replace u0 := HK.out.cell u0
      replace u5 := HK.out.cell u5
      replace o0 := HK.out.cell o0
      replace o1 := HK.out.cell o1
      replace o2 := HK.out.cell o2
      replace o3 := HK.out.cell o3
      replace o4 := HK.out.cell o4
      replace o5 := HK.out.cell o5
      clear lu
      have lu := cell_lt u0
      clear lo
      have lo := cell_lt o0
      clear y0 y1 y2 y3 y4 y5 ly
      obtain ⟨y0, y1, y2, y3, y4, y5⟩ := HY.out
      have ly := cell_lt y0
      have HRV := HVT.out
      generalize readyT (timesB b t) = rt at *
      cases rt
      · skip
        clear HRV HVT
        go_wp2_with fail
        refine (HWK.out _ (HB.out.trans (by repeat (first | assumption | exact Bel.refl _ | refine Bel.drew ?_ | refine Bel.drewN ?_ _ | refine Bel.alloc ?_ _ | refine Bel.setCell ?_ (by simp <;> omega) _ | refine Bel.trans ?_ (by assumption))))).mono ?_
        rintro e w10 ⟨rfl, hb⟩
        have HK := Lib.hid (show Bel w9 w10 from Bel.trans (by repeat (first | assumption | exact Bel.refl _ | refine Bel.drew ?_ | refine Bel.drewN ?_ _ | refine Bel.alloc ?_ _ | refine Bel.setCell ?_ (by simp <;> omega) _ | refine Bel.trans ?_ (by assumption))) hb)
        replace HY := Lib.hid (HY.out.bel HK.out)
        replace HB := Lib.hid (HB.out.trans HK.out)
        replace HT8 := Lib.hid (HT8.out.bel HK.out)
        replace u0 := HK.out.cell u0
        replace u5 := HK.out.cell u5
        replace o0 := HK.out.cell o0
        replace o1 := HK.out.cell o1
        replace o2 := HK.out.cell o2
        replace o3 := HK.out.cell o3
        replace o4 := HK.out.cell o4
        replace o5 := HK.out.cell o5
        clear lu
        have lu := cell_lt u0
        clear lo
        have lo := cell_lt o0
        clear y0 y1 y2 y3 y4 y5 ly
        obtain ⟨y0, y1, y2, y3, y4, y5⟩ := HY.out
        have ly := cell_lt y0
        clear hb HK
        go_wp2
        go_ret
        exact ⟨rfl, HB.out⟩
      · skip
        have hv2 := HRV rfl
        have HBT1 := Lib.hid (HBT.out hv2)
        obtain ⟨a1, a2, a3, a4, a5, a6, a7, a8, a9⟩ := HLW.out hv2
        rw [a1, a2, a3] at HBT1
        rw [a4, a5] at HWT
        rw [a6, a7] at HPT
        rw [a8, a9] at HFT
        clear HRV HVT HBT HLW hv2 a1 a2 a3 a4 a5 a6 a7 a8 a9
        go_wp2_with fail
        refine (HBO1.out _ (HB.out.trans (by repeat (first | assumption | exact Bel.refl _ | refine Bel.drew ?_ | refine Bel.drewN ?_ _ | refine Bel.alloc ?_ _ | refine Bel.setCell ?_ (by simp <;> omega) _ | refine Bel.trans ?_ (by assumption))))).mono ?_
        rintro e w10 ⟨rfl, hb⟩
        have HK := Lib.hid (show Bel w9 w10 from Bel.trans (by repeat (first | assumption | exact Bel.refl _ | refine Bel.drew ?_ | refine Bel.drewN ?_ _ | refine Bel.alloc ?_ _ | refine Bel.setCell ?_ (by simp <;> omega) _ | refine Bel.trans ?_ (by assumption))) hb)
        replace HY := Lib.hid (HY.out.bel HK.out)
        replace HB := Lib.hid (HB.out.trans HK.out)
        replace HT8 := Lib.hid (HT8.out.bel HK.out)
        replace u0 := HK.out.cell u0
        replace u5 := HK.out.cell u5
        replace o0 := HK.out.cell o0
        replace o1 := HK.out.cell o1
        replace o2 := HK.out.cell o2
        replace o3 := HK.out.cell o3
        replace o4 := HK.out.cell o4
        replace o5 := HK.out.cell o5
        clear lu
        have lu := cell_lt u0
        clear lo
        have lo := cell_lt o0
        clear y0 y1 y2 y3 y4 y5 ly
        obtain ⟨y0, y1, y2, y3, y4, y5⟩ := HY.out
        have ly := cell_lt y0
        clear hb HK
        go_wp2_with fail
        refine (HBT1.out _ _ (HB.out.trans (by repeat (first | assumption | exact Bel.refl _ | refine Bel.drew ?_ | refine Bel.drewN ?_ _ | refine Bel.alloc ?_ _ | refine Bel.setCell ?_ (by simp <;> omega) _ | refine Bel.trans ?_ (by assumption)))) (HT8.out.bel (by repeat (first | assumption | exact Bel.refl _ | refine Bel.drew ?_ | refine Bel.drewN ?_ _ | refine Bel.alloc ?_ _ | refine Bel.setCell ?_ (by simp <;> omega) _ | refine Bel.trans ?_ (by assumption))))).mono ?_
        rintro e w11 ⟨rfl, hb⟩
        have HK := Lib.hid (show Bel w10 w11 from Bel.trans (by repeat (first | assumption | exact Bel.refl _ | refine Bel.drew ?_ | refine Bel.drewN ?_ _ | refine Bel.alloc ?_ _ | refine Bel.setCell ?_ (by simp <;> omega) _ | refine Bel.trans ?_ (by assumption))) hb)
        replace HY := Lib.hid (HY.out.bel HK.out)
        replace HB := Lib.hid (HB.out.trans HK.out)
        replace HT8 := Lib.hid (HT8.out.bel HK.out)
        replace u0 := HK.out.cell u0
        replace u5 := HK.out.cell u5
        replace o0 := HK.out.cell o0
        replace o1 := HK.out.cell o1
        replace o2 := HK.out.cell o2
        replace o3 := HK.out.cell o3
        replace o4 := HK.out.cell o4
        replace o5 := HK.out.cell o5
        clear lu
        have lu := cell_lt u0
        clear lo
        have lo := cell_lt o0
        clear y0 y1 y2 y3 y4 y5 ly
        obtain ⟨y0, y1, y2, y3, y4, y5⟩ := HY.out
        have ly := cell_lt y0
        clear hb HK
        go_wp2_with fail
        refine (HWY.out _ (HB.out.trans (by repeat (first | assumption | exact Bel.refl _ | refine Bel.drew ?_ | refine Bel.drewN ?_ _ | refine Bel.alloc ?_ _ | refine Bel.setCell ?_ (by simp <;> omega) _ | refine Bel.trans ?_ (by assumption))))).mono ?_
        rintro e w12 ⟨rfl, hb⟩
        have HK := Lib.hid (show Bel w11 w12 from Bel.trans (by repeat (first | assumption | exact Bel.refl _ | refine Bel.drew ?_ | refine Bel.drewN ?_ _ | refine Bel.alloc ?_ _ | refine Bel.setCell ?_ (by simp <;> omega) _ | refine Bel.trans ?_ (by assumption))) hb)
        replace HY := Lib.hid (HY.out.bel HK.out)
        replace HB := Lib.hid (HB.out.trans HK.out)
        replace HT8 := Lib.hid (HT8.out.bel HK.out)
        replace u0 := HK.out.cell u0
        replace u5 := HK.out.cell u5
        replace o0 := HK.out.cell o0
        replace o1 := HK.out.cell o1
        replace o2 := HK.out.cell o2
        replace o3 := HK.out.cell o3
        replace o4 := HK.out.cell o4
        replace o5 := HK.out.cell o5
        clear lu
        have lu := cell_lt u0
        clear lo
        have lo := cell_lt o0
        clear y0 y1 y2 y3 y4 y5 ly
        obtain ⟨y0, y1, y2, y3, y4, y5⟩ := HY.out
        have ly := cell_lt y0
        clear hb HK
        go_wp2_with fail
        refine (HWT.out _ _ (HB.out.trans (by repeat (first | assumption | exact Bel.refl _ | refine Bel.drew ?_ | refine Bel.drewN ?_ _ | refine Bel.alloc ?_ _ | refine Bel.setCell ?_ (by simp <;> omega) _ | refine Bel.trans ?_ (by assumption)))) (HT8.out.bel (by repeat (first | assumption | exact Bel.refl _ | refine Bel.drew ?_ | refine Bel.drewN ?_ _ | refine Bel.alloc ?_ _ | refine Bel.setCell ?_ (by simp <;> omega) _ | refine Bel.trans ?_ (by assumption))))).mono ?_
        rintro e w13 ⟨rfl, hb⟩
        have HK := Lib.hid (show Bel w12 w13 from Bel.trans (by repeat (first | assumption | exact Bel.refl _ | refine Bel.drew ?_ | refine Bel.drewN ?_ _ | refine Bel.alloc ?_ _ | refine Bel.setCell ?_ (by simp <;> omega) _ | refine Bel.trans ?_ (by assumption))) hb)
        replace HY := Lib.hid (HY.out.bel HK.out)
        replace HB := Lib.hid (HB.out.trans HK.out)
        replace HT8 := Lib.hid (HT8.out.bel HK.out)
        replace u0 := HK.out.cell u0
        replace u5 := HK.out.cell u5
        replace o0 := HK.out.cell o0
        replace o1 := HK.out.cell o1
        replace o2 := HK.out.cell o2
        replace o3 := HK.out.cell o3
        replace o4 := HK.out.cell o4
        replace o5 := HK.out.cell o5
        clear lu
        have lu := cell_lt u0
        clear lo
        have lo := cell_lt o0
        clear y0 y1 y2 y3 y4 y5 ly
        obtain ⟨y0, y1, y2, y3, y4, y5⟩ := HY.out
        have ly := cell_lt y0
        clear hb HK
        go_wp2_with fail
        refine (HPD.out _ (HB.out.trans (by repeat (first | assumption | exact Bel.refl _ | refine Bel.drew ?_ | refine Bel.drewN ?_ _ | refine Bel.alloc ?_ _ | refine Bel.setCell ?_ (by simp <;> omega) _ | refine Bel.trans ?_ (by assumption))))).mono ?_
        rintro e w14 ⟨rfl, hb⟩
        have HK := Lib.hid (show Bel w13 w14 from Bel.trans (by repeat (first | assumption | exact Bel.refl _ | refine Bel.drew ?_ | refine Bel.drewN ?_ _ | refine Bel.alloc ?_ _ | refine Bel.setCell ?_ (by simp <;> omega) _ | refine Bel.trans ?_ (by assumption))) hb)
        replace HY := Lib.hid (HY.out.bel HK.out)
        replace HB := Lib.hid (HB.out.trans HK.out)
        replace HT8 := Lib.hid (HT8.out.bel HK.out)
        replace u0 := HK.out.cell u0
        replace u5 := HK.out.cell u5
        replace o0 := HK.out.cell o0
        replace o1 := HK.out.cell o1
        replace o2 := HK.out.cell o2
        replace o3 := HK.out.cell o3
        replace o4 := HK.out.cell o4
        replace o5 := HK.out.cell o5
        clear lu
        have lu := cell_lt u0
        clear lo
        have lo := cell_lt o0
        clear y0 y1 y2 y3 y4 y5 ly
        obtain ⟨y0, y1, y2, y3, y4, y5⟩ := HY.out
        have ly := cell_lt y0
        clear hb HK
        go_wp2_with fail
        refine (HPT.out _ _ (HB.out.trans (by repeat (first | assumption | exact Bel.refl _ | refine Bel.drew ?_ | refine Bel.drewN ?_ _ | refine Bel.alloc ?_ _ | refine Bel.setCell ?_ (by simp <;> omega) _ | refine Bel.trans ?_ (by assumption)))) (HT8.out.bel (by repeat (first | assumption | exact Bel.refl _ | refine Bel.drew ?_ | refine Bel.drewN ?_ _ | refine Bel.alloc ?_ _ | refine Bel.setCell ?_ (by simp <;> omega) _ | refine Bel.trans ?_ (by assumption))))).mono ?_
        rintro e w15 ⟨rfl, hb⟩
        have HK := Lib.hid (show Bel w14 w15 from Bel.trans (by repeat (first | assumption | exact Bel.refl _ | refine Bel.drew ?_ | refine Bel.drewN ?_ _ | refine Bel.alloc ?_ _ | refine Bel.setCell ?_ (by simp <;> omega) _ | refine Bel.trans ?_ (by assumption))) hb)
        replace HY := Lib.hid (HY.out.bel HK.out)
        replace HB := Lib.hid (HB.out.trans HK.out)
        replace HT8 := Lib.hid (HT8.out.bel HK.out)
        replace u0 := HK.out.cell u0
        replace u5 := HK.out.cell u5
        replace o0 := HK.out.cell o0
        replace o1 := HK.out.cell o1
        replace o2 := HK.out.cell o2
        replace o3 := HK.out.cell o3
        replace o4 := HK.out.cell o4
        replace o5 := HK.out.cell o5
        clear lu
        have lu := cell_lt u0
        clear lo
        have lo := cell_lt o0
        clear y0 y1 y2 y3 y4 y5 ly
        obtain ⟨y0, y1, y2, y3, y4, y5⟩ := HY.out
        have ly := cell_lt y0
        clear hb HK
        go_wp2_with fail
        refine (HFR.out _ (HB.out.trans (by repeat (first | assumption | exact Bel.refl _ | refine Bel.drew ?_ | refine Bel.drewN ?_ _ | refine Bel.alloc ?_ _ | refine Bel.setCell ?_ (by simp <;> omega) _ | refine Bel.trans ?_ (by assumption))))).mono ?_
        rintro e w16 ⟨rfl, hb⟩
        have HK := Lib.hid (show Bel w15 w16 from Bel.trans (by repeat (first | assumption | exact Bel.refl _ | refine Bel.drew ?_ | refine Bel.drewN ?_ _ | refine Bel.alloc ?_ _ | refine Bel.setCell ?_ (by simp <;> omega) _ | refine Bel.trans ?_ (by assumption))) hb)
        replace HY := Lib.hid (HY.out.bel HK.out)
        replace HB := Lib.hid (HB.out.trans HK.out)
        replace HT8 := Lib.hid (HT8.out.bel HK.out)
        replace u0 := HK.out.cell u0
        replace u5 := HK.out.cell u5
        replace o0 := HK.out.cell o0
        replace o1 := HK.out.cell o1
        replace o2 := HK.out.cell o2
        replace o3 := HK.out.cell o3
        replace o4 := HK.out.cell o4
        replace o5 := HK.out.cell o5
        clear lu
        have lu := cell_lt u0
        clear lo
        have lo := cell_lt o0
        clear y0 y1 y2 y3 y4 y5 ly
        obtain ⟨y0, y1, y2, y3, y4, y5⟩ := HY.out
        have ly := cell_lt y0
        clear hb HK
        go_wp2_with fail
        refine (HFT.out _ _ (HB.out.trans (by repeat (first | assumption | exact Bel.refl _ | refine Bel.drew ?_ | refine Bel.drewN ?_ _ | refine Bel.alloc ?_ _ | refine Bel.setCell ?_ (by simp <;> omega) _ | refine Bel.trans ?_ (by assumption)))) (HT8.out.bel (by repeat (first | assumption | exact Bel.refl _ | refine Bel.drew ?_ | refine Bel.drewN ?_ _ | refine Bel.alloc ?_ _ | refine Bel.setCell ?_ (by simp <;> omega) _ | refine Bel.trans ?_ (by assumption))))).mono ?_
        rintro e w17 ⟨rfl, hb⟩
        have HK := Lib.hid (show Bel w16 w17 from Bel.trans (by repeat (first | assumption | exact Bel.refl _ | refine Bel.drew ?_ | refine Bel.drewN ?_ _ | refine Bel.alloc ?_ _ | refine Bel.setCell ?_ (by simp <;> omega) _ | refine Bel.trans ?_ (by assumption))) hb)
        replace HY := Lib.hid (HY.out.bel HK.out)
        replace HB := Lib.hid (HB.out.trans HK.out)
        replace HT8 := Lib.hid (HT8.out.bel HK.out)
        replace u0 := HK.out.cell u0
        replace u5 := HK.out.cell u5
        replace o0 := HK.out.cell o0
        replace o1 := HK.out.cell o1
        replace o2 := HK.out.cell o2
        replace o3 := HK.out.cell o3
        replace o4 := HK.out.cell o4
        replace o5 := HK.out.cell o5
        clear lu
        have lu := cell_lt u0
        clear lo
        have lo := cell_lt o0
        clear y0 y1 y2 y3 y4 y5 ly
        obtain ⟨y0, y1, y2, y3, y4, y5⟩ := HY.out
        have ly := cell_lt y0
        clear hb HK
        go_wp2_with fail
        refine (HWK.out _ (HB.out.trans (by repeat (first | assumption | exact Bel.refl _ | refine Bel.drew ?_ | refine Bel.drewN ?_ _ | refine Bel.alloc ?_ _ | refine Bel.setCell ?_ (by simp <;> omega) _ | refine Bel.trans ?_ (by assumption))))).mono ?_
        rintro e w18 ⟨rfl, hb⟩
        have HK := Lib.hid (show Bel w17 w18 from Bel.trans (by repeat (first | assumption | exact Bel.refl _ | refine Bel.drew ?_ | refine Bel.drewN ?_ _ | refine Bel.alloc ?_ _ | refine Bel.setCell ?_ (by simp <;> omega) _ | refine Bel.trans ?_ (by assumption))) hb)
        replace HY := Lib.hid (HY.out.bel HK.out)
        replace HB := Lib.hid (HB.out.trans HK.out)
        replace HT8 := Lib.hid (HT8.out.bel HK.out)
        replace u0 := HK.out.cell u0
        replace u5 := HK.out.cell u5
        replace o0 := HK.out.cell o0
        replace o1 := HK.out.cell o1
        replace o2 := HK.out.cell o2
        replace o3 := HK.out.cell o3
        replace o4 := HK.out.cell o4
        replace o5 := HK.out.cell o5
        clear lu
        have lu := cell_lt u0
        clear lo
        have lo := cell_lt o0
        clear y0 y1 y2 y3 y4 y5 ly
        obtain ⟨y0, y1, y2, y3, y4, y5⟩ := HY.out
        have ly := cell_lt y0
        clear hb HK
        go_wp2
        go_ret
        exact ⟨rfl, HB.out⟩
end Go.Proofs.YtogiidkofddhaaaDoor

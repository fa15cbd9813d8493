/-
  law: BeastsTrapped: there is a plan just if none of the Places is in Trapped, and then there is one without a look; no door that is opened brings a beast into or out of Trapped: the call returns true for every trap, door and chamber, and changes nothing that was there
-/
import Derived.Test.YtogiidkofddhaaaDoorBWorks
import Derived.Test.YtogiidkofddhaaaDoorBLaw2
namespace Go.Proofs.YtogiidkofddhaaaDoor
open Go Go.RowKit Go.Shelf
set_option maxHeartbeats 8000000
set_option maxRecDepth 100000
theorem move_one {b : BT} (h : validT b = true) {i : Nat} (hi : i < b.doors.length) {c : Int} (h1 : 0 ≤ c) (h2 : c < b.n) : moveE b [c] i = 0 ∧ moveL b [c] i = [thr (atD b.doors i) c] := by
  have hb := okb_iff.1 h
  have n2 := hb.n2
  have hr : risingB [c] (-1) (b.n - 1) = true := asc_rising (by simp [Asc]) fun p hp => by rw [List.mem_singleton.1 hp]; omega
  have hd : isDoorB b i = true := withinB_true.2 ⟨by omega, by omega⟩
  have he : moveE b [c] i = 0 := by unfold moveE; rw [h, hd, hr]; rfl
  have ht := thr_in (hb.dk i hi) (p := c) (by omega) h2
  refine ⟨he, ?_⟩
  unfold moveL
  rw [if_pos he, ofL_one, Int.toNat_natCast, mvB_single (by omega) (by omega), ← ofL_one, plOf_ofL (by simp [Asc]) fun p hp => by rw [List.mem_singleton.1 hp]; omega]
theorem BeastsTrapped_any (b : BT) (v : Value) (n c : Int) (w : World) (hf : FarAt w) (hv : BTrapAt w v b) : Calls Tryd.prog 9 #[v, .int .i64 n, .int .i64 c] w fun e w' => e = .returned (.bool true) ∧ Bel w w' := by
  have HWK := Lib.hid (fun wx (hx : Bel w wx) => works_any wx (hf.bel hx))
  have HFA := Lib.hid (fun wx (hx : Bel w wx) => hf.bel hx)
  have HV := Lib.hid (fun wx (hx : Bel w wx) => hv.bel hx)
  have HB := Lib.hid (Bel.refl w)
  have HRD := Lib.hid (fun wx (hx : Bel w wx) => bready_any b v wx (hv.bel hx))
  have HBO := Lib.hid (fun h wx (hx : Bel w wx) => both_any b h v wx (hf.bel hx) (hv.bel hx))
  have HTR := Lib.hid (fun wx (hx : Bel w wx) => Trapped_any b v wx (hf.bel hx) (hv.bel hx))
  have HID := Lib.hid (fun wx (hx : Bel w wx) => R6IsDoor_any b n v wx (hv.bel hx))
  have HIC := Lib.hid (fun wx (hx : Bel w wx) => R6IsChamber_any b c v wx (hv.bel hx))
  have HMV := Lib.hid (fun qv l wx (hx : Bel w wx) h => bMove_any b v qv l n wx (hv.bel hx) h)
  obtain ⟨da, dc, sa, sc, pa, pc, rfl, hd, hs, hp⟩ := hv.open
  have HBX := Lib.hid (fun wx hx => (BoxB.new (w := w) (b := b) (dv := .slice da b.doors.length dc) (sv := .slice sa b.seen.length sc) (pv := .slice pa b.places.length pc) (T := 25)).bel (w' := wx) hx)
  obtain ⟨pb, poff, hpa, hpl, _, hpc⟩ := hp.open
  have hixp := idxInts (c := pc) hpa
  have HPC := Lib.hid hpc
  clear hf hv hd hs hp hpa hpc
  cases hr : readyT b
  · rw [hr] at HRD
    clear hr
    go_enter Tryd.func9, Tryd.ntmps9
    go_wp2_with fail
    refine (HRD.out _ (HB.out.trans (by repeat (first | assumption | exact Bel.refl _ | refine Bel.drew ?_ | refine Bel.drewN ?_ _ | refine Bel.alloc ?_ _ | refine Bel.setCell ?_ (by simp <;> omega) _ | refine Bel.trans ?_ (by assumption))))).mono ?_
    rintro e w1 ⟨rfl, hb⟩
    have HY := Lib.hid (HBX.out _ hb)
    have HK := Lib.hid (show Bel w w1 from Bel.trans (by repeat (first | assumption | exact Bel.refl _ | refine Bel.drew ?_ | refine Bel.drewN ?_ _ | refine Bel.alloc ?_ _ | refine Bel.setCell ?_ (by simp <;> omega) _ | refine Bel.trans ?_ (by assumption))) hb)
    replace HB := Lib.hid (HB.out.trans HK.out)
    obtain ⟨y0, y1, y2, y3, y4, y5⟩ := HY.out
    have ly := cell_lt y0
    clear hb HK
    go_wp2_with fail
    refine (HWK.out _ (HB.out.trans (by repeat (first | assumption | exact Bel.refl _ | refine Bel.drew ?_ | refine Bel.drewN ?_ _ | refine Bel.alloc ?_ _ | refine Bel.setCell ?_ (by simp <;> omega) _ | refine Bel.trans ?_ (by assumption))))).mono ?_
    rintro e w2 ⟨rfl, hb⟩
    have HK := Lib.hid (show Bel w1 w2 from Bel.trans (by repeat (first | assumption | exact Bel.refl _ | refine Bel.drew ?_ | refine Bel.drewN ?_ _ | refine Bel.alloc ?_ _ | refine Bel.setCell ?_ (by simp <;> omega) _ | refine Bel.trans ?_ (by assumption))) hb)
    replace HY := Lib.hid (HY.out.bel HK.out)
    replace HB := Lib.hid (HB.out.trans HK.out)
    clear y0 y1 y2 y3 y4 y5 ly
    obtain ⟨y0, y1, y2, y3, y4, y5⟩ := HY.out
    have ly := cell_lt y0
    clear hb HK
    go_wp2
    go_ret
    exact ⟨rfl, HB.out⟩
  rw [hr] at HRD
  obtain ⟨hfar, hval⟩ := readyT_iff.1 hr
  have hok := okb_iff.1 hval
  have n1 := hok.n1
  have n2 := hok.n2
  have HBO1 := Lib.hid (HBO.out hval)
  rw [chkT_true hval] at HTR
  have hta : Asc (trapA b) ∧ ∀ p, p ∈ trapA b → 0 ≤ p ∧ p ≤ b.n - 1 := by
    have e : trapA b = trTo b b.n.toNat := by unfold trapA; rw [hval]; rfl
    rw [e]
    exact ⟨(trTo_asc _).1, fun p hp => by have := (trTo_asc (b := b) _).2 p hp; omega⟩
  have hrt := asc_rising hta.1 hta.2
  have HRI := Lib.hid (fun lv wx (hx : IntsAt wx lv (trapA b)) => (Rising_any lv (trapA b) 0 (b.n - 1) wx hx).mono (R' := fun e w' => e = .returned (.bool true) ∧ Bel wx w') fun e w' q => ⟨by rw [q.1, hrt], q.2⟩)
  have HIN := Lib.hid (fun lv p wx (hx : IntsAt wx lv (trapA b)) => In_any lv (trapA b) p wx hx)
  have HFS := Lib.hid (fun k => show freeTo b (k + 1) = (freeTo b k && !inB (trapA b) (at0 b.places k)) from rfl)
  have HF0 := Lib.hid (show freeTo b 0 = true from rfl)
  have HFP := Lib.hid (free_plan hval)
  have HTHR := Lib.hid (fun i (hi : i < b.doors.length) p h1 h2 => trap_thr hval (i := i) hi (p := p) h1 h2)
  have HONE := Lib.hid (fun i (hi : i < b.doors.length) p h1 h2 => move_one hval (i := i) hi (c := p) h1 h2)
  obtain ⟨g0, g1, g2, _, _, _, _⟩ := both_law hval
  have HCHB := Lib.hid (chamB_in n1 n2 c)
  clear hr HBO hta hrt hfar hval hok
  generalize leastV b true = m at *
  generalize leastV b false = bl at *
  go_enter Tryd.func9, Tryd.ntmps9
  go_wp2_with fail
  refine (HRD.out _ (HB.out.trans (by repeat (first | assumption | exact Bel.refl _ | refine Bel.drew ?_ | refine Bel.drewN ?_ _ | refine Bel.alloc ?_ _ | refine Bel.setCell ?_ (by simp <;> omega) _ | refine Bel.trans ?_ (by assumption))))).mono ?_
  rintro e w1 ⟨rfl, hb⟩
  have HY := Lib.hid (HBX.out _ hb)
  have HK := Lib.hid (show Bel w w1 from Bel.trans (by repeat (first | assumption | exact Bel.refl _ | refine Bel.drew ?_ | refine Bel.drewN ?_ _ | refine Bel.alloc ?_ _ | refine Bel.setCell ?_ (by simp <;> omega) _ | refine Bel.trans ?_ (by assumption))) hb)
  replace HB := Lib.hid (HB.out.trans HK.out)
  obtain ⟨y0, y1, y2, y3, y4, y5⟩ := HY.out
  have ly := cell_lt y0
  clear hb HK
  go_wp2_with fail
  refine (HTR.out _ (HB.out.trans (by repeat (first | assumption | exact Bel.refl _ | refine Bel.drew ?_ | refine Bel.drewN ?_ _ | refine Bel.alloc ?_ _ | refine Bel.setCell ?_ (by simp <;> omega) _ | refine Bel.trans ?_ (by assumption))))).mono ?_
  rintro e w2 ⟨V2, rfl, hV2, hb⟩
  have HK := Lib.hid (show Bel w1 w2 from Bel.trans (by repeat (first | assumption | exact Bel.refl _ | refine Bel.drew ?_ | refine Bel.drewN ?_ _ | refine Bel.alloc ?_ _ | refine Bel.setCell ?_ (by simp <;> omega) _ | refine Bel.trans ?_ (by assumption))) hb)
  replace HY := Lib.hid (HY.out.bel HK.out)
  replace HB := Lib.hid (HB.out.trans HK.out)
  clear y0 y1 y2 y3 y4 y5 ly
  obtain ⟨y0, y1, y2, y3, y4, y5⟩ := HY.out
  have ly := cell_lt y0
  have HS2 := Lib.hid hV2
  clear hV2
  clear hb HK
  replace HS2 := Lib.hid HS2.out
  go_wp2_with fail
  refine (HBO1.out _ (HB.out.trans (by repeat (first | assumption | exact Bel.refl _ | refine Bel.drew ?_ | refine Bel.drewN ?_ _ | refine Bel.alloc ?_ _ | refine Bel.setCell ?_ (by simp <;> omega) _ | refine Bel.trans ?_ (by assumption))))).mono ?_
  rintro e w3 ⟨rfl, hb⟩
  have HK := Lib.hid (show Bel w2 w3 from Bel.trans (by repeat (first | assumption | exact Bel.refl _ | refine Bel.drew ?_ | refine Bel.drewN ?_ _ | refine Bel.alloc ?_ _ | refine Bel.setCell ?_ (by simp <;> omega) _ | refine Bel.trans ?_ (by assumption))) hb)
  replace HY := Lib.hid (HY.out.bel HK.out)
  replace HB := Lib.hid (HB.out.trans HK.out)
  replace HS2 := Lib.hid (HS2.out.bel HK.out)
  clear y0 y1 y2 y3 y4 y5 ly
  obtain ⟨y0, y1, y2, y3, y4, y5⟩ := HY.out
  have ly := cell_lt y0
  clear hb HK
  obtain ⟨ta, tc, tb, toff, hle, -⟩ := HS2.out
  subst hle
  go_wp2_with fail
  refine (HRI.out _ _ (HS2.out.bel (by repeat (first | assumption | exact Bel.refl _ | refine Bel.drew ?_ | refine Bel.drewN ?_ _ | refine Bel.alloc ?_ _ | refine Bel.setCell ?_ (by simp <;> omega) _ | refine Bel.trans ?_ (by assumption))))).mono ?_
  rintro e w4 ⟨rfl, hb⟩
  have HK := Lib.hid (show Bel w3 w4 from Bel.trans (by repeat (first | assumption | exact Bel.refl _ | refine Bel.drew ?_ | refine Bel.drewN ?_ _ | refine Bel.alloc ?_ _ | refine Bel.setCell ?_ (by simp <;> omega) _ | refine Bel.trans ?_ (by assumption))) hb)
  replace HY := Lib.hid (HY.out.bel HK.out)
  replace HB := Lib.hid (HB.out.trans HK.out)
  replace HS2 := Lib.hid (HS2.out.bel HK.out)
  clear y0 y1 y2 y3 y4 y5 ly
  obtain ⟨y0, y1, y2, y3, y4, y5⟩ := HY.out
  have ly := cell_lt y0
  clear hb HK
  go_wp2
  clear y0 y1 y2 y3 y4 y5 ly
  go_loopw [13, 14] (fun vf i wr => ∃ k : Nat, k ≤ b.places.length ∧ i = .int .i64 k ∧ vf = .bool (freeTo b k) ∧ Bel w4 wr) (fun _ i _ => b.places.length - (intOf i).toNat)
  case atStart => exact ⟨0, by omega, rfl, by rw [HF0.out], Bel.refl _⟩
  case round =>
    obtain ⟨k, hk, rfl, rfl, hw⟩ := hrel
    have HW := Lib.hid hw
    obtain ⟨y0, y1, y2, y3, y4, y5⟩ := HY.out.bel hw
    have ly := cell_lt y0
    have HBW := Lib.hid (HB.out.trans hw)
    by_cases hlt : k < b.places.length
    · have hlti : (k : Int) < (b.places.length : Int) := by omega
      have q0 := HBW.out.cell (HPC.out k hlt)
      have lq := cell_lt q0
      have HS5 := Lib.hid (HS2.out.bel hw)
      have HIK := Lib.hid (fun lv wx hx => HIN.out lv (at0 b.places k) wx hx)
      have HSK := Lib.hid (HFS.out k)
      clear hw
      generalize at0 b.places k = p at *
      cases hfk : freeTo b k
      · have HN := Lib.hid (show freeTo b (k + 1) = false by rw [HSK.out, hfk]; rfl)
        clear hfk HSK
        go_wp2
        go_roundw
        case rel => exact ⟨k + 1, by omega, by go_num, by rw [HN.out], HW.out⟩
        case measure => simp [intOf]; omega
      · have HN := Lib.hid (show freeTo b (k + 1) = !inB (trapA b) p by rw [HSK.out, hfk]; rfl)
        clear hfk HSK
        go_wp2_with fail
        refine (HIK.out _ _ HS5.out).mono ?_
        rintro e w6 ⟨rfl, rfl⟩
        go_wp2
        go_roundw
        case rel => exact ⟨k + 1, by omega, by go_num, by rw [HN.out], HW.out⟩
        case measure => simp [intOf]; omega
    · have hlti : ¬ (k : Int) < (b.places.length : Int) := by omega
      obtain rfl : k = b.places.length := by omega
      have HY5 := Lib.hid (HY.out.bel hw)
      have HS5 := Lib.hid (HS2.out.bel hw)
      rw [HFP.out]
      clear hw
      cases hdo : isDoorB b n
      · rw [hdo] at HID
        clear hdo
        cases hpl : planB b
        all_goals
          clear hpl
          go_wp2_with fail
          refine (HID.out _ HBW.out).mono ?_
          rintro e w6 ⟨rfl, hb⟩
          have HB6 := Lib.hid (HBW.out.trans hb)
          clear hb
          go_wp2_with fail
          refine (HWK.out _ HB6.out).mono ?_
          rintro e w7 ⟨rfl, hb⟩
          have HB7 := Lib.hid (HB6.out.trans hb)
          clear hb
          go_wp2
          go_ret
          exact ⟨rfl, HB7.out⟩
      rw [hdo] at HID
      cases hch : chamB b.n c
      · rw [hch] at HIC
        clear hdo hch
        cases hpl : planB b
        all_goals
          clear hpl
          go_wp2_with fail
          refine (HID.out _ HBW.out).mono ?_
          rintro e w6 ⟨rfl, hb⟩
          have HB6 := Lib.hid (HBW.out.trans hb)
          replace y0 := hb.cell y0
          replace y1 := hb.cell y1
          replace y2 := hb.cell y2
          replace y3 := hb.cell y3
          replace y4 := hb.cell y4
          replace y5 := hb.cell y5
          have ly6 := cell_lt y0
          clear hb
          go_wp2_with fail
          refine (HIC.out _ HB6.out).mono ?_
          rintro e w7 ⟨rfl, hb⟩
          have HB7 := Lib.hid (HB6.out.trans hb)
          clear hb
          go_wp2_with fail
          refine (HWK.out _ HB7.out).mono ?_
          rintro e w8 ⟨rfl, hb⟩
          have HB8 := Lib.hid (HB7.out.trans hb)
          clear hb
          go_wp2
          go_ret
          exact ⟨rfl, HB8.out⟩
      obtain ⟨c1, c2⟩ := withinB_true.1 (HCHB.out ▸ hch)
      obtain ⟨e1, e2⟩ := withinB_true.1 (show withinB n 0 ((b.doors.length : Int) - 1) = true from hdo)
      obtain ⟨i, rfl⟩ : ∃ i : Nat, n = i := ⟨n.toNat, by omega⟩
      obtain ⟨m1, m2⟩ := HONE.out i (by omega) c c1 (by omega)
      have HTH := Lib.hid (HTHR.out i (by omega) c c1 (by omega))
      have HMV1 := Lib.hid (fun qv wx hx (h : IntsAt wx qv [c]) => (HMV.out qv [c] wx hx h).mono (R' := LErr 0 [thr (atD b.doors i) c] wx) fun e w' q => by rw [m1, m2] at q; exact q)
      rw [hch] at HIC
      generalize thr (atD b.doors i) c = tc' at *
      clear hdo hch e1 e2 m1 m2 HMV HTHR HONE
      cases hpl : planB b
      all_goals
        clear hpl
        go_wp2_with fail
        refine (HID.out _ HBW.out).mono ?_
        rintro e w6 ⟨rfl, hb⟩
        have HB6 := Lib.hid (HBW.out.trans hb)
        have HS6 := Lib.hid (HS5.out.bel hb)
        replace y0 := hb.cell y0
        replace y1 := hb.cell y1
        replace y2 := hb.cell y2
        replace y3 := hb.cell y3
        replace y4 := hb.cell y4
        replace y5 := hb.cell y5
        have ly6 := cell_lt y0
        clear hb
        go_wp2_with fail
        refine (HIC.out _ HB6.out).mono ?_
        rintro e w7 ⟨rfl, hb⟩
        have HB7 := Lib.hid (HB6.out.trans hb)
        have HS7 := Lib.hid (HS6.out.bel hb)
        replace y0 := hb.cell y0
        replace y1 := hb.cell y1
        replace y2 := hb.cell y2
        replace y3 := hb.cell y3
        replace y4 := hb.cell y4
        replace y5 := hb.cell y5
        have ly7 := cell_lt y0
        clear hb
        go_wp2_with fail
        refine (HMV1.out _ _ (HB7.out.trans (by repeat (first | assumption | exact Bel.refl _ | refine Bel.drew ?_ | refine Bel.drewN ?_ _ | refine Bel.alloc ?_ _ | refine Bel.setCell ?_ (by simp <;> omega) _ | refine Bel.trans ?_ (by assumption)))) (one_ints)).mono ?_
        rintro e w8 ⟨V8, rfl, hV8, hb⟩
        have HK8 := Lib.hid (show Bel w7 w8 from Bel.trans (by repeat (first | assumption | exact Bel.refl _ | refine Bel.drew ?_ | refine Bel.drewN ?_ _ | refine Bel.alloc ?_ _ | refine Bel.setCell ?_ (by simp <;> omega) _ | refine Bel.trans ?_ (by assumption))) hb)
        have HB8 := Lib.hid (HB7.out.trans HK8.out)
        have HS8 := Lib.hid (HS7.out.bel HK8.out)
        obtain ⟨va, vc, vb, voff, hle, hva, _, hvc⟩ := hV8
        subst hle
        have hva1 := hva (by simp)
        subst hva1
        have v0 := hvc 0 (by simp)
        rw [show at0 [tc'] 0 = tc' from rfl, Nat.add_zero] at v0
        have lv := cell_lt v0
        have hixv := idxInts (n := 1) (c := vc) (a := some ⟨vb, voff, none⟩) (b := vb) (off := voff) (fun _ => rfl) w8 0 (by omega)
        clear hb hva hvc
        simp only [List.length_cons, List.length_nil, Nat.zero_add]
        go_wp2_with fail
        refine (HIN.out _ tc' _ HS8.out).mono ?_
        rintro e w9 ⟨rfl, rfl⟩
        go_wp2_with fail
        refine (HIN.out _ c _ HS8.out).mono ?_
        rintro e w9 ⟨rfl, rfl⟩
        rw [HTH.out]
        cases hq : inB (trapA b) c
        all_goals
          clear hq
          go_wp2_with fail
          refine (HWK.out _ HB8.out).mono ?_
          rintro e w9 ⟨rfl, hb⟩
          have HB9 := Lib.hid (HB8.out.trans hb)
          clear hb
          go_wp2
          go_ret
          exact ⟨rfl, HB9.out⟩
end Go.Proofs.YtogiidkofddhaaaDoor

/-
  beasts: the reference's Freed, Free.
-/
import Derived.Test.YtogiidkofddhaaaDoorBRef15
import Derived.Test.YtogiidkofddhaaaDoorBStage
import Derived.Test.YtogiidkofddhaaaDoorBFree
namespace Go.Proofs.YtogiidkofddhaaaDoor
open Go Go.RowKit Go.Shelf
set_option maxHeartbeats 8000000
set_option maxRecDepth 100000
/-- The rounds of the reference's Script. -/
def RScrI (b : BT) (S : Nat) (w3 : World) (V pv : Value) (wr : World) : Prop := ∃ (l : List BS) (s : Nat) (c n : Int), Dom b s ∧ opt b false 1048576 1 s = some (c * 1048576 + n) ∧ 0 ≤ n ∧ (l.length : Int) + n ≤ 64 ∧
  l ++ scriptF b 64 s = scriptF b 64 S ∧ StepSt l w3 V wr ∧ Off wr V fun wx => IntsAt wx pv (plOf s)
theorem stepsR_door {b : BT} {j : Nat} (h : j < (stepsR b false).length) : atS (stepsR b false) j = ⟨1, (j : Int)⟩ ∧ j < b.doors.length := by
  have hl : j < b.doors.length := by unfold stepsR at h; simpa using h
  refine ⟨?_, hl⟩
  unfold atS stepsR
  simp [List.getD, hl]
/-- The reference's step of a script. -/
theorem script_at {b : BT} (hb : Okb b) {ct : List Int} (h : TabO b false 1000 1 ct) {s : Nat} (hs : Dom b s) (h1 : s ≠ 1) {c n : Int} (ho : opt b false 1048576 1 s = some (c * 1048576 + n)) (hn : 0 ≤ n) (hn2 : n ≤ 64) :
    ∃ i : Nat, i < b.doors.length ∧ i < (stepsR b false).length ∧ withR b ct s (atS (stepsR b false) i) 1000 1 = at0 ct s ∧ (∀ j, j < i → withR b ct s (atS (stepsR b false) j) 1000 1 ≠ at0 ct s) ∧
      Dom b (mvB (atD b.doors i) s) ∧ (∃ d m : Int, opt b false 1048576 1 (mvB (atD b.doors i) s) = some (d * 1048576 + m) ∧ 0 ≤ m ∧ n = m + 1) ∧ scriptF b 64 s = ⟨1, (i : Int)⟩ :: scriptF b 64 (mvB (atD b.doors i) s) := by
  obtain ⟨i, hi, hx, hnv, hd, d, m, q1, q2, q3, q4, q5⟩ := blind_step hb hs h1 ho hn hn2
  have hu := turns_m.optE hb way_m (looks := false) hs
  rw [ho] at hu
  have hnv2 := (script_next hb hs).trans hnv
  obtain ⟨i0, a1, a2, _, a4, a5⟩ := nextR_at hb way_m (small_m hb) (by omega) h hs hu hnv2
  obtain ⟨b1, b2⟩ := stepsR_door a1
  rw [hx] at a2
  rw [b1] at a2
  injection a2 with _ a2
  obtain rfl : i0 = i := by omega
  refine ⟨i0, hi, a1, a4, a5, hd, ⟨d, m, q1, q2, q4⟩, ?_⟩
  have e : scriptF b 64 s = if s = 1 then [] else (nextB b s).1 :: scriptF b 63 ((nextB b s).2.headD 0) := rfl
  rw [e, if_neg h1, hx]
  show _ :: scriptF b 63 (mvB (atD b.doors i0) s) = _
  rw [script_fuel hb 63 64 _ d m hd q1 q2 q3 (by omega) (by omega)]
theorem R6Script_any (b : BT) (v : Value) (w : World) (hv : BTrapAt w v b) :
    Calls Tryd.prog 48 #[v] w fun e w' => ∃ V, e = .returned (.tuple #[V, .int .i64 (leastE b false)]) ∧ StepsAt w' V (scriptA b) ∧ Bel w w' := by
  have HBL := Lib.hid (fun wx (hx : Bel w wx) => R6Blind_any b v wx (hv.bel hx))
  have HV := Lib.hid hv
  obtain ⟨da, dc, sa, sc, pa, pc, rfl, _, _, hp⟩ := hv.open
  have HP := Lib.hid hp
  have HBX := Lib.hid (fun wx hx => (BoxB.new (w := w) (b := b) (dv := .slice da b.doors.length dc) (sv := .slice sa b.seen.length sc) (pv := .slice pa b.places.length pc) (T := 25)).bel (w' := wx) hx)
  clear hv hp
  by_cases hE : leastE b false = 0
  rotate_left
  · have E1 := Lib.hid (show scriptA b = [] by
      unfold leastE at hE
      unfold scriptA
      cases e : validT b
      · rfl
      · rw [e] at hE
        cases e3 : opt b false 1 0 (ofL b.places) with
        | none => rfl
        | some u => unfold optE at hE; rw [e3] at hE; simp at hE)
    have hb1 : (leastE b false != 0) = true := by simpa using hE
    clear hE HV HP HBX
    generalize leastE b false = E at *
    generalize leastV b false = L at *
    go_enter Tryd.func48, Tryd.ntmps48
    go_wp2_with fail
    refine (HBL.out _ (by repeat (first | assumption | exact Bel.refl _ | refine Bel.drew ?_ | refine Bel.drewN ?_ _ | refine Bel.alloc ?_ _ | refine Bel.setCell ?_ (by simp <;> omega) _ | refine Bel.trans ?_ (by assumption)))).mono ?_
    rintro e w1 ⟨rfl, hb⟩
    have HB := Lib.hid (show Bel w w1 from Bel.trans (by repeat (first | assumption | exact Bel.refl _ | refine Bel.drew ?_ | refine Bel.drewN ?_ _ | refine Bel.alloc ?_ _ | refine Bel.setCell ?_ (by simp <;> omega) _ | refine Bel.trans ?_ (by assumption))) hb)
    clear hb
    go_wp2
    exact bodyPost_ret (v := .tuple #[.slice none 0 0, .int .i64 E]) (by simp [results, Tryd.results48, go_sem]) rfl ⟨_, rfl, by rw [E1.out]; exact StepsAt.nil _, HB.out⟩
  have hval : validT b = true := by
    cases e : validT b
    · unfold leastE at hE; rw [e] at hE; simp at hE
    · rfl
  have hok := okb_iff.1 hval
  have hD := dom_places hok
  have hn2 := hok.n2
  have hpl : plOf (ofL b.places) = b.places := plOf_ofL hok.pa fun p hp => by have := hok.pi p hp; omega
  obtain ⟨u1, ho1⟩ : ∃ u1, opt b false 1 0 (ofL b.places) = some u1 := by
    cases e : opt b false 1 0 (ofL b.places) with
    | none => rw [(least_good hval).2, (optVE_none e).2] at hE; simp at hE
    | some u => exact ⟨u, rfl⟩
  obtain ⟨u, ho⟩ := opt_K_some hok hD ho1
  obtain ⟨c0, n0, r0, r1, r2, r3, r4⟩ := opt_shp hok hD ho
  have E1 := Lib.hid (show scriptA b = scriptF b 64 (ofL b.places) by unfold scriptA; rw [hval, ho1]; rfl)
  have HCO := Lib.hid (fun wx (hx : Bel w wx) => R6Costs_any b hval false 1000 1 (by omega) (small_m hok) _ wx (HV.out.bel hx))
  have HST0 := Lib.hid (fun wx (hx : Bel w wx) => R6Steps_any b false _ wx (HV.out.bel hx) (by have := hok.dl; omega) (by have := hok.sl; omega))
  have HSL := Lib.hid (show (stepsR b false).length ≤ 16 by have := stepsR_len (b := b) (looks := false); have := hok.dl; have := hok.sl; omega)
  have HSO := Lib.hid (fun s (hs : Dom b s) pv wx (h : IntsAt wx pv (plOf s)) => by
    have hin := plOf_in hok hs
    have q := R6Some_any pv (plOf s) wx h (plTo_asc _ 8) (fun p hp => by have := hin p hp; omega)
    rw [show ofL (plOf s) = s from ofL_plOf (Dom.lt256 hok hs)] at q
    exact q)
  have HPP := Lib.hid (fun wx (hx : Bel w wx) => show IntsAt wx (.slice pa b.places.length pc) (plOf (ofL b.places)) by rw [hpl]; exact HP.out.bel hx)
  have HWI := Lib.hid (fun ct (h : TabO b false 1000 1 ct) s (hs : Dom b s) j (hj : j < (stepsR b false).length) cv pv wx (hx : Bel w wx) (hi : IntsAt wx cv ct) (hp : IntsAt wx pv (plOf s)) => R6with_any b hval false 1000 1 (by omega) ct (h.cost hok way_m (small_m hok)) s hs (atS (stepsR b false) j) (getD_mem _ _ _ hj) _ cv pv wx (HV.out.bel hx) hi hp)
  have HMO := Lib.hid (fun s (hs : Dom b s) i (hi : i < b.doors.length) pv wx (hx : Bel w wx) (hp : IntsAt wx pv (plOf s)) => by
    have q := R6MoveOf_any b hval (plOf s) (plOf_in hok hs) i hi _ pv wx (HV.out.bel hx) hp
    rw [show ofL (plOf s) = s from ofL_plOf (Dom.lt256 hok hs)] at q
    exact q)
  have HS0 := Lib.hid (show Dom b (ofL b.places) ∧ opt b false 1048576 1 (ofL b.places) = some (c0 * 1048576 + n0) ∧ 0 ≤ n0 ∧ n0 ≤ 64 from ⟨hD, by rw [ho, r0], r1, by omega⟩)
  have HOK := Lib.hid hok
  obtain ⟨i1, hi1, hz1, hs1, hb1⟩ := info_parts mkStep
  have HI1 := Lib.hid hi1
  have HZ1 := Lib.hid hz1
  have HEE := Lib.hid hE
  rw [hE] at HBL
  clear hE hval hok hD hpl ho1 ho r0 r1 r2 r3 r4 HV HP hi1 hz1
  generalize ofL b.places = S at *
  generalize leastV b false = L at *
  go_enter Tryd.func48, Tryd.ntmps48
  go_wp2_with fail
  refine (HBL.out _ (by repeat (first | assumption | exact Bel.refl _ | refine Bel.drew ?_ | refine Bel.drewN ?_ _ | refine Bel.alloc ?_ _ | refine Bel.setCell ?_ (by simp <;> omega) _ | refine Bel.trans ?_ (by assumption)))).mono ?_
  rintro e w1 ⟨rfl, hb⟩
  have HB := Lib.hid (show Bel w w1 from Bel.trans (by repeat (first | assumption | exact Bel.refl _ | refine Bel.drew ?_ | refine Bel.drewN ?_ _ | refine Bel.alloc ?_ _ | refine Bel.setCell ?_ (by simp <;> omega) _ | refine Bel.trans ?_ (by assumption))) hb)
  have HY1 := Lib.hid (HBX.out _ hb)
  obtain ⟨y0, y1, y2, y3, y4, y5⟩ := HY1.out
  have ly := cell_lt y0
  clear hb
  go_wp2_with fail
  refine (HCO.out _ HB.out).mono ?_
  rintro e w2 ⟨V2, ct, rfl, hi, ht, hb⟩
  have HW2 := Lib.hid hb
  have HI2 := Lib.hid hi
  have HTC := Lib.hid ht
  obtain ⟨ca, cc, cb, coff, rfl, hca, _, hcc⟩ := hi
  have hixc := idxInts (c := cc) hca
  have HCC := Lib.hid hcc
  replace y0 := hb.cell y0
  replace y1 := hb.cell y1
  replace y2 := hb.cell y2
  replace y3 := hb.cell y3
  replace y4 := hb.cell y4
  replace y5 := hb.cell y5
  have ly := cell_lt y0
  clear hb hca hcc ht
  go_wp2_with fail
  refine (HST0.out _ (HB.out.trans HW2.out)).mono ?_
  rintro e w3 ⟨VS, rfl, hss⟩
  have hb := hss.bel
  have HB3 := Lib.hid (HB.out.trans (HW2.out.trans hb))
  have HY3 := Lib.hid (HY1.out.bel (HW2.out.trans hb))
  have HI3 := Lib.hid (HI2.out.bel hb)
  have HC3 := Lib.hid (fun k (hk : k < ct.length) => hb.cell (HCC.out k hk))
  obtain ⟨sa2, sc2, sb2, soff2, rfl, hsa2, _, hsc2⟩ := hss.read (by have := HSL.out; omega)
  have hixs := idxSteps (c := sc2) hsa2
  have HSC := Lib.hid hsc2
  have hll := HSL.out
  clear y0 y1 y2 y3 y4 y5 ly
  obtain ⟨y0, y1, y2, y3, y4, y5⟩ := HY3.out
  have ly := cell_lt y0
  clear hb hss hsa2 hsc2 HY1 HB HW2 HI2 HCC HBL HCO HST0 HBX
  go_wp2
  clear y0 y1 y2 y3 y4 y5 ly
  go_loopw [8, 9] (fun V pv wr => RScrI b S w3 V pv wr) (fun V _ _ => 100 - sliceN V)
  case atStart => exact ⟨[], S, c0, n0, HS0.out.1, HS0.out.2.1, HS0.out.2.2.1, by have := HS0.out.2.2.2; simp; omega, rfl, StepSt.start w3, (HPP.out _ HB3.out).off⟩
  case round =>
    obtain ⟨l, s, c, n, hd, ho, h1, h2, h3, hst, hpv⟩ := hrel
    have HST := Lib.hid hst
    have HPV := Lib.hid hpv
    have HBr := Lib.hid (HB3.out.trans hst.bel)
    have HSw := Lib.hid (fun wx (hx : Bel wr wx) => HSO.out s hd _ wx (hpv.bel hx).now)
    have hl64 : l.length ≤ 64 := by omega
    by_cases e1 : s = 1
    · subst e1
      have HL := Lib.hid (show l = scriptF b 64 S by rw [← h3, scr_done, List.append_nil])
      clear hd ho h1 h2 h3 hst hpv
      go_wp2_with fail
      refine (HSw.out _ (Bel.refl _)).mono ?_
      rintro e w5 ⟨rfl, hb⟩
      have HST5 := Lib.hid (HST.out.keep hb)
      clear hb
      go_wp2
      exact bodyPost_ret (v := .tuple #[u8, .int .i64 0]) (by simp [results, Tryd.results48, go_sem]) rfl ⟨_, rvL HEE.out, by rw [E1.out, ← HL.out]; exact HST5.out.read (by omega), HB3.out.trans HST5.out.bel⟩
    · obtain ⟨i0, g0, g1, g2, g3, g4, ⟨d', m', g5, g6, g7⟩, g8⟩ := script_at HOK.out HTC.out hd e1 ho h1 (by omega)
      have hsl : s < ct.length := by rw [HTC.out.1]; exact hd.2
      have HC0 := Lib.hid (HC3.out s hsl)
      have HWJ := Lib.hid g3
      have HWQ := Lib.hid g2
      have HG := Lib.hid (And.intro g4 (And.intro g5 (And.intro g6 (And.intro g7 (And.intro g8 (And.intro h2 h3))))))
      have HMw := Lib.hid (fun pv wx (hx : Bel w wx) (hp : IntsAt wx pv (plOf s)) => HMO.out s hd i0 g0 pv wx hx hp)
      have HWw := Lib.hid (fun j hj wx (hx : Bel wr wx) => HWI.out ct HTC.out s hd j hj _ _ wx (HBr.out.trans hx) (HI3.out.bel (hst.bel.trans hx)) (hpv.bel hx).now)
      have hs2 : (1 : Int) < (s : Int) := by have := hd.1; omega
      have hlv : sliceN u8 = l.length := by obtain ⟨a', c', e⟩ := hst.slice; rw [e]; rfl
      have hln : (l.length : Int) + 1 ≤ 64 := by omega
      clear hd ho h1 h2 h3 hpv g0 g2 g3 g4 g5 g6 g7 g8 hst
      go_wp2_with fail
      refine (HSw.out _ (Bel.refl _)).mono ?_
      rintro e w5 ⟨rfl, hb⟩
      have HK5 := Lib.hid hb
      clear hb
      go_wp2
      go_loopw [10] (fun i wi => ∃ k : Nat, k ≤ i0 ∧ i = .int .i64 k ∧ Bel w5 wi) (fun i _ => i0 - (intOf i).toNat)
      case atStart => exact ⟨0, by omega, rfl, Bel.refl _⟩
      case round =>
        obtain ⟨k, hk, rfl, hw⟩ := hrel
        have HWR := Lib.hid hw
        have hkl : k < (stepsR b false).length := by omega
        have HSB := Lib.hid (fun wx (hx : Bel wr wx) => HSw.out wx (HK5.out.trans (hw.trans hx)))
        have HWB := Lib.hid (fun wx (hx : Bel wr wx) => HWw.out k hkl wx (HK5.out.trans (hw.trans hx)))
        have HB5 := Lib.hid (HST.out.bel.trans (HK5.out.trans hw))
        obtain ⟨y0, y1, y2, y3, y4, y5⟩ := HY3.out.bel HB5.out
        have ly := cell_lt y0
        have s0 := HB5.out.cell (HSC.out k hkl).1
        have s1 := HB5.out.cell (HSC.out k hkl).2
        have ls := cell_lt s0
        have q0 := HB5.out.cell HC0.out
        have lq := cell_lt q0
        by_cases hlt : k < i0
        · have hne := HWJ.out k hlt
          clear hw
          generalize withR b ct s (atS (stepsR b false) k) 1000 1 = cw at *
          generalize at0 ct s = a0 at *
          have hb1' : (cw != a0) = true := by simpa using hne
          generalize hxk : (atS (stepsR b false) k).k = xk at *
          generalize hxx : (atS (stepsR b false) k).x = xx at *
          clear hne hxk hxx
          go_wp2
          refine wp_region_mixB (Plan.seq [0, 1, 2, 3, 4, 5, 6, 8, 9, 1007, 1010, 11, 12, 13] .nil) (by kernel_rfl) (by kernel_rfl) (fun hcur => ?_)
          simp only [Plan.seq, Plan.fill, List.getD_cons_zero, List.getD_cons_succ, Nat.reduceLT, ↓reduceIte, Nat.reduceSub]
          apply mix_pure _ rfl
          · intro w' hw'
            have hcr := hw'.cells
            go_simp
            rfl
          intro K hK
          go_simp
          refine hK _ ?_
          clear hK K
          apply mix_pure _ rfl
          · intro w' hw'
            have hcr := hw'.cells
            go_simp
            rfl
          intro K hK
          go_simp
          refine hK _ ?_
          clear hK K
          apply mix_pure _ rfl
          · intro w' hw'
            have hcr := hw'.cells
            go_simp
            rfl
          intro K hK
          go_simp
          refine hK _ ?_
          clear hK K
          apply mix_pure _ rfl
          · intro w' hw'
            have hcr := hw'.cells
            go_simp
            rfl
          intro K hK
          go_simp
          refine hK _ ?_
          clear hK K
          apply mix_pure _ rfl
          · intro w' hw'
            have hcr := hw'.cells
            go_simp
            rfl
          intro K hK
          go_simp
          refine hK _ ?_
          clear hK K
          apply mix_pure _ rfl
          · intro w' hw'
            have hcr := hw'.cells
            go_simp
            rfl
          intro K hK
          go_simp
          refine hK _ ?_
          clear hK K
          apply mix_pure _ rfl
          · intro w' hw'
            have hcr := hw'.cells
            go_simp
            rfl
          intro K hK
          go_simp
          refine hK _ ?_
          clear hK K
          apply mix_pure _ rfl
          · intro w' hw'
            have hcr := hw'.cells
            go_simp
            rfl
          intro K hK
          go_simp
          refine hK _ ?_
          clear hK K
          apply mix_pure _ rfl
          · intro w' hw'
            have hcr := hw'.cells
            go_simp
            rfl
          intro K hK
          go_simp
          refine hK _ ?_
          clear hK K
          refine mix_act rfl (fun K hK => ?_)
          go_simp
          refine (HWB.out _ hcur).mono ?_
          rintro e w7 ⟨rfl, hb⟩
          simp only []
          refine hK _ _ (hcur.trans hb) (fun hcur => ?_)
          clear hK K hb
          refine mix_act rfl (fun K hK => ?_)
          go_simp
          refine (HSB.out _ hcur).mono ?_
          rintro e w8 ⟨rfl, hb⟩
          simp only []
          refine hK _ _ (hcur.trans hb) (fun hcur => ?_)
          clear hK K hb
          apply mix_pure _ rfl
          · intro w' hw'
            have hcr := hw'.cells
            go_simp
            rfl
          intro K hK
          go_simp
          refine hK _ ?_
          clear hK K
          apply mix_pure _ rfl
          · intro w' hw'
            have hcr := hw'.cells
            go_simp
            rfl
          intro K hK
          go_simp
          refine hK _ ?_
          clear hK K
          apply mix_pure _ rfl
          · intro w' hw'
            have hcr := hw'.cells
            go_simp
            rfl
          intro K hK
          go_simp
          refine hK _ ?_
          clear hK K
          refine mix_nil ?_
          have HF := Lib.hid (HWR.out.trans hcur)
          clear hcur y0 y1 y2 y3 y4 y5 ly s0 s1 ls q0 lq
          go_wp2
          go_roundw
          case rel => exact ⟨k + 1, by omega, by go_num, HF.out⟩
          case measure => simp [intOf]; omega
        · obtain rfl : k = i0 := by omega
          have hne := HWQ.out
          obtain ⟨hat, hdl⟩ := stepsR_door hkl
          clear hw
          generalize withR b ct s (atS (stepsR b false) k) 1000 1 = cw at *
          generalize at0 ct s = a0 at *
          have hb1' : (cw != a0) = false := by simpa using hne
          rw [hat] at s0 s1 HWB
          simp only [] at s0 s1 HWB
          clear hne hat
          go_wp2
          refine wp_region_mixB (Plan.seq [0, 1, 2, 3, 4, 5, 6, 8, 9, 1007, 1010, 11, 12, 13] .nil) (by kernel_rfl) (by kernel_rfl) (fun hcur => ?_)
          simp only [Plan.seq, Plan.fill, List.getD_cons_zero, List.getD_cons_succ, Nat.reduceLT, ↓reduceIte, Nat.reduceSub]
          apply mix_pure _ rfl
          · intro w' hw'
            have hcr := hw'.cells
            go_simp
            rfl
          intro K hK
          go_simp
          refine hK _ ?_
          clear hK K
          apply mix_pure _ rfl
          · intro w' hw'
            have hcr := hw'.cells
            go_simp
            rfl
          intro K hK
          go_simp
          refine hK _ ?_
          clear hK K
          apply mix_pure _ rfl
          · intro w' hw'
            have hcr := hw'.cells
            go_simp
            rfl
          intro K hK
          go_simp
          refine hK _ ?_
          clear hK K
          apply mix_pure _ rfl
          · intro w' hw'
            have hcr := hw'.cells
            go_simp
            rfl
          intro K hK
          go_simp
          refine hK _ ?_
          clear hK K
          apply mix_pure _ rfl
          · intro w' hw'
            have hcr := hw'.cells
            go_simp
            rfl
          intro K hK
          go_simp
          refine hK _ ?_
          clear hK K
          apply mix_pure _ rfl
          · intro w' hw'
            have hcr := hw'.cells
            go_simp
            rfl
          intro K hK
          go_simp
          refine hK _ ?_
          clear hK K
          apply mix_pure _ rfl
          · intro w' hw'
            have hcr := hw'.cells
            go_simp
            rfl
          intro K hK
          go_simp
          refine hK _ ?_
          clear hK K
          apply mix_pure _ rfl
          · intro w' hw'
            have hcr := hw'.cells
            go_simp
            rfl
          intro K hK
          go_simp
          refine hK _ ?_
          clear hK K
          apply mix_pure _ rfl
          · intro w' hw'
            have hcr := hw'.cells
            go_simp
            rfl
          intro K hK
          go_simp
          refine hK _ ?_
          clear hK K
          refine mix_act rfl (fun K hK => ?_)
          go_simp
          refine (HWB.out _ hcur).mono ?_
          rintro e w7 ⟨rfl, hb⟩
          simp only []
          refine hK _ _ (hcur.trans hb) (fun hcur => ?_)
          clear hK K hb
          refine mix_act rfl (fun K hK => ?_)
          go_simp
          refine (HSB.out _ hcur).mono ?_
          rintro e w8 ⟨rfl, hb⟩
          simp only []
          refine hK _ _ (hcur.trans hb) (fun hcur => ?_)
          clear hK K hb
          apply mix_pure _ rfl
          · intro w' hw'
            have hcr := hw'.cells
            go_simp
            rfl
          intro K hK
          go_simp
          refine hK _ ?_
          clear hK K
          apply mix_pure _ rfl
          · intro w' hw'
            have hcr := hw'.cells
            go_simp
            rfl
          intro K hK
          go_simp
          refine hK _ ?_
          clear hK K
          apply mix_pure _ rfl
          · intro w' hw'
            have hcr := hw'.cells
            go_simp
            rfl
          intro K hK
          go_simp
          refine hK _ ?_
          clear hK K
          refine mix_nil ?_
          have HKK := Lib.hid (HK5.out.trans (HWR.out.trans hcur))
          replace s0 := hcur.cell s0
          replace s1 := hcur.cell s1
          have ls := cell_lt s0
          clear hcur y0 y1 y2 y3 y4 y5 ly q0 lq
          go_wp2_with (at_builtin
                       refine wpList_append_where rfl _ _ 29 rfl 50 i1 (.agg #[.int .i64 0, .int .i64 0]) 2 16 Tryd.underlying29 HI1.out HZ1.out hs1 hb1 rfl (by decide) _ l.length (stepCells l) rfl (ownsRow_bel HST.out.own (HKK.out.trans ((Bel.refl w8).alloc _))) ⟨w8.heap.size, 0, none⟩ 1 1 [.int .i64 1, .int .i64 (k : Int)] rfl rfl (fun j u hu => by rw [addr_off, Nat.zero_add, (row_facts (new_row rfl)).1]; simpa using hu) (fun y hy => by simp at hy; rcases hy with rfl | rfl <;> rfl) (by unfold maxLen; omega) (by omega) ?_
                       intro V' w9 hown hgrow hwhere
                       have hst9 := ((HST.out.keep (HKK.out.trans ((Bel.refl w8).alloc _))).next (x := ⟨1, (k : Int)⟩) hown hgrow hwhere)
                       have HST9 := Lib.hid hst9
                       have HPV9 := Lib.hid ((HPV.out.bel (HKK.out.trans ((Bel.refl w8).alloc _))).grown hgrow hwhere)
                       obtain ⟨y0, y1, y2, y3, y4, y5⟩ := HY3.out.bel hst9.bel
                       have ly := cell_lt y0
                       have HB9 := Lib.hid (HB3.out.trans hst9.bel)
                       clear hown hgrow hwhere hst9)
          refine (HMw.out _ _ HB9.out HPV9.out.now).mono ?_
          rintro e w10 ⟨VM, rfl, hm⟩
          have HM := Lib.hid hm
          have HN := Lib.hid (NewIn.own (n := w9.heap.size) (by have := plOf_len (mvB (atD b.doors k) s); omega) hm.own hm.far)
          have hfar : ∀ g, V'.ownBlock = some g → g < w9.heap.size := fun g e => own_lt HST9.out.own e
          have HFAR := Lib.hid hfar
          have hlv' : sliceN V' = l.length + 1 := by obtain ⟨a', c', e⟩ := HST9.out.slice; rw [e]; simp [sliceN]
          clear hfar hm y0 y1 y2 y3 y4 y5 ly
          go_wp2
          go_roundw
          case rel =>
            obtain ⟨g4, g5, g6, g7, g8, g9, g10⟩ := HG.out
            exact ⟨l ++ [⟨1, (k : Int)⟩], mvB (atD b.doors k) s, d', m', g4, g5, g6, by simp; omega, by rw [← g10, g8]; simp, HST9.out.keep HM.out.bel, HN.out.off HFAR.out⟩
          case measure => rw [hlv, hlv']; omega
end Go.Proofs.YtogiidkofddhaaaDoor
namespace Go.Proofs.YtogiidkofddhaaaDoor
open Go Go.RowKit Go.Shelf
set_option maxHeartbeats 8000000
set_option maxRecDepth 100000
theorem freeB_ok {b : BT} (hb : Okb b) {i : Nat} (hi : i < b.doors.length) : Okb (freeB b i) := costB_ok hb hi (c := 0) (by omega) (by omega)
theorem six_cells {W : World} {p : Nat} {v0 v1 v2 v3 v4 v5 u0 u1 u2 u3 u4 u5 : Value}
    (z0 : W.cell? ⟨p, 0, none⟩ = some u0) (z1 : W.cell? ⟨p, 1, none⟩ = some u1) (z2 : W.cell? ⟨p, 2, none⟩ = some u2) (z3 : W.cell? ⟨p, 3, none⟩ = some u3) (z4 : W.cell? ⟨p, 4, none⟩ = some u4) (z5 : W.cell? ⟨p, 5, none⟩ = some u5)
    {WS : World} (h : (((((W.setCell ⟨p, 0, none⟩ v0).setCell ⟨p, 1, none⟩ v1).setCell ⟨p, 2, none⟩ v2).setCell ⟨p, 3, none⟩ v3).setCell ⟨p, 4, none⟩ v4).setCell ⟨p, 5, none⟩ v5 = WS) :
    (∀ a, Bel a W → a.heap.size ≤ p → Bel a WS) ∧ (∀ k, k ≠ p → WS.heap[k]? = W.heap[k]?) ∧
      WS.cell? ⟨p, 0, none⟩ = some v0 ∧ WS.cell? ⟨p, 1, none⟩ = some v1 ∧ WS.cell? ⟨p, 2, none⟩ = some v2 ∧ WS.cell? ⟨p, 3, none⟩ = some v3 ∧ WS.cell? ⟨p, 4, none⟩ = some v4 ∧ WS.cell? ⟨p, 5, none⟩ = some v5 := by
  subst h
  have so : ∀ {X : World} {i j : Nat} {v u : Value}, X.cell? ⟨p, i, none⟩ = some u → i ≠ j → (X.setCell ⟨p, j, none⟩ v).cell? ⟨p, i, none⟩ = some u := fun {X i j v u} hx hne => by
    rw [World.cell?_setCell_other _ _ _ _ (by intro e; injection e with _ e; exact hne e.symm)]; exact hx
  refine ⟨fun a ha hp => (((((ha.setCell hp _).setCell hp _).setCell hp _).setCell hp _).setCell hp _).setCell hp _, fun k hk => ?_, ?_, ?_, ?_, ?_, ?_, ?_⟩
  · rw [Below.heap_setCell _ _ _ _ hk, Below.heap_setCell _ _ _ _ hk, Below.heap_setCell _ _ _ _ hk, Below.heap_setCell _ _ _ _ hk, Below.heap_setCell _ _ _ _ hk, Below.heap_setCell _ _ _ _ hk]
  · exact so (so (so (so (so (World.cell?_setCell_same _ _ _ z0) (by omega)) (by omega)) (by omega)) (by omega)) (by omega)
  · exact so (so (so (so (World.cell?_setCell_same _ _ _ (so z1 (by omega))) (by omega)) (by omega)) (by omega)) (by omega)
  · exact so (so (so (World.cell?_setCell_same _ _ _ (so (so z2 (by omega)) (by omega))) (by omega)) (by omega)) (by omega)
  · exact so (so (World.cell?_setCell_same _ _ _ (so (so (so z3 (by omega)) (by omega)) (by omega))) (by omega)) (by omega)
  · exact so (World.cell?_setCell_same _ _ _ (so (so (so (so z4 (by omega)) (by omega)) (by omega)) (by omega))) (by omega)
  · exact World.cell?_setCell_same _ _ _ (so (so (so (so (so z5 (by omega)) (by omega)) (by omega)) (by omega)) (by omega))
theorem DSt.other {w W W' : World} {b : BT} {l : List BD} {ob gd cd gs cs gp cp p : Nat} {lk et : Int} (h : DSt w b l ob gd cd gs cs gp cp lk et W) (hk : ∀ k, k ≠ p → W'.heap[k]? = W.heap[k]?) (hp : p < w.heap.size)
    (h1 : b.doors.length ≤ 1000) (h2 : b.seen.length ≤ 1000) (h3 : b.places.length ≤ 1000) :
    BTrapAt W' (.agg #[.int .i64 b.n, .slice (some ⟨gd, 0, none⟩) b.doors.length cd, .slice (some ⟨gs, 0, none⟩) b.seen.length cs, .int .i64 lk, .int .i64 et, .slice (some ⟨gp, 0, none⟩) b.places.length cp]) { b with doors := l, look := lk, eats := et } := by
  have q0 := h.hgd
  have q1 := h.hgs
  have q2 := h.hgp
  have hl := h.len
  have hcap := h.cap
  have hc : ∀ {o : Nat} {u : Value}, W.cell? ⟨gd, o, none⟩ = some u → W'.cell? ⟨gd, o, none⟩ = some u := fun {o u} hx => (World.cell?_of_block (hk gd (by omega))).trans hx
  refine ⟨_, _, _, rfl, ?_, ownInts (l := b.seen) (by omega) (own_keep h.os fun g hg => by injection hg with hg; subst hg; exact hk gs (by omega)), ownInts (l := b.places) (by omega) (own_keep h.op fun g hg => by injection hg with hg; subst hg; exact hk gp (by omega))⟩
  exact ⟨_, cd, gd, 0, by rw [← hl], fun _ => rfl, ⟨by show l.length ≤ _; omega, by show l.length ≤ _; omega⟩, fun i hi => by
    obtain ⟨e1, e2, e3⟩ := h.d i hi
    rw [Nat.zero_add]
    exact ⟨hc e1, hc e2, hc e3⟩⟩
theorem R6Freed_any (b : BT) (k : Nat) (hk : k < b.doors.length) (v : Value) (w : World) (hv : BTrapAt w v b) (h1 : b.doors.length ≤ 1000) (h2 : b.seen.length ≤ 1000) (h3 : b.places.length ≤ 1000) :
    Calls Tryd.prog 94 #[v, .int .i64 k] w fun e w' => ∃ V, e = .returned V ∧ BTrapAt w' V (freeB b k) ∧ Bel w w' := by
  have HC := Lib.hid (fun wx (hx : Bel w wx) => bCopy_any b v wx (hv.bel hx) h1 h2 h3)
  obtain ⟨da, dc, sa, sc, pa, pc, rfl, _, _, _⟩ := hv.open
  have hki : (k : Int) < (b.doors.length : Int) := by omega
  clear hv
  go_enter Tryd.func94, Tryd.ntmps94
  go_wp2_with fail
  refine (HC.out _ (by repeat (first | assumption | exact Bel.refl _ | refine Bel.drew ?_ | refine Bel.drewN ?_ _ | refine Bel.alloc ?_ _ | refine Bel.setCell ?_ (by simp <;> omega) _ | refine Bel.trans ?_ (by assumption)))).mono ?_
  rintro e w1 ⟨gd, cd, gs, cs, gp, cp, rfl, hown⟩
  have hb := hown.bel
  have HB := Lib.hid (show Bel w w1 from Bel.trans (by repeat (first | assumption | exact Bel.refl _ | refine Bel.drew ?_ | refine Bel.drewN ?_ _ | refine Bel.alloc ?_ _ | refine Bel.setCell ?_ (by simp <;> omega) _ | refine Bel.trans ?_ (by assumption))) hb)
  have zr : ∀ (o1 : Obj) (cs : Array Value) (T : TypeId), ((w.alloc o1).alloc (.cells cs T)).heap[w.heap.size + 1]? = some (.cells cs T (0, 0)) := fun o1 cs T => new_row (by simp)
  have HZ := Lib.hid (row_facts (zr (.cells #[.int .i64 b.n, .slice da b.doors.length dc, .slice sa b.seen.length sc, .int .i64 b.look, .int .i64 b.eats, .slice pa b.places.length pc] 25) #[.int .i64 0, .slice none 0 0, .slice none 0 0, .int .i64 0, .int .i64 0, .slice none 0 0] 25))
  have HZZ := Lib.hid (And.intro (hb.cell (HZ.out.1 0)) (And.intro (hb.cell (HZ.out.1 1)) (And.intro (hb.cell (HZ.out.1 2)) (And.intro (hb.cell (HZ.out.1 3)) (And.intro (hb.cell (HZ.out.1 4)) (hb.cell (HZ.out.1 5)))))))
  have HFZ := Lib.hid (show ∀ o, w1.frozen? ⟨w.heap.size + 1, o, none⟩ = false from fun o => (hb.frozens _ (by simp)).trans (HZ.out.2 o))
  have HSZ := Lib.hid (show w.heap.size + 2 ≤ gd by have := hown.hgd; simpa using this)
  have HD0 := Lib.hid (DSt.first (T1 := 25) (O2 := .cells #[.int .i64 (atD b.doors k).a, .int .i64 (atD b.doors k).b, .int .i64 0] 43) rfl rfl hown hk ⟨(atD b.doors k).a, (atD b.doors k).b, 0⟩)
  have lgd : gd < w1.heap.size := own_lt hown.od rfl
  obtain ⟨own1, own2, own3⟩ := own_doors hown.od
  obtain ⟨e0, e1, e2⟩ := own1 k hk
  have hixg := idxDoors (n := b.doors.length) (c := cd) (b := gd) (off := 0) (fun _ => rfl)
  clear own1 hown hb zr HZ
  unfold trapAgg
  go_upto_region 5 with fail
  generalize hW : World.alloc (World.alloc (World.setCell _ _ _) _) _ = W8
  have HD8 := Lib.hid (show DSt _ b (b.doors.set k ⟨(atD b.doors k).a, (atD b.doors k).b, 0⟩) w1.heap.size gd cd gs cs gp cp b.look b.eats W8 by rw [← hW]; exact HD0.out)
  have hzc : ∀ {o : Nat} {u : Value}, w1.cell? ⟨w.heap.size + 1, o, none⟩ = some u → W8.cell? ⟨w.heap.size + 1, o, none⟩ = some u := fun {o u} hx => by
    have := HSZ.out
    rw [← hW]
    refine ((Bel.refl _).alloc _).cell (((Bel.refl _).alloc _).cell ?_)
    rw [World.cell?_setCell_other _ _ _ _ (by intro e; injection e with e _; omega), World.cell?_setCell_other _ _ _ _ (by intro e; injection e with e _; omega), World.cell?_setCell_other _ _ _ _ (by intro e; injection e with e _; omega)]
    exact hx
  have hzf : ∀ o, W8.frozen? ⟨w.heap.size + 1, o, none⟩ = false := fun o => by
    have := HSZ.out
    rw [← hW]
    have hlt : w.heap.size + 1 < w1.heap.size := by omega
    rw [((Bel.refl _).alloc _).frozens _ (by simp; omega), ((Bel.refl _).alloc _).frozens _ (by simp; omega), World.frozen?_setCell, World.frozen?_setCell, World.frozen?_setCell]
    exact HFZ.out o
  obtain ⟨x0, x1, x2, x3, x4, x5⟩ := HZZ.out
  have z0 := hzc x0
  have z1 := hzc x1
  have z2 := hzc x2
  have z3 := hzc x3
  have z4 := hzc x4
  have z5 := hzc x5
  have lz := cell_lt z0
  have HBW := Lib.hid (show Bel w W8 from Bel.trans (((Bel.refl _).alloc _).alloc _) HD8.out.bel)
  have o0 := HD8.out.c0
  have o1 := HD8.out.c1
  have o2 := HD8.out.c2
  have o3 := HD8.out.c3
  have o4 := HD8.out.c4
  have o5 := HD8.out.c5
  have lo := HD8.out.lt
  clear hW HD0 e0 e1 e2 own2 own3 lgd hzc x0 x1 x2 x3 x4 x5 HZZ HFZ hixg
  go_wp2
  generalize hS : World.setCell (World.setCell (World.setCell (World.setCell (World.setCell (World.setCell _ _ _) _ _) _ _) _ _) _ _) _ _ = WS
  obtain ⟨s1, s2, c0, c1, c2, c3, c4, c5⟩ := six_cells z0 z1 z2 z3 z4 z5 hS
  have HT := Lib.hid (HD8.out.other (W' := WS) (p := w.heap.size + 1) s2 (by simp) h1 h2 h3)
  have HBS := Lib.hid (s1 w HBW.out (by omega))
  clear hS s1 s2 z0 z1 z2 z3 z4 z5 o0 o1 o2 o3 o4 o5
  exact bodyPost_ret (v := .agg #[.int .i64 b.n, .slice (some ⟨gd, 0, none⟩) b.doors.length cd, .slice (some ⟨gs, 0, none⟩) b.seen.length cs, .int .i64 b.look, .int .i64 b.eats, .slice (some ⟨gp, 0, none⟩) b.places.length cp]) (by simp [results, Tryd.results94, go_sem, *]) rfl ⟨_, rfl, HT.out, HBS.out⟩
theorem R6Free_any (b : BT) (v : Value) (d : Int) (w : World) (hv : BTrapAt w v b) :
    Calls Tryd.prog 50 #[v, .int .i64 d] w fun e w' => e = .returned (.tuple #[.int .i64 (freeV b d), .int .i64 (freeE b d)]) ∧ Bel w w' := by
  have HAS := Lib.hid (fun is wx (hx : Bel w wx) => R6ask_any b is v wx (hv.bel hx))
  have HID := Lib.hid (fun wx (hx : Bel w wx) => R6IsDoor_any b d v wx (hv.bel hx))
  have HV := Lib.hid hv
  have HAE := Lib.hid (show askT b (isDoorB b d) = if validT b then (if isDoorB b d then 0 else 1) else 60 from rfl)
  have HFE := Lib.hid (show freeE b d = if validT b then (if isDoorB b d then leastE b true else 1) else 60 from rfl)
  have HFV := Lib.hid (show freeV b d = if validT b then (if isDoorB b d then (if (opt b true 1 0 (ofL b.places)).isSome then leastV b true - leastV (freeB b d.toNat) true else 0) else 0) else 0 from rfl)
  obtain ⟨da, dc, sa, sc, pa, pc, rfl, _, _, _⟩ := hv.open
  have HBX := Lib.hid (fun wx hx => (BoxB.new (w := w) (b := b) (dv := .slice da b.doors.length dc) (sv := .slice sa b.seen.length sc) (pv := .slice pa b.places.length pc) (T := 25)).bel (w' := wx) hx)
  clear hv
  have hcase : (∃ er, er ≠ 0 ∧ askT b (isDoorB b d) = er ∧ freeE b d = er ∧ freeV b d = 0) ∨ (validT b = true ∧ isDoorB b d = true) := by
    rw [HAE.out, HFE.out, HFV.out]
    cases h1 : validT b
    · exact .inl ⟨60, by omega, rfl, rfl, rfl⟩
    · cases h2 : isDoorB b d
      · exact .inl ⟨1, by omega, rfl, rfl, rfl⟩
      · exact .inr ⟨rfl, rfl⟩
  rcases hcase with ⟨er, h0, h1, h2, h3⟩ | ⟨hval, his⟩
  · have HE := Lib.hid h2
    have HVV := Lib.hid h3
    have hb1 : (er != 0) = true := by simpa using h0
    have HAS1 := Lib.hid (HAS.out (isDoorB b d))
    rw [h1] at HAS1
    clear h0 h1 h2 h3 HAE HFE HFV HAS HV
    go_enter Tryd.func50, Tryd.ntmps50
    go_wp2
    generalize hW0 : World.alloc _ _ = W0
    have HB := Lib.hid (show Bel w W0 by rw [← hW0]; exact (Bel.refl w).alloc _)
    obtain ⟨y0, y1, y2, y3, y4, y5⟩ := HBX.out W0 (by rw [← hW0]; exact Bel.refl _)
    have ly := cell_lt y0
    clear hW0 HBX
    refine wp_region_mixB (Plan.seq [0, 1, 2, 1003, 1004, 5] .nil) (by kernel_rfl) (by kernel_rfl) (fun hcur => ?_)
    simp only [Plan.seq, Plan.fill, List.getD_cons_zero, List.getD_cons_succ, Nat.reduceLT, ↓reduceIte, Nat.reduceSub]
    apply mix_pure _ rfl
    · intro w' hw'
      have hcr := hw'.cells
      go_simp
      rfl
    intro K hK
    go_simp
    refine hK _ ?_
    clear hK K
    apply mix_pure _ rfl
    · intro w' hw'
      have hcr := hw'.cells
      go_simp
      rfl
    intro K hK
    go_simp
    refine hK _ ?_
    clear hK K
    apply mix_pure _ rfl
    · intro w' hw'
      have hcr := hw'.cells
      go_simp
      rfl
    intro K hK
    go_simp
    refine hK _ ?_
    clear hK K
    refine mix_act rfl (fun K hK => ?_)
    go_simp
    refine (HID.out _ (HB.out.trans hcur)).mono ?_
    rintro e w4 ⟨rfl, hb⟩
    simp only []
    refine hK _ _ (hcur.trans hb) (fun hcur => ?_)
    clear hK K hb
    refine mix_act rfl (fun K hK => ?_)
    go_simp
    refine (HAS1.out _ (HB.out.trans hcur)).mono ?_
    rintro e w5 ⟨rfl, hb⟩
    simp only []
    refine hK _ _ (hcur.trans hb) (fun hcur => ?_)
    clear hK K hb
    apply mix_pure _ rfl
    · intro w' hw'
      have hcr := hw'.cells
      go_simp
      rfl
    intro K hK
    go_simp
    refine hK _ ?_
    clear hK K
    refine mix_nil ?_
    have HF := Lib.hid (HB.out.trans hcur)
    clear hcur y0 y1 y2 y3 y4 y5 ly
    go_wp2
    exact bodyPost_ret (v := .tuple #[.int .i64 0, .int .i64 er]) (by simp [results, Tryd.results50, go_sem, *]) rfl ⟨rvI HVV.out HE.out, HF.out⟩
  have hok := okb_iff.1 hval
  obtain ⟨g1, g2⟩ := withinB_true.1 (show withinB d 0 ((b.doors.length : Int) - 1) = true from his)
  obtain ⟨k, rfl⟩ : ∃ k : Nat, d = k := ⟨d.toNat, by omega⟩
  have hk : k < b.doors.length := by omega
  have hvf : validT (freeB b k) = true := okb_iff.2 (freeB_ok hok hk)
  have HFR := Lib.hid (fun wx (hx : Bel w wx) => R6Freed_any b k hk _ wx (HV.out.bel hx) (by have := hok.dl; omega) (by have := hok.sl; omega) (by have := hok.pl; omega))
  have HLE := Lib.hid (fun wx (hx : Bel w wx) => (R6least_any b hval true _ wx (HV.out.bel hx)).mono (R' := fun e w' => e = .returned (.tuple #[.int .i64 (leastV b true), .int .i64 (leastE b true)]) ∧ Bel wx w') fun e w' q => by rw [(least_good hval).1, (least_good hval).2]; exact q)
  have HLF := Lib.hid (fun V wx (h : BTrapAt wx V (freeB b k)) => (R6least_any (freeB b k) hvf true V wx h).mono (R' := fun e w' => e = .returned (.tuple #[.int .i64 (leastV (freeB b k) true), .int .i64 (leastE (freeB b k) true)]) ∧ Bel wx w') fun e w' q => by rw [(least_good hvf).1, (least_good hvf).2]; exact q)
  have HAS1 := Lib.hid (HAS.out true)
  rw [show askT b true = 0 by unfold askT; rw [hval]; rfl] at HAS1
  have hE : freeE b k = leastE b true := by rw [HFE.out, hval, his]; rfl
  have hV : (leastE b true ≠ 0 ∧ freeV b k = 0) ∨ (leastE b true = 0 ∧ freeV b k = leastV b true - leastV (freeB b k) true) := by
    rw [HFV.out, hval, his, Int.toNat_natCast]
    cases ho : opt b true 1 0 (ofL b.places) with
    | none => exact .inl ⟨by rw [(least_good hval).2, (optVE_none ho).2]; omega, rfl⟩
    | some u => exact .inr ⟨by rw [(least_good hval).2, (optVE_some ho).2], rfl⟩
  have hm := leastV_in (b := b) (looks := true)
  have hn := leastV_in (b := freeB b k) (looks := true)
  rw [his] at HID
  have HE := Lib.hid hE
  have HVC := Lib.hid hV
  clear HAE HFE HFV HAS HV hval his g1 g2 hvf hE hV hok
  generalize leastV b true = m at *
  generalize leastE b true = er at *
  generalize leastV (freeB b k) true = n at *
  generalize leastE (freeB b k) true = ne' at *
  have hw1 : IntKind.i64.wrap (m - n) = m - n := IntWalk.i64_in _ (by omega)
  rcases HVC.out with ⟨c1, c2⟩ | ⟨c1, c2⟩
  · have hb1 : (er != 0) = true := by simpa using c1
    have HVV := Lib.hid c2
    clear c1 c2 HVC HFR HLF
    go_enter Tryd.func50, Tryd.ntmps50
    go_wp2
    generalize hW0 : World.alloc _ _ = W0
    have HB := Lib.hid (show Bel w W0 by rw [← hW0]; exact (Bel.refl w).alloc _)
    have HY := Lib.hid (HBX.out W0 (by rw [← hW0]; exact Bel.refl _))
    obtain ⟨y0, y1, y2, y3, y4, y5⟩ := HY.out
    have ly := cell_lt y0
    clear hW0 HBX
    refine wp_region_mixB (Plan.seq [0, 1, 2, 1003, 1004, 5] .nil) (by kernel_rfl) (by kernel_rfl) (fun hcur => ?_)
    simp only [Plan.seq, Plan.fill, List.getD_cons_zero, List.getD_cons_succ, Nat.reduceLT, ↓reduceIte, Nat.reduceSub]
    apply mix_pure _ rfl
    · intro w' hw'
      have hcr := hw'.cells
      go_simp
      rfl
    intro K hK
    go_simp
    refine hK _ ?_
    clear hK K
    apply mix_pure _ rfl
    · intro w' hw'
      have hcr := hw'.cells
      go_simp
      rfl
    intro K hK
    go_simp
    refine hK _ ?_
    clear hK K
    apply mix_pure _ rfl
    · intro w' hw'
      have hcr := hw'.cells
      go_simp
      rfl
    intro K hK
    go_simp
    refine hK _ ?_
    clear hK K
    refine mix_act rfl (fun K hK => ?_)
    go_simp
    refine (HID.out _ (HB.out.trans hcur)).mono ?_
    rintro e w4 ⟨rfl, hb⟩
    simp only []
    refine hK _ _ (hcur.trans hb) (fun hcur => ?_)
    clear hK K hb
    refine mix_act rfl (fun K hK => ?_)
    go_simp
    refine (HAS1.out _ (HB.out.trans hcur)).mono ?_
    rintro e w5 ⟨rfl, hb⟩
    simp only []
    refine hK _ _ (hcur.trans hb) (fun hcur => ?_)
    clear hK K hb
    apply mix_pure _ rfl
    · intro w' hw'
      have hcr := hw'.cells
      go_simp
      rfl
    intro K hK
    go_simp
    refine hK _ ?_
    clear hK K
    refine mix_nil ?_
    have HF := Lib.hid (HB.out.trans hcur)
    clear y0 y1 y2 y3 y4 y5 ly
    obtain ⟨y0, y1, y2, y3, y4, y5⟩ := HY.out.bel hcur
    have ly := cell_lt y0
    clear hcur HY
    go_wp2_with fail
    refine (HLE.out _ HF.out).mono ?_
    rintro e w6 ⟨rfl, hb⟩
    have HB6 := Lib.hid (HF.out.trans hb)
    clear hb y0 y1 y2 y3 y4 y5 ly
    go_wp2
    exact bodyPost_ret (v := .tuple #[.int .i64 0, .int .i64 er]) (by simp [results, Tryd.results50, go_sem]) rfl ⟨rvI HVV.out HE.out, HB6.out⟩
  · subst c1
    have HVV := Lib.hid c2
    clear c2 HVC
    go_enter Tryd.func50, Tryd.ntmps50
    go_wp2
    generalize hW0 : World.alloc _ _ = W0
    have HB := Lib.hid (show Bel w W0 by rw [← hW0]; exact (Bel.refl w).alloc _)
    have HY := Lib.hid (HBX.out W0 (by rw [← hW0]; exact Bel.refl _))
    obtain ⟨y0, y1, y2, y3, y4, y5⟩ := HY.out
    have ly := cell_lt y0
    clear hW0 HBX
    refine wp_region_mixB (Plan.seq [0, 1, 2, 1003, 1004, 5] .nil) (by kernel_rfl) (by kernel_rfl) (fun hcur => ?_)
    simp only [Plan.seq, Plan.fill, List.getD_cons_zero, List.getD_cons_succ, Nat.reduceLT, ↓reduceIte, Nat.reduceSub]
    apply mix_pure _ rfl
    · intro w' hw'
      have hcr := hw'.cells
      go_simp
      rfl
    intro K hK
    go_simp
    refine hK _ ?_
    clear hK K
    apply mix_pure _ rfl
    · intro w' hw'
      have hcr := hw'.cells
      go_simp
      rfl
    intro K hK
    go_simp
    refine hK _ ?_
    clear hK K
    apply mix_pure _ rfl
    · intro w' hw'
      have hcr := hw'.cells
      go_simp
      rfl
    intro K hK
    go_simp
    refine hK _ ?_
    clear hK K
    refine mix_act rfl (fun K hK => ?_)
    go_simp
    refine (HID.out _ (HB.out.trans hcur)).mono ?_
    rintro e w4 ⟨rfl, hb⟩
    simp only []
    refine hK _ _ (hcur.trans hb) (fun hcur => ?_)
    clear hK K hb
    refine mix_act rfl (fun K hK => ?_)
    go_simp
    refine (HAS1.out _ (HB.out.trans hcur)).mono ?_
    rintro e w5 ⟨rfl, hb⟩
    simp only []
    refine hK _ _ (hcur.trans hb) (fun hcur => ?_)
    clear hK K hb
    apply mix_pure _ rfl
    · intro w' hw'
      have hcr := hw'.cells
      go_simp
      rfl
    intro K hK
    go_simp
    refine hK _ ?_
    clear hK K
    refine mix_nil ?_
    have HF := Lib.hid (HB.out.trans hcur)
    replace HY := Lib.hid (HY.out.bel hcur)
    clear y0 y1 y2 y3 y4 y5 ly
    obtain ⟨y0, y1, y2, y3, y4, y5⟩ := HY.out
    have ly := cell_lt y0
    clear hcur
    go_wp2_with fail
    refine (HLE.out _ HF.out).mono ?_
    rintro e w6 ⟨rfl, hb⟩
    have HB6 := Lib.hid (HF.out.trans hb)
    replace HY := Lib.hid (HY.out.bel hb)
    clear hb y0 y1 y2 y3 y4 y5 ly
    obtain ⟨y0, y1, y2, y3, y4, y5⟩ := HY.out
    have ly := cell_lt y0
    go_wp2_with fail
    refine (HFR.out _ HB6.out).mono ?_
    rintro e w7 ⟨V7, rfl, hT, hb⟩
    have HB7 := Lib.hid (HB6.out.trans hb)
    have HT7 := Lib.hid hT
    clear hb hT y0 y1 y2 y3 y4 y5 ly
    go_wp2_with fail
    refine (HLF.out _ _ HT7.out).mono ?_
    rintro e w8 ⟨rfl, hb⟩
    have HB8 := Lib.hid (HB7.out.trans hb)
    clear hb
    go_wp2
    exact bodyPost_ret (v := .tuple #[.int .i64 (m - n), .int .i64 0]) (by simp [results, Tryd.results50, go_sem]) rfl ⟨rvI HVV.out HE.out, HB8.out⟩
end Go.Proofs.YtogiidkofddhaaaDoor

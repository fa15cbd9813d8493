/-
  beasts: the reference's Ran, Run, AreAnswers.
-/
import Derived.Test.YtogiidkofddhaaaDoorBRef2
namespace Go.Proofs.YtogiidkofddhaaaDoor
open Go Go.RowKit Go.Shelf
set_option maxHeartbeats 4000000
set_option maxRecDepth 100000
def RanPost (b : BT) (l : List BS) (p : Int) (w : World) (e : Ending) (w' : World) : Prop :=
  ∃ V, e = .returned (.tuple #[.int .i64 (ranTo b l p l.length).1, V]) ∧ IntsAt w' V (ranTo b l p l.length).2 ∧ Bel w w'
theorem R6Ran_any (b : BT) (l : List BS) (hl : stepsB b l = true) (h200 : l.length ≤ 200) (p : Int) (v lv : Value) (w : World) (hv : BTrapAt w v b) (hlv : StepsAt w lv l) :
    Calls Tryd.prog 34 #[v, lv, .int .i64 p] w (RanPost b l p w) := by
  have HST := Lib.hid (stepsB_iff.1 hl)
  have HRL := Lib.hid (fun k hk => (ran_len (b := b) l HST.out p k hk).1)
  obtain ⟨da, dc, sa, sc, pa, pc, rfl, hd, _, _⟩ := hv.open
  obtain ⟨db, doff, hda, hdl, _, hdc⟩ := hd.open
  obtain ⟨la, lc, lb, loff, rfl, hla, ⟨hll, _⟩, hlc⟩ := hlv
  have hixl := idxSteps (c := lc) hla
  have hixd := idxDoors (c := dc) hda
  have HLC := Lib.hid hlc
  have HDC := Lib.hid hdc
  have HBX := Lib.hid (fun wx hx => (BoxB.new (w := w) (b := b) (dv := .slice da b.doors.length dc) (sv := .slice sa b.seen.length sc) (pv := .slice pa b.places.length pc) (T := 25)).bel (w' := wx) hx)
  obtain ⟨i1, hi1, hz1, hs1, hb1⟩ := info_parts mkInt
  have HI1 := Lib.hid hi1
  have HZ1 := Lib.hid hz1
  unfold RanPost
  clear hv hd hla hlc hda hdc hl hi1 hz1
  go_enter Tryd.func34, Tryd.ntmps34
  go_wp2
  generalize hW0 : World.alloc _ _ = W0
  have HB := Lib.hid (show Bel w W0 by rw [← hW0]; exact (Bel.refl w).alloc _)
  have HY := Lib.hid (HBX.out W0 (by rw [← hW0]; exact Bel.refl _))
  clear hW0 HBX
  go_loopw [2, 7, 8] (fun va V vi wr => ∃ k : Nat, k ≤ l.length ∧ vi = .int .i64 k ∧ va = .int .i64 (ranTo b l p k).1 ∧ IntSt (ranTo b l p k).2 W0 V wr) (fun _ _ vi _ => l.length - (intOf vi).toNat)
  case atStart => exact ⟨0, by omega, rfl, rfl, IntSt.start W0⟩
  case round =>
    obtain ⟨k, hk, rfl, rfl, hst⟩ := hrel
    have HS := Lib.hid hst
    have HBW := Lib.hid (HB.out.trans hst.bel)
    by_cases hlt : k < l.length
    · have hlti : (k : Int) < (l.length : Int) := by omega
      obtain ⟨k0, k1⟩ := HLC.out k hlt
      replace k0 := HBW.out.cell k0
      replace k1 := HBW.out.cell k1
      have lk := cell_lt k0
      obtain ⟨y0, y1, y2, y3, y4, y5⟩ := HY.out.bel hst.bel
      have ly := cell_lt y0
      have hlook := looksTo_le l k
      have hrl := HRL.out k hk
      have hx := HST.out k hlt
      have HOPEN := Lib.hid (ranTo_open (b := b) (l := l) (p := p) (k := k))
      have HLOOK := Lib.hid (ranTo_look (b := b) (l := l) (p := p) (k := k))
      clear hst
      generalize atS l k = x at *
      rcases hx with ⟨e, g1, g2⟩ | ⟨e, g⟩
      · have b1 : (x.k == 1) = true := by simpa using e
        have HRN := Lib.hid (HOPEN.out e)
        obtain ⟨j, hj⟩ : ∃ j : Nat, x.x = j := ⟨x.x.toNat, by omega⟩
        have hj2 : j < b.doors.length := by omega
        have hj3 : (j : Int) < (b.doors.length : Int) := by omega
        rw [hj] at k1 HRN
        simp only [Int.toNat_natCast] at HRN
        obtain ⟨d0, d1, d2⟩ := HDC.out j hj2
        replace d0 := HBW.out.cell d0
        replace d1 := HBW.out.cell d1
        replace d2 := HBW.out.cell d2
        have ld := cell_lt d0
        have HT := Lib.hid (fun wx => R6Through_any (atD b.doors j) (ranTo b l p k).1 wx)
        generalize atD b.doors j = d at *
        clear e g1 g2 hj HOPEN HLOOK
        generalize ranTo b l p k = r at *
        go_wp2
        refine wp_region_mixB (Plan.seq [0, 1, 2, 3, 4, 5, 6, 7, 8, 9, 1010, 11] .nil) (by kernel_rfl) (by kernel_rfl) (fun hcur => ?_)
        simp only [Plan.seq, Plan.fill, List.getD_cons_zero, List.getD_cons_succ, Nat.reduceLT, ↓reduceIte, Nat.reduceSub]
        apply mix_pure _ rfl
        · intro w' hw'
          have hcr := hw'.cells
          go_simp
          rfl
        intro K hK
        go_simp
        refine hK _ ?_
        clear hK K
        apply mix_pure _ rfl
        · intro w' hw'
          have hcr := hw'.cells
          go_simp
          rfl
        intro K hK
        go_simp
        refine hK _ ?_
        clear hK K
        apply mix_pure _ rfl
        · intro w' hw'
          have hcr := hw'.cells
          go_simp
          rfl
        intro K hK
        go_simp
        refine hK _ ?_
        clear hK K
        apply mix_pure _ rfl
        · intro w' hw'
          have hcr := hw'.cells
          go_simp
          rfl
        intro K hK
        go_simp
        refine hK _ ?_
        clear hK K
        apply mix_pure _ rfl
        · intro w' hw'
          have hcr := hw'.cells
          go_simp
          rfl
        intro K hK
        go_simp
        refine hK _ ?_
        clear hK K
        apply mix_pure _ rfl
        · intro w' hw'
          have hcr := hw'.cells
          go_simp
          rfl
        intro K hK
        go_simp
        refine hK _ ?_
        clear hK K
        apply mix_pure _ rfl
        · intro w' hw'
          have hcr := hw'.cells
          go_simp
          rfl
        intro K hK
        go_simp
        refine hK _ ?_
        clear hK K
        apply mix_pure _ rfl
        · intro w' hw'
          have hcr := hw'.cells
          go_simp
          rfl
        intro K hK
        go_simp
        refine hK _ ?_
        clear hK K
        apply mix_pure _ rfl
        · intro w' hw'
          have hcr := hw'.cells
          go_simp
          rfl
        intro K hK
        go_simp
        refine hK _ ?_
        clear hK K
        apply mix_pure _ rfl
        · intro w' hw'
          have hcr := hw'.cells
          go_simp
          rfl
        intro K hK
        go_simp
        refine hK _ ?_
        clear hK K
        refine mix_act rfl (fun K hK => ?_)
        go_simp
        refine (HT.out _).mono ?_
        rintro e w3 ⟨rfl, hb⟩
        simp only []
        refine hK _ _ (hcur.trans hb) (fun hcur => ?_)
        clear hK K hb
        apply mix_pure _ rfl
        · intro w' hw'
          have hcr := hw'.cells
          go_simp
          rfl
        intro K hK
        go_simp
        refine hK _ ?_
        clear hK K
        refine mix_nil ?_
        have HS7 := Lib.hid (HS.out.keep hcur)
        clear hcur k0 k1 lk y0 y1 y2 y3 y4 y5 ly d0 d1 d2 ld
        go_wp2
        go_roundw
        case rel => exact ⟨k + 1, by omega, by go_num, by rw [HRN.out], by rw [HRN.out]; exact HS7.out⟩
        case measure => simp [intOf]; omega
      · have b1 : (x.k == 1) = false := by rw [beq_eq_false_iff_ne]; omega
        have HRN := Lib.hid (HLOOK.out e)
        clear e g HOPEN HLOOK
        generalize ranTo b l p k = r at *
        have hq : ∃ a : Int, (if x.x = r.1 then (1 : Int) else 0) = a ∧ ((x.x == r.1) = true ∧ a = 1 ∨ (x.x == r.1) = false ∧ a = 0) := by
          by_cases q : x.x = r.1
          · exact ⟨1, by rw [if_pos q], .inl ⟨by rw [q]; simp, rfl⟩⟩
          · exact ⟨0, by rw [if_neg q], .inr ⟨by rw [beq_eq_false_iff_ne]; exact q, rfl⟩⟩
        obtain ⟨a, ha, hq⟩ := hq
        rw [ha] at HRN
        clear ha
        rcases hq with ⟨b2, rfl⟩ | ⟨b2, rfl⟩
        all_goals
          go_wp2_with (at_builtin; refine wpList_append_where rfl _ _ 23 rfl 3 i1 (.int .i64 0) 1 8 Tryd.underlying23 HI1.out HZ1.out hs1 hb1 rfl (by decide) _ r.2.length (r.2.map (Value.int .i64)) rfl (ownsRow_bel HS.out.own ((Bel.refl wr).alloc _)) ⟨wr.heap.size, 0, none⟩ 1 1 [.int .i64 _] rfl rfl (cell_one_new _ _ _) (fun y hy => by simp at hy; subst hy; rfl) (by unfold maxLen; omega) (by omega) ?_; intro V' w7 hown hgrow hwhere)
          have HS7 := Lib.hid ((HS.out.keep ((Bel.refl wr).alloc _)).next hown hgrow hwhere)
          clear hown hgrow hwhere k0 k1 lk y0 y1 y2 y3 y4 y5 ly
          go_wp2
          go_roundw
          case rel => exact ⟨k + 1, by omega, by go_num, by rw [HRN.out], by rw [HRN.out]; exact HS7.out⟩
          case measure => simp [intOf]; omega
    · obtain rfl : k = l.length := by omega
      have hll2 := HRL.out l.length (Nat.le_refl _)
      have hlook := looksTo_le l l.length
      clear hst
      go_wp2
      exact bodyPost_ret (v := .tuple #[.int .i64 (ranTo b l p l.length).1, u7]) (by simp [results, Tryd.results34, go_sem]) rfl ⟨_, rfl, ownInts (by omega) HS.out.own, HB.out.trans HS.out.bel⟩
theorem givenE_true {b : BT} {l : List BS} {is : Bool} : givenE b l is = if givenE b l true = 0 then (if is then 0 else 1) else givenE b l true := by
  unfold givenE
  cases validT b
  · rfl
  · by_cases h : 12 < l.length
    · simp [h]
    · cases is <;> cases stepsB b l <;> simp [h]
theorem givenE_zero {b : BT} {l : List BS} (h : givenE b l true = 0) : validT b = true ∧ l.length ≤ 12 ∧ stepsB b l = true := by
  unfold givenE at h
  cases h1 : validT b
  · rw [h1] at h; cases h
  · rw [h1] at h
    simp only [if_true] at h
    by_cases h2 : 12 < l.length
    · rw [if_pos h2] at h; cases h
    · rw [if_neg h2] at h
      cases h4 : stepsB b l
      · rw [h4] at h; simp at h
      · exact ⟨rfl, by omega, rfl⟩
theorem R6Run_any (b : BT) (l : List BS) (p : Int) (v lv : Value) (w : World) (hv : BTrapAt w v b) (hlv : StepsAt w lv l) :
    Calls Tryd.prog 58 #[v, lv, .int .i64 p] w (RunPost b l p w) := by
  have HV := Lib.hid hv
  have HL := Lib.hid hlv
  have HG := Lib.hid (fun wx hx => R6given_any b l v lv wx (hv.bel (w' := wx) hx) (hlv.bel hx))
  have HC := Lib.hid (fun wx hx => R6IsChamber_any b p v wx (hv.bel (w' := wx) hx))
  have HRE : Hid (runE b l p = if givenE b l true = 0 then (if chamB b.n p then 0 else 1) else givenE b l true) := Lib.hid givenE_true
  obtain ⟨da, dc, sa, sc, pa, pc, rfl, hd, _, _⟩ := hv.open
  have HBX := Lib.hid (fun wx hx => (BoxB.new (w := w) (b := b) (dv := .slice da b.doors.length dc) (sv := .slice sa b.seen.length sc) (pv := .slice pa b.places.length pc) (T := 25)).bel (w' := wx) hx)
  unfold RunPost runAt runLost runAns
  clear hv hd
  by_cases hE : givenE b l true = 0
  rotate_left
  · have HRE2 := Lib.hid (HRE.out.trans (if_neg hE))
    rw [HRE2.out, if_neg hE, if_neg hE, if_neg hE]
    have hb1 : (givenE b l true != 0) = true := by simpa using hE
    clear hE HRE HRE2
    generalize givenE b l true = er at *
    obtain ⟨la, lc, lb, loff, rfl, -⟩ := hlv
    go_enter Tryd.func58, Tryd.ntmps58
    go_wp2_with fail
    refine (HG.out _ (by repeat (first | assumption | exact Bel.refl _ | refine Bel.drew ?_ | refine Bel.drewN ?_ _ | refine Bel.alloc ?_ _ | refine Bel.setCell ?_ (by simp <;> omega) _ | refine Bel.trans ?_ (by assumption)))).mono ?_
    rintro e w1 ⟨rfl, hb⟩
    have HB := Lib.hid (show Bel w w1 from Bel.trans (by repeat (first | assumption | exact Bel.refl _ | refine Bel.drew ?_ | refine Bel.drewN ?_ _ | refine Bel.alloc ?_ _ | refine Bel.setCell ?_ (by simp <;> omega) _ | refine Bel.trans ?_ (by assumption))) hb)
    clear hb
    go_wp2
    exact bodyPost_ret (v := .tuple #[.int .i64 0, .int .i64 0, .slice none 0 0, .int .i64 er]) (by simp [results, Tryd.results58, go_sem, *]) rfl ⟨_, rfl, IntsAt.nil _, HB.out⟩
  have HRE2 := Lib.hid (HRE.out.trans (if_pos hE))
  obtain ⟨hval, h12, hst⟩ := givenE_zero hE
  rw [hE] at HG
  have HRN := Lib.hid (fun wx hx => R6Ran_any b l hst (by omega) p _ lv wx (HV.out.bel (w' := wx) hx) (HL.out.bel hx))
  have HCS := Lib.hid (fun wx hx => R6CostsOf_any b hval l hst (by omega) _ lv wx (HV.out.bel (w' := wx) hx) (HL.out.bel hx))
  obtain ⟨la, lc, lb, loff, rfl, -⟩ := hlv
  rw [HRE2.out]
  clear hE HRE HRE2 hval hst
  cases hch : chamB b.n p
  · rw [hch] at HC
    clear hch
    go_enter Tryd.func58, Tryd.ntmps58
    go_wp2_with fail
    refine (HG.out _ (by repeat (first | assumption | exact Bel.refl _ | refine Bel.drew ?_ | refine Bel.drewN ?_ _ | refine Bel.alloc ?_ _ | refine Bel.setCell ?_ (by simp <;> omega) _ | refine Bel.trans ?_ (by assumption)))).mono ?_
    rintro e w1 ⟨rfl, hb⟩
    obtain ⟨y0, y1, y2, y3, y4, y5⟩ := HBX.out _ hb
    have ly := cell_lt y0
    have HB := Lib.hid (show Bel w w1 from Bel.trans (by repeat (first | assumption | exact Bel.refl _ | refine Bel.drew ?_ | refine Bel.drewN ?_ _ | refine Bel.alloc ?_ _ | refine Bel.setCell ?_ (by simp <;> omega) _ | refine Bel.trans ?_ (by assumption))) hb)
    clear hb
    go_wp2_with fail
    refine (HC.out _ HB.out).mono ?_
    rintro e w2 ⟨rfl, hb⟩
    have HB2 := Lib.hid (HB.out.trans hb)
    clear hb
    go_wp2
    exact bodyPost_ret (v := .tuple #[.int .i64 0, .int .i64 0, .slice none 0 0, .int .i64 1]) (by simp [results, Tryd.results58, go_sem]) rfl ⟨_, rfl, IntsAt.nil _, HB2.out⟩
  rw [hch] at HC
  clear hch
  go_enter Tryd.func58, Tryd.ntmps58
  go_wp2_with fail
  refine (HG.out _ (by repeat (first | assumption | exact Bel.refl _ | refine Bel.drew ?_ | refine Bel.drewN ?_ _ | refine Bel.alloc ?_ _ | refine Bel.setCell ?_ (by simp <;> omega) _ | refine Bel.trans ?_ (by assumption)))).mono ?_
  rintro e w1 ⟨rfl, hb⟩
  have HY := Lib.hid (HBX.out _ hb)
  obtain ⟨y0, y1, y2, y3, y4, y5⟩ := HY.out
  have ly := cell_lt y0
  have HB := Lib.hid (show Bel w w1 from Bel.trans (by repeat (first | assumption | exact Bel.refl _ | refine Bel.drew ?_ | refine Bel.drewN ?_ _ | refine Bel.alloc ?_ _ | refine Bel.setCell ?_ (by simp <;> omega) _ | refine Bel.trans ?_ (by assumption))) hb)
  clear hb
  go_wp2_with fail
  refine (HC.out _ HB.out).mono ?_
  rintro e w2 ⟨rfl, hb⟩
  have HY2 := Lib.hid (HY.out.bel hb)
  have HB2 := Lib.hid (HB.out.trans hb)
  clear hb y0 y1 y2 y3 y4 y5 ly
  obtain ⟨y0, y1, y2, y3, y4, y5⟩ := HY2.out
  have ly := cell_lt y0
  go_wp2_with fail
  refine (HRN.out _ HB2.out).mono ?_
  rintro e w3 ⟨V, rfl, hV, hb⟩
  have HY3 := Lib.hid (HY2.out.bel hb)
  have HB3 := Lib.hid (HB2.out.trans hb)
  have HV3 := Lib.hid hV
  clear hb y0 y1 y2 y3 y4 y5 ly hV
  obtain ⟨y0, y1, y2, y3, y4, y5⟩ := HY3.out
  have ly := cell_lt y0
  go_wp2_with fail
  refine (HCS.out _ HB3.out).mono ?_
  rintro e w4 ⟨rfl, hb⟩
  have HB4 := Lib.hid (HB3.out.trans hb)
  have HV4 := Lib.hid (HV3.out.bel hb)
  clear hb y0 y1 y2 y3 y4 y5 ly
  go_wp2
  exact bodyPost_ret (v := .tuple #[.int .i64 (ranTo b l p l.length).1, .int .i64 (costsL b l), V, .int .i64 0]) (by simp [results, Tryd.results58, go_sem]) rfl ⟨_, rfl, HV4.out, HB4.out⟩
def answersB (l : List BS) (ans : List Int) : Bool := (allB ans.length fun i => withinB (at0 ans i) 0 1) && decide (looksTo l l.length = ans.length)
theorem R6AreAnswers_any (l : List BS) (ans : List Int) (lv av : Value) (w : World) (hlv : StepsAt w lv l) (hav : IntsAt w av ans) (h200 : l.length ≤ 200) :
    Calls Tryd.prog 61 #[lv, av] w fun e w' => e = .returned (.bool (answersB l ans)) ∧ Bel w w' := by
  obtain ⟨la, lc, lb, loff, rfl, hla, ⟨hll, _⟩, hlc⟩ := hlv
  obtain ⟨aa, ac, ab, aoff, rfl, haa, ⟨hal, _⟩, hac⟩ := hav
  have hixl := idxSteps (c := lc) hla
  have hixa := idxInts (c := ac) haa
  have HLC := Lib.hid hlc
  have HAC := Lib.hid hac
  have HA := Lib.hid (show answersB l ans = ((allB ans.length fun i => withinB (at0 ans i) 0 1) && decide (looksTo l l.length = ans.length)) from rfl)
  clear hla hlc haa hac
  go_enter Tryd.func61, Tryd.ntmps61
  go_wp2
  go_loop [5, 6] (fun n i => ∃ k : Nat, k ≤ l.length ∧ i = .int .i64 k ∧ n = .int .i64 (looksTo l k : Int)) (fun _ i => l.length - (intOf i).toNat)
  case atStart => exact ⟨0, by omega, rfl, rfl⟩
  case round =>
    obtain ⟨k, hk, rfl, rfl⟩ := hrel
    by_cases hlt : k < l.length
    · have hlti : (k : Int) < (l.length : Int) := by omega
      obtain ⟨k0, _⟩ := HLC.out k hlt
      have hlook := looksTo_le l k
      have HN := Lib.hid (show looksTo l (k + 1) = if (atS l k).k = 2 then looksTo l k + 1 else looksTo l k from rfl)
      generalize looksTo l k = n at *
      generalize atS l k = x at *
      by_cases e : x.k = 2
      · have b1 : (x.k == 2) = true := by simpa using e
        have HN2 := Lib.hid (HN.out.trans (if_pos e))
        clear e HN
        go_wp2
        go_round
        case rel => exact ⟨k + 1, by omega, by go_num, by rw [HN2.out]; try go_num⟩
        case measure => simp [intOf]; omega
      · have b1 : (x.k == 2) = false := by simpa using e
        have HN2 := Lib.hid (HN.out.trans (if_neg e))
        clear e HN
        go_wp2
        go_round
        case rel => exact ⟨k + 1, by omega, by go_num, by rw [HN2.out]; try go_num⟩
        case measure => simp [intOf]; omega
    · obtain rfl : k = l.length := by omega
      go_wp2
      go_loop [7] (fun i => ∃ k : Nat, k ≤ ans.length ∧ i = .int .i64 k ∧ Hid (allB k (fun i => withinB (at0 ans i) 0 1) = true)) (fun i => ans.length - (intOf i).toNat)
      case atStart => exact ⟨0, by omega, rfl, rfl⟩
      case round =>
        obtain ⟨k, hk, rfl, hno⟩ := hrel
        by_cases hlt : k < ans.length
        · have hlti : (k : Int) < (ans.length : Int) := by omega
          have k0 := HAC.out k hlt
          cases hw : withinB (at0 ans k) 0 1
          · have HI := Lib.hid (show answersB l ans = false by rw [HA.out, allB_false k hlt hw]; rfl)
            have HW := Lib.hid (fun wx => R6within_any (at0 ans k) 0 1 wx)
            rw [hw] at HW
            clear hw
            generalize at0 ans k = x at *
            go_wp2_with (go_at_call 74; refine (HW.out _).mono ?_; rintro e w' ⟨rfl, rfl⟩)
            go_ret
            exact ⟨rb HI.out, Bel.refl _⟩
          · have HR := Lib.hid (allB_succ hno.out (f := fun i => withinB (at0 ans i) 0 1) hw)
            have HW := Lib.hid (fun wx => R6within_any (at0 ans k) 0 1 wx)
            rw [hw] at HW
            clear hw
            generalize at0 ans k = x at *
            go_wp2_with (go_at_call 74; refine (HW.out _).mono ?_; rintro e w' ⟨rfl, rfl⟩)
            go_round
            case rel => exact ⟨k + 1, by omega, by go_num, HR⟩
            case measure => simp [intOf]; omega
        · obtain rfl : k = ans.length := by omega
          have HI := Lib.hid (HA.out.trans (by rw [hno.out]; try rfl))
          by_cases e : looksTo l l.length = ans.length
          · have HI2 := Lib.hid (HI.out.trans (decide_eq_true e))
            have b1 : ((looksTo l l.length : Int) == (ans.length : Int)) = true := by rw [e]; simp
            clear e
            go_wp2
            go_ret
            exact ⟨rb HI2.out, Bel.refl _⟩
          · have HI2 := Lib.hid (HI.out.trans (decide_eq_false e))
            have b1 : ((looksTo l l.length : Int) == (ans.length : Int)) = false := by rw [beq_eq_false_iff_ne]; omega
            clear e
            go_wp2
            go_ret
            exact ⟨rb HI2.out, Bel.refl _⟩
end Go.Proofs.YtogiidkofddhaaaDoor

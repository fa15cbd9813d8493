/-
  reference: Check, ask.
-/
import Derived.Test.YtkdcdhkhadhcfaaCheck
namespace Go.Proofs.Ytkdcdhkhadhcfaa
open Go Go.RowKit
set_option maxHeartbeats 1000000
set_option maxRecDepth 100000
theorem RCheck_any (t : CT) (v : Value) (w : World) (hv : TrapAt w v t) :
    Calls Try.prog 17 #[v] w fun e w' => e = .returned (.int .i64 (chk t)) ∧ Bel w w' := by
  obtain ⟨ov, wv, rfl, hrows, hwords⟩ := hv
  have HV := Lib.hid (show validB t = (withinB t.C 1 4 && (withinB t.T 1 5 && (decide ((t.op.length : Int) = t.T - 1) && (decide (t.ws.length ≤ 8) && (rowsB t.C t.op && wordsB t.C t.T t.ws))))) from rfl)
  obtain ⟨a, c, b, off, rv, rfl, ha, hlen, hc⟩ := hrows
  obtain ⟨wa, wc, wb, woff, rfl, hwa, hwlen, hwc⟩ := hwords
  have hix := idxRows (c := c) ha
  have hixw := idxWords (c := wc) hwa
  have HC := Lib.hid hc
  have HWC := Lib.hid hwc
  clear ha hwa hc hwc
  cases h1 : withinB t.C 1 4
  · have HI := Lib.hid (chk_false (show validB t = false by rw [HV.out, h1]; rfl))
    go_enter Try.func17, Try.ntmps17
    go_wp2_with (first | (go_at_call 20; refine (Within_any _ _ _ _).mono ?_; rintro e w' ⟨rfl, rfl⟩))
    go_ret
    exact ⟨ri HI.out, (by repeat (first | assumption | exact Bel.refl _ | refine Bel.drew ?_ | refine Bel.drewN ?_ _ | refine Bel.alloc ?_ _ | refine Bel.setCell ?_ (by simp <;> omega) _ | refine Bel.trans ?_ (by assumption)))⟩
  cases h2 : withinB t.T 1 5
  · have HI := Lib.hid (chk_false (show validB t = false by rw [HV.out, h1, h2]; rfl))
    go_enter Try.func17, Try.ntmps17
    go_wp2_with (first | (go_at_call 20; refine (Within_any _ _ _ _).mono ?_; rintro e w' ⟨rfl, rfl⟩))
    go_ret
    exact ⟨ri HI.out, (by repeat (first | assumption | exact Bel.refl _ | refine Bel.drew ?_ | refine Bel.drewN ?_ _ | refine Bel.alloc ?_ _ | refine Bel.setCell ?_ (by simp <;> omega) _ | refine Bel.trans ?_ (by assumption)))⟩
  obtain ⟨b1, b2⟩ := withinB_true.1 h1
  obtain ⟨b3, b4⟩ := withinB_true.1 h2
  by_cases h3 : (t.op.length : Int) = t.T - 1
  case neg =>
    have HI := Lib.hid (chk_false (show validB t = false by rw [HV.out, h1, h2, decide_eq_false h3]; rfl))
    have hb : ((t.op.length : Int) != t.T - 1) = true := by rw [bne_iff_ne]; exact h3
    clear h3
    go_enter Try.func17, Try.ntmps17
    go_wp2_with (first | (go_at_call 20; refine (Within_any _ _ _ _).mono ?_; rintro e w' ⟨rfl, rfl⟩))
    go_ret
    exact ⟨ri HI.out, (by repeat (first | assumption | exact Bel.refl _ | refine Bel.drew ?_ | refine Bel.drewN ?_ _ | refine Bel.alloc ?_ _ | refine Bel.setCell ?_ (by simp <;> omega) _ | refine Bel.trans ?_ (by assumption)))⟩
  have hb : ((t.op.length : Int) != t.T - 1) = false := by simpa using h3
  have H3 := Lib.hid h3
  clear h3
  by_cases h4 : t.ws.length ≤ 8
  case neg =>
    have HI := Lib.hid (chk_false (show validB t = false by rw [HV.out, h1, h2, decide_eq_true H3.out, decide_eq_false h4]; rfl))
    have hb4 : decide (8 < t.ws.length) = true := by simp; omega
    go_enter Try.func17, Try.ntmps17
    go_wp2_with (first | (go_at_call 20; refine (Within_any _ _ _ _).mono ?_; rintro e w' ⟨rfl, rfl⟩))
    go_ret
    exact ⟨ri HI.out, (by repeat (first | assumption | exact Bel.refl _ | refine Bel.drew ?_ | refine Bel.drewN ?_ _ | refine Bel.alloc ?_ _ | refine Bel.setCell ?_ (by simp <;> omega) _ | refine Bel.trans ?_ (by assumption)))⟩
  have hb4 : decide (8 < t.ws.length) = false := by simp; omega
  have hb5 : ¬ 8 < t.ws.length := by omega
  have HV2 : Hid (validB t = (rowsB t.C t.op && wordsB t.C t.T t.ws)) := by
    have e := HV.out
    rw [h1, h2, decide_eq_true H3.out, decide_eq_true h4] at e
    exact e
  clear HV
  go_enter Try.func17, Try.ntmps17
  go_wp2_with (first | (go_at_call 20; refine (Within_any _ _ _ _).mono ?_; rintro e w' ⟨rfl, rfl⟩))
  generalize hW0 : w.alloc (Obj.cells #[Value.int IntKind.i64 t.C, Value.int IntKind.i64 t.T, .slice a t.op.length c, .slice wa t.ws.length wc] 47) = W0
  have HB0 : Hid (Bel w W0) := Lib.hid (by rw [← hW0]; exact (by repeat (first | assumption | exact Bel.refl _ | refine Bel.drew ?_ | refine Bel.drewN ?_ _ | refine Bel.alloc ?_ _ | refine Bel.setCell ?_ (by simp <;> omega) _ | refine Bel.trans ?_ (by assumption))))
  have hbx0 : W0.cell? ⟨w.heap.size, 0, none⟩ = some (.int .i64 t.C) := by rw [← hW0]; simp
  have hbx1 : W0.cell? ⟨w.heap.size, 1, none⟩ = some (.int .i64 t.T) := by rw [← hW0]; simp
  have hbx2 : W0.cell? ⟨w.heap.size, 2, none⟩ = some (.slice a t.op.length c) := by rw [← hW0]; simp
  have hbx3 : W0.cell? ⟨w.heap.size, 3, none⟩ = some (.slice wa t.ws.length wc) := by rw [← hW0]; simp
  clear hW0
  have HX := Lib.hid (show _ ∧ _ ∧ _ ∧ _ from ⟨hbx0, hbx1, hbx2, hbx3⟩)
  clear hbx0 hbx1 hbx2 hbx3
  go_loopw [3] (fun i wr => ∃ k : Nat, k ≤ t.op.length ∧ i = .int .i64 k ∧ Hid (allB k (fun i => risingB (atL t.op i) 0 (t.C - 1)) = true) ∧ Bel W0 wr) (fun i _ => t.op.length - (intOf i).toNat)
  case atStart => exact ⟨0, by omega, rfl, rfl, Bel.refl _⟩
  case round =>
    obtain ⟨i, hi, rfl, hno, hB⟩ := hrel
    have q0 := hB.cell HX.out.1
    have q1 := hB.cell HX.out.2.1
    have q2 := hB.cell HX.out.2.2.1
    have q3 := hB.cell HX.out.2.2.2
    have l0 := cell_lt q0
    have hB2 := HB0.out.trans hB
    by_cases hlt : i < t.op.length
    · have hii : (i : Int) < (t.op.length : Int) := by omega
      obtain ⟨hci, hri⟩ := HC.out i hlt
      replace hci := hB2.cell hci
      replace hri := hri.bel hB2
      have lb := cell_lt hci
      have HB := Lib.hid hB
      clear hB hB2
      go_wp2
      refine wp_region_mixB (Plan.seq [0, 1, 2, 3, 4, 5, 6, 7, 1008, 9] .nil) (by kernel_rfl) (by kernel_rfl) (fun hcur => ?_)
      simp only [Plan.seq, Plan.fill, List.getD_cons_zero, List.getD_cons_succ, Nat.reduceLT, ↓reduceIte, Nat.reduceSub]
      apply mix_pure _ rfl
      · intro w' hw'
        have hcr := hw'.cells
        go_simp
        rfl
      intro K hK
      go_simp
      refine hK _ ?_
      clear hK K
      apply mix_pure _ rfl
      · intro w' hw'
        have hcr := hw'.cells
        go_simp
        rfl
      intro K hK
      go_simp
      refine hK _ ?_
      clear hK K
      apply mix_pure _ rfl
      · intro w' hw'
        have hcr := hw'.cells
        go_simp
        rfl
      intro K hK
      go_simp
      refine hK _ ?_
      clear hK K
      apply mix_pure _ rfl
      · intro w' hw'
        have hcr := hw'.cells
        go_simp
        rfl
      intro K hK
      go_simp
      refine hK _ ?_
      clear hK K
      apply mix_pure _ rfl
      · intro w' hw'
        have hcr := hw'.cells
        go_simp
        rfl
      intro K hK
      go_simp
      refine hK _ ?_
      clear hK K
      apply mix_pure _ rfl
      · intro w' hw'
        have hcr := hw'.cells
        go_simp
        rfl
      intro K hK
      go_simp
      refine hK _ ?_
      clear hK K
      apply mix_pure _ rfl
      · intro w' hw'
        have hcr := hw'.cells
        go_simp
        rfl
      intro K hK
      go_simp
      refine hK _ ?_
      clear hK K
      apply mix_pure _ rfl
      · intro w' hw'
        have hcr := hw'.cells
        go_simp
        first | (rw [IntWalk.i64_in]; all_goals first | omega | rfl) | rfl
      intro K hK
      go_simp
      refine hK _ ?_
      clear hK K
      refine mix_act rfl (fun K hK => ?_)
      go_simp
      refine (Rising_any _ _ _ _ _ (by first | assumption | exact IntsAt.bel ‹_› (by repeat (first | assumption | exact Bel.refl _ | refine Bel.drew ?_ | refine Bel.drewN ?_ _ | refine Bel.alloc ?_ _ | refine Bel.setCell ?_ (by simp <;> omega) _ | refine Bel.trans ?_ (by assumption))))).mono ?_
      rintro e w' ⟨rfl, hb⟩
      have hcr := hb.cells
      have hfr := hb.frozens
      have hz := hb.szle
      (try simp only [World.size_drew] at hz)
      have z0 : w.heap.size < w'.heap.size := (by omega)
      simp only []
      refine hK _ _ (hcur.trans hb) (fun hcur => ?_)
      clear hK K
      apply mix_pure _ rfl
      · intro w' hw'
        have hcr := hw'.cells
        go_simp
        rfl
      intro K hK
      go_simp
      refine hK _ ?_
      clear hK K
      refine mix_nil ?_
      cases hr : risingB (atL t.op i) 0 (t.C - 1)
      · have HI := Lib.hid (chk_false (show validB t = false by rw [HV2.out, show rowsB t.C t.op = false from allB_false i hlt hr]; rfl))
        have HF := Lib.hid (HB0.out.trans (HB.out.trans hcur))
        clear hcur q0 q1 q2 q3
        go_wp2
        go_ret
        exact ⟨ri HI.out, HF.out⟩
      · have HR := Lib.hid (allB_succ hno.out (f := fun i => risingB (atL t.op i) 0 (t.C - 1)) hr)
        have HF := Lib.hid (HB.out.trans hcur)
        clear hcur q0 q1 q2 q3
        go_wp2
        go_roundw
        case rel => exact ⟨i + 1, by omega, by go_num, HR, HF.out⟩
        case measure => simp [intOf]; omega
    · have HR := Lib.hid (show rowsB t.C t.op = true by unfold rowsB; rw [show t.op.length = i by omega]; exact hno.out)
      have hii : ¬ (i : Int) < (t.op.length : Int) := by omega
      have HBS := Lib.hid hB
      clear hB2 hB
      go_wp2
      clear q0 q1 q2 q3 l0
      go_loopw [4] (fun j wr => ∃ k : Nat, k ≤ t.ws.length ∧ j = .int .i64 k ∧ Hid (allB k (fun i => isWordB t.C t.T (atW t.ws i)) = true) ∧ Bel W0 wr) (fun j _ => t.ws.length - (intOf j).toNat)
      case atStart => exact ⟨0, by omega, rfl, rfl, HBS.out⟩
      case round =>
        obtain ⟨k, hk, rfl, hyes, hB⟩ := hrel
        have q0 := hB.cell HX.out.1
        have q1 := hB.cell HX.out.2.1
        have q2 := hB.cell HX.out.2.2.1
        have q3 := hB.cell HX.out.2.2.2
        have l0 := cell_lt q0
        have hB2 := HB0.out.trans hB
        by_cases hltk : k < t.ws.length
        · have hki : (k : Int) < (t.ws.length : Int) := by omega
          obtain ⟨e0, e1, e2, e3⟩ := HWC.out k hltk
          replace e0 := hB2.cell e0
          replace e1 := hB2.cell e1
          replace e2 := hB2.cell e2
          replace e3 := hB2.cell e3
          have lb := cell_lt e0
          have HB := Lib.hid hB
          have HWV := Lib.hid (fun w' => IsWord_any t.C t.T (atW t.ws k) (.slice a t.op.length c) (.slice wa t.ws.length wc) w')
          unfold CW.val at HWV
          clear hB hB2
          go_wp2
          refine wp_region_mixB (Plan.seq [0, 1, 2, 3, 4, 5, 1006, 7] .nil) (by kernel_rfl) (by kernel_rfl) (fun hcur => ?_)
          simp only [Plan.seq, Plan.fill, List.getD_cons_zero, List.getD_cons_succ, Nat.reduceLT, ↓reduceIte, Nat.reduceSub]
          apply mix_pure _ rfl
          · intro w' hw'
            have hcr := hw'.cells
            go_simp
            rfl
          intro K hK
          go_simp
          refine hK _ ?_
          clear hK K
          apply mix_pure _ rfl
          · intro w' hw'
            have hcr := hw'.cells
            go_simp
            rfl
          intro K hK
          go_simp
          refine hK _ ?_
          clear hK K
          apply mix_pure _ rfl
          · intro w' hw'
            have hcr := hw'.cells
            go_simp
            rfl
          intro K hK
          go_simp
          refine hK _ ?_
          clear hK K
          apply mix_pure _ rfl
          · intro w' hw'
            have hcr := hw'.cells
            go_simp
            rfl
          intro K hK
          go_simp
          refine hK _ ?_
          clear hK K
          apply mix_pure _ rfl
          · intro w' hw'
            have hcr := hw'.cells
            go_simp
            rfl
          intro K hK
          go_simp
          refine hK _ ?_
          clear hK K
          apply mix_pure _ rfl
          · intro w' hw'
            have hcr := hw'.cells
            go_simp
            rfl
          intro K hK
          go_simp
          refine hK _ ?_
          clear hK K
          refine mix_act rfl (fun K hK => ?_)
          go_simp
          refine (HWV.out _).mono ?_
          rintro e w' ⟨rfl, hb⟩
          have hcr := hb.cells
          have hfr := hb.frozens
          simp only []
          refine hK _ _ (hcur.trans hb) (fun hcur => ?_)
          clear hK K
          apply mix_pure _ rfl
          · intro w' hw'
            have hcr := hw'.cells
            go_simp
            rfl
          intro K hK
          go_simp
          refine hK _ ?_
          clear hK K
          refine mix_nil ?_
          cases hr : isWordB t.C t.T (atW t.ws k)
          · have HI := Lib.hid (chk_false (show validB t = false by rw [HV2.out, show wordsB t.C t.T t.ws = false from allB_false k hltk hr]; simp))
            have HF := Lib.hid (HB0.out.trans (HB.out.trans hcur))
            clear hcur q0 q1 q2 q3
            go_wp2
            go_ret
            exact ⟨ri HI.out, HF.out⟩
          · have HR2 := Lib.hid (allB_succ hyes.out (f := fun i => isWordB t.C t.T (atW t.ws i)) hr)
            have HF := Lib.hid (HB.out.trans hcur)
            clear hcur q0 q1 q2 q3
            go_wp2
            go_roundw
            case rel => exact ⟨k + 1, by omega, by go_num, HR2, HF.out⟩
            case measure => simp [intOf]; omega
        · have hki : ¬ (k : Int) < (t.ws.length : Int) := by omega
          have HI := Lib.hid (chk_true (show validB t = true by rw [HV2.out, HR.out, show wordsB t.C t.T t.ws = true from by unfold wordsB; rw [show t.ws.length = k by omega]; exact hyes.out]; rfl))
          have HF := Lib.hid hB2
          clear hB hB2
          go_wp2
          go_ret
          exact ⟨ri HI.out, HF.out⟩
end Go.Proofs.Ytkdcdhkhadhcfaa

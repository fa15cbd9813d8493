/-
  law: sameLists and Same, of two values that read alike.
-/
import Derived.Test.YtoiajjdhgffdaaaLaw1
namespace Go.Proofs.Ytoiajjdhgffdaaa
open Go Go.RowKit
set_option maxHeartbeats 1000000
set_option maxRecDepth 100000
theorem sameB_refl (a : List Int) : sameB a a = true := by unfold sameB; simp
theorem sameLists_eq (v1 v2 : Value) (l : List (List Int)) (w : World) (hv1 : RowsAt w v1 l) (hv2 : RowsAt w v2 l) :
    Calls Try.prog 68 #[v1, v2] w fun e w' => e = .returned (.bool true) ∧ Bel w w' := by
  obtain ⟨a, c, b, off, rv, rfl, ha, hlen, hc⟩ := hv1
  obtain ⟨a2, c2, b2, off2, rv2, rfl, ha2, hlen2, hc2⟩ := hv2
  have hix := idxRows (c := c) ha
  have hix2 := idxRows (c := c2) ha2
  have HC := Lib.hid hc
  have HC2 := Lib.hid hc2
  clear ha hc ha2 hc2
  go_enter Try.func68, Try.ntmps68
  go_wp2
  go_loopw [5] (fun i wr => ∃ k : Nat, k ≤ l.length ∧ i = .int .i64 k ∧ Bel w wr) (fun i _ => l.length - (intOf i).toNat)
  case atStart => exact ⟨0, by omega, rfl, Bel.refl _⟩
  case round =>
    obtain ⟨i, hi, rfl, hB⟩ := hrel
    by_cases hlt : i < l.length
    · have hii : (i : Int) < (l.length : Int) := by omega
      obtain ⟨hci, hri⟩ := HC.out i hlt
      obtain ⟨hci2, hri2⟩ := HC2.out i hlt
      replace hci := hB.cell hci
      replace hri := hri.bel hB
      replace hci2 := hB.cell hci2
      replace hri2 := hri2.bel hB
      have lb := cell_lt hci
      have lb2 := cell_lt hci2
      have HB := Lib.hid hB
      clear hB
      generalize hrow : atL l i = row at *
      clear hrow
      have HSB := Lib.hid (sameB_refl row)
      go_wp2
      refine wp_region_mixB (Plan.seq [0, 1, 2, 3, 4, 5, 6, 7, 1008, 9] .nil) (by kernel_rfl) (by kernel_rfl) (fun hcur => ?_)
      simp only [Plan.seq, Plan.fill, List.getD_cons_zero, List.getD_cons_succ, Nat.reduceLT, ↓reduceIte, Nat.reduceSub]
      apply mix_pure _ rfl
      · intro w' hw'
        have hcr := hw'.cells
        go_simp
        rfl
      intro K hK
      go_simp
      refine hK _ ?_
      clear hK K
      apply mix_pure _ rfl
      · intro w' hw'
        have hcr := hw'.cells
        go_simp
        rfl
      intro K hK
      go_simp
      refine hK _ ?_
      clear hK K
      apply mix_pure _ rfl
      · intro w' hw'
        have hcr := hw'.cells
        go_simp
        rfl
      intro K hK
      go_simp
      refine hK _ ?_
      clear hK K
      apply mix_pure _ rfl
      · intro w' hw'
        have hcr := hw'.cells
        go_simp
        rfl
      intro K hK
      go_simp
      refine hK _ ?_
      clear hK K
      apply mix_pure _ rfl
      · intro w' hw'
        have hcr := hw'.cells
        go_simp
        rfl
      intro K hK
      go_simp
      refine hK _ ?_
      clear hK K
      apply mix_pure _ rfl
      · intro w' hw'
        have hcr := hw'.cells
        go_simp
        rfl
      intro K hK
      go_simp
      refine hK _ ?_
      clear hK K
      apply mix_pure _ rfl
      · intro w' hw'
        have hcr := hw'.cells
        go_simp
        rfl
      intro K hK
      go_simp
      refine hK _ ?_
      clear hK K
      apply mix_pure _ rfl
      · intro w' hw'
        have hcr := hw'.cells
        go_simp
        rfl
      intro K hK
      go_simp
      refine hK _ ?_
      clear hK K
      refine mix_act rfl (fun K hK => ?_)
      go_simp
      refine (SameInts_any _ _ _ _ _ (hri.bel hcur) (hri2.bel hcur)).mono ?_
      rintro e w' ⟨rfl, hb⟩
      rw [HSB.out]
      have hcr := hb.cells
      have hfr := hb.frozens
      simp only []
      refine hK _ _ (hcur.trans hb) (fun hcur => ?_)
      clear hK K
      apply mix_pure _ rfl
      · intro w' hw'
        have hcr := hw'.cells
        go_simp
        rfl
      intro K hK
      go_simp
      refine hK _ ?_
      clear hK K
      refine mix_nil ?_
      have HF := Lib.hid (HB.out.trans hcur)
      clear hcur hri hri2
      go_wp2
      go_roundw
      case rel => exact ⟨i + 1, by omega, by go_num, HF.out⟩
      case measure => simp [intOf]; omega
    · have hii : ¬ (i : Int) < (l.length : Int) := by omega
      go_wp2
      go_ret
      exact ⟨rfl, hB⟩
theorem Same_eq (v1 v2 : Value) (t : CT) (w : World) (hv1 : TrapAt w v1 t) (hv2 : TrapAt w v2 t) :
    Calls Try.prog 39 #[v1, v2] w fun e w' => e = .returned (.bool true) ∧ Bel w w' := by
  obtain ⟨ov1, wv1, rfl, hr1, hw1⟩ := hv1
  obtain ⟨ov2, wv2, rfl, hr2, hw2⟩ := hv2
  obtain ⟨a, c, b, off, rv, rfl, ha, hlen, hc⟩ := hr1
  obtain ⟨a2, c2, b2, off2, rv2, rfl, ha2, hlen2, hc2⟩ := hr2
  obtain ⟨wa, wc, wb, woff, rfl, hwa, hwlen, hwc⟩ := hw1
  obtain ⟨wa2, wc2, wb2, woff2, rfl, hwa2, hwlen2, hwc2⟩ := hw2
  have hix := idxRows (c := c) ha
  have hix2 := idxRows (c := c2) ha2
  have hixw := idxWords (c := wc) hwa
  have hixw2 := idxWords (c := wc2) hwa2
  have HC := Lib.hid hc
  have HC2 := Lib.hid hc2
  have HWC := Lib.hid hwc
  have HWC2 := Lib.hid hwc2
  clear ha hc ha2 hc2 hwa hwc hwa2 hwc2
  go_enter Try.func39, Try.ntmps39
  go_wp2
  generalize hW0 : (w.alloc (Obj.cells #[Value.int IntKind.i64 t.C, Value.int IntKind.i64 t.T, .slice a t.op.length c, .slice wa t.ws.length wc] 25)).alloc (Obj.cells #[Value.int IntKind.i64 t.C, Value.int IntKind.i64 t.T, .slice a2 t.op.length c2, .slice wa2 t.ws.length wc2] 25) = W0
  have HB0 : Hid (Bel w W0) := Lib.hid (by rw [← hW0]; exact (by repeat (first | assumption | exact Bel.refl _ | refine Bel.drew ?_ | refine Bel.drewN ?_ _ | refine Bel.alloc ?_ _ | refine Bel.setCell ?_ (by simp <;> omega) _ | refine Bel.trans ?_ (by assumption))))
  have x2 : W0.cell? ⟨w.heap.size, 2, none⟩ = some (.slice a t.op.length c) := by rw [← hW0]; simp [World.cell?_alloc_lt]
  have x3 : W0.cell? ⟨w.heap.size, 3, none⟩ = some (.slice wa t.ws.length wc) := by rw [← hW0]; simp [World.cell?_alloc_lt]
  have y2 : W0.cell? ⟨w.heap.size + 1, 2, none⟩ = some (.slice a2 t.op.length c2) := by rw [← hW0]; simp []
  have y3 : W0.cell? ⟨w.heap.size + 1, 3, none⟩ = some (.slice wa2 t.ws.length wc2) := by rw [← hW0]; simp []
  clear hW0
  have HX := Lib.hid (show _ ∧ _ ∧ _ ∧ _ from ⟨x2, x3, y2, y3⟩)
  clear x2 x3 y2 y3
  go_loopw [5] (fun i wr => ∃ k : Nat, k ≤ t.op.length ∧ i = .int .i64 k ∧ Bel W0 wr) (fun i _ => t.op.length - (intOf i).toNat)
  case atStart => exact ⟨0, by omega, rfl, Bel.refl _⟩
  case round =>
    obtain ⟨i, hi, rfl, hB⟩ := hrel
    have q0 := hB.cell HX.out.1
    have q1 := hB.cell HX.out.2.1
    have q2 := hB.cell HX.out.2.2.1
    have q3 := hB.cell HX.out.2.2.2
    have l0 := cell_lt q0
    have l1 := cell_lt q2
    have hB2 := HB0.out.trans hB
    by_cases hlt : i < t.op.length
    · have hii : (i : Int) < (t.op.length : Int) := by omega
      obtain ⟨hci, hri⟩ := HC.out i hlt
      obtain ⟨hci2, hri2⟩ := HC2.out i hlt
      replace hci := hB2.cell hci
      replace hri := hri.bel hB2
      replace hci2 := hB2.cell hci2
      replace hri2 := hri2.bel hB2
      have lb := cell_lt hci
      have lb2 := cell_lt hci2
      have HB := Lib.hid hB
      clear hB hB2
      generalize hrow : atL t.op i = row at *
      clear hrow
      have HSB := Lib.hid (sameB_refl row)
      go_wp2
      refine wp_region_mixB (Plan.seq [0, 1, 2, 3, 4, 5, 6, 7, 8, 9, 1010, 11] .nil) (by kernel_rfl) (by kernel_rfl) (fun hcur => ?_)
      simp only [Plan.seq, Plan.fill, List.getD_cons_zero, List.getD_cons_succ, Nat.reduceLT, ↓reduceIte, Nat.reduceSub]
      apply mix_pure _ rfl
      · intro w' hw'
        have hcr := hw'.cells
        go_simp
        rfl
      intro K hK
      go_simp
      refine hK _ ?_
      clear hK K
      apply mix_pure _ rfl
      · intro w' hw'
        have hcr := hw'.cells
        go_simp
        rfl
      intro K hK
      go_simp
      refine hK _ ?_
      clear hK K
      apply mix_pure _ rfl
      · intro w' hw'
        have hcr := hw'.cells
        go_simp
        rfl
      intro K hK
      go_simp
      refine hK _ ?_
      clear hK K
      apply mix_pure _ rfl
      · intro w' hw'
        have hcr := hw'.cells
        go_simp
        rfl
      intro K hK
      go_simp
      refine hK _ ?_
      clear hK K
      apply mix_pure _ rfl
      · intro w' hw'
        have hcr := hw'.cells
        go_simp
        rfl
      intro K hK
      go_simp
      refine hK _ ?_
      clear hK K
      apply mix_pure _ rfl
      · intro w' hw'
        have hcr := hw'.cells
        go_simp
        rfl
      intro K hK
      go_simp
      refine hK _ ?_
      clear hK K
      apply mix_pure _ rfl
      · intro w' hw'
        have hcr := hw'.cells
        go_simp
        rfl
      intro K hK
      go_simp
      refine hK _ ?_
      clear hK K
      apply mix_pure _ rfl
      · intro w' hw'
        have hcr := hw'.cells
        go_simp
        rfl
      intro K hK
      go_simp
      refine hK _ ?_
      clear hK K
      apply mix_pure _ rfl
      · intro w' hw'
        have hcr := hw'.cells
        go_simp
        rfl
      intro K hK
      go_simp
      refine hK _ ?_
      clear hK K
      apply mix_pure _ rfl
      · intro w' hw'
        have hcr := hw'.cells
        go_simp
        rfl
      intro K hK
      go_simp
      refine hK _ ?_
      clear hK K
      refine mix_act rfl (fun K hK => ?_)
      go_simp
      refine (SameInts_any _ _ _ _ _ (hri.bel hcur) (hri2.bel hcur)).mono ?_
      rintro e w' ⟨rfl, hb⟩
      rw [HSB.out]
      have hcr := hb.cells
      have hfr := hb.frozens
      simp only []
      refine hK _ _ (hcur.trans hb) (fun hcur => ?_)
      clear hK K
      apply mix_pure _ rfl
      · intro w' hw'
        have hcr := hw'.cells
        go_simp
        rfl
      intro K hK
      go_simp
      refine hK _ ?_
      clear hK K
      refine mix_nil ?_
      have HF := Lib.hid (HB.out.trans hcur)
      clear hcur hri hri2 q0 q1 q2 q3
      go_wp2
      go_roundw
      case rel => exact ⟨i + 1, by omega, by go_num, HF.out⟩
      case measure => simp [intOf]; omega
    · have hii : ¬ (i : Int) < (t.op.length : Int) := by omega
      have HBS := Lib.hid hB
      clear hB hB2
      go_wp2
      clear q0 q1 q2 q3 l0 l1
      go_loopw [6] (fun i wr => ∃ k : Nat, k ≤ t.ws.length ∧ i = .int .i64 k ∧ Bel W0 wr) (fun i _ => t.ws.length - (intOf i).toNat)
      case atStart => exact ⟨0, by omega, rfl, HBS.out⟩
      case round =>
        obtain ⟨k, hk, rfl, hB⟩ := hrel
        have q0 := hB.cell HX.out.1
        have q1 := hB.cell HX.out.2.1
        have q2 := hB.cell HX.out.2.2.1
        have q3 := hB.cell HX.out.2.2.2
        have l0 := cell_lt q0
        have l1 := cell_lt q2
        have hB2 := HB0.out.trans hB
        by_cases hltk : k < t.ws.length
        · have hki : (k : Int) < (t.ws.length : Int) := by omega
          obtain ⟨e0, e1, e2, e3⟩ := HWC.out k hltk
          obtain ⟨f0, f1, f2, f3⟩ := HWC2.out k hltk
          replace e0 := hB2.cell e0
          replace e1 := hB2.cell e1
          replace e2 := hB2.cell e2
          replace e3 := hB2.cell e3
          replace f0 := hB2.cell f0
          replace f1 := hB2.cell f1
          replace f2 := hB2.cell f2
          replace f3 := hB2.cell f3
          have lb := cell_lt e0
          have lb2 := cell_lt f0
          have HB := Lib.hid hB
          clear hB hB2
          go_wp2
          refine wp_region_mixB (Plan.seq [0, 1, 2, 3, 4, 5, 6, 7, 8, 9, 10] .nil) (by kernel_rfl) (by kernel_rfl) (fun hcur => ?_)
          simp only [Plan.seq, Plan.fill, List.getD_cons_zero, List.getD_cons_succ, Nat.reduceLT, ↓reduceIte]
          apply mix_pure _ rfl
          · intro w' hw'
            have hcr := hw'.cells
            go_simp
            rfl
          intro K hK
          go_simp
          refine hK _ ?_
          clear hK K
          apply mix_pure _ rfl
          · intro w' hw'
            have hcr := hw'.cells
            go_simp
            rfl
          intro K hK
          go_simp
          refine hK _ ?_
          clear hK K
          apply mix_pure _ rfl
          · intro w' hw'
            have hcr := hw'.cells
            go_simp
            rfl
          intro K hK
          go_simp
          refine hK _ ?_
          clear hK K
          apply mix_pure _ rfl
          · intro w' hw'
            have hcr := hw'.cells
            go_simp
            rfl
          intro K hK
          go_simp
          refine hK _ ?_
          clear hK K
          apply mix_pure _ rfl
          · intro w' hw'
            have hcr := hw'.cells
            go_simp
            rfl
          intro K hK
          go_simp
          refine hK _ ?_
          clear hK K
          apply mix_pure _ rfl
          · intro w' hw'
            have hcr := hw'.cells
            go_simp
            rfl
          intro K hK
          go_simp
          refine hK _ ?_
          clear hK K
          apply mix_pure _ rfl
          · intro w' hw'
            have hcr := hw'.cells
            go_simp
            rfl
          intro K hK
          go_simp
          refine hK _ ?_
          clear hK K
          apply mix_pure _ rfl
          · intro w' hw'
            have hcr := hw'.cells
            go_simp
            rfl
          intro K hK
          go_simp
          refine hK _ ?_
          clear hK K
          apply mix_pure _ rfl
          · intro w' hw'
            have hcr := hw'.cells
            go_simp
            rfl
          intro K hK
          go_simp
          refine hK _ ?_
          clear hK K
          apply mix_pure _ rfl
          · intro w' hw'
            have hcr := hw'.cells
            go_simp
            rfl
          intro K hK
          go_simp
          refine hK _ ?_
          clear hK K
          apply mix_pure _ rfl
          · intro w' hw'
            have hcr := hw'.cells
            go_simp
            rfl
          intro K hK
          go_simp
          refine hK _ ?_
          clear hK K
          refine mix_nil ?_
          have HF := Lib.hid (HB.out.trans hcur)
          clear hcur q0 q1 q2 q3
          go_wp2
          go_roundw
          case rel => exact ⟨k + 1, by omega, by go_num, HF.out⟩
          case measure => simp [intOf]; omega
        · have hki : ¬ (k : Int) < (t.ws.length : Int) := by omega
          have HF := Lib.hid hB2
          clear hB hB2
          go_wp2
          go_ret
          exact ⟨rfl, HF.out⟩
end Go.Proofs.Ytoiajjdhgffdaaa

/-
  reference: Truth, as far as its error goes.
-/
import Derived.Test.YtoiajjdhgffdaaaDifference
import Derived.Test.YtoiajjdhgffdaaaTold
namespace Go.Proofs.Ytoiajjdhgffdaaa
open Go Go.RowKit
set_option maxHeartbeats 4000000
set_option maxRecDepth 100000
theorem RTruth_any (t : CT) (v : Value) (w : World) (hv : TrapAt w v t) : Calls Try.prog 67 #[v] w fun e w' => ∃ x, e = .returned (.tuple #[x, .int .i64 (errR t true)]) ∧ Bel w w' := by
  have HV := Lib.hid hv
  have HKN := Lib.hid (fun wx hx => known_any t v true wx hx)
  obtain ⟨ov, wv, rfl, ⟨a, cc, b, off, rv, rfl, _⟩, ⟨wa, wc, wb, woff, rfl, _⟩⟩ := hv
  by_cases he : errR t true = 0
  rotate_left
  · have hne : (errR t true != 0) = true := by rw [bne_iff_ne]; exact he
    clear he
    generalize errR t true = er at *
    go_enter Try.func67, Try.ntmps67
    go_wp2_with fail
    refine (HKN.out _ (HV.out.bel (by repeat (first | assumption | exact Bel.refl _ | refine Bel.drew ?_ | refine Bel.drewN ?_ _ | refine Bel.alloc ?_ _ | refine Bel.setCell ?_ (by simp <;> omega) _ | refine Bel.trans ?_ (by assumption))))).mono ?_
    rintro e w1 ⟨rfl, hb⟩
    have HB1 := Lib.hid (show Bel w w1 from Bel.trans (by repeat (first | assumption | exact Bel.refl _ | refine Bel.drew ?_ | refine Bel.drewN ?_ _ | refine Bel.alloc ?_ _ | refine Bel.setCell ?_ (by simp <;> omega) _ | refine Bel.trans ?_ (by assumption))) hb)
    clear hb
    go_wp2
    go_ret2
    exact ⟨_, rfl, HB1.out⟩
  obtain ⟨hval, _, hone⟩ := errR_zero he
  have hf := fit_of_valid hval
  have HVAL := Lib.hid hf
  have h9 := valid_nine hval
  obtain ⟨f1, f2, f3, f4, _, _⟩ := fit_of_valid hval
  have HONE := Lib.hid hone
  obtain ⟨i1, hi1, hz1, hs1, hb1⟩ := info_parts mkInt
  obtain ⟨i2, hi2, hz2, hs2, hb2⟩ := info_parts mkInts
  have HI1 := Lib.hid hi1
  have HI2 := Lib.hid hi2
  have HZ1 := Lib.hid hz1
  have HZ2 := Lib.hid hz2
  rw [he] at HKN ⊢
  clear hval hone hf he hi1 hi2 hz1 hz2
  go_enter Try.func67, Try.ntmps67
  go_wp2_with fail
  refine (HKN.out _ (HV.out.bel (by repeat (first | assumption | exact Bel.refl _ | refine Bel.drew ?_ | refine Bel.drewN ?_ _ | refine Bel.alloc ?_ _ | refine Bel.setCell ?_ (by simp <;> omega) _ | refine Bel.trans ?_ (by assumption))))).mono ?_
  rintro e w1 ⟨rfl, hb⟩
  have x0 : w1.cell? ⟨w.heap.size, 0, none⟩ = some (.int .i64 t.C) := hb.cell ((row_facts (new_row rfl)).1 0)
  have x1 : w1.cell? ⟨w.heap.size, 1, none⟩ = some (.int .i64 t.T) := hb.cell ((row_facts (new_row rfl)).1 1)
  have x2 : w1.cell? ⟨w.heap.size, 2, none⟩ = some (.slice a t.op.length cc) := hb.cell ((row_facts (new_row rfl)).1 2)
  have x3 : w1.cell? ⟨w.heap.size, 3, none⟩ = some (.slice wa t.ws.length wc) := hb.cell ((row_facts (new_row rfl)).1 3)
  have HB1 := Lib.hid (show Bel w w1 from Bel.trans (by repeat (first | assumption | exact Bel.refl _ | refine Bel.drew ?_ | refine Bel.drewN ?_ _ | refine Bel.alloc ?_ _ | refine Bel.setCell ?_ (by simp <;> omega) _ | refine Bel.trans ?_ (by assumption))) hb)
  have HX := Lib.hid (And.intro x0 (And.intro x1 (And.intro x2 x3)))
  clear hb
  go_wp2_with fail
  refine (free_any t _ _ (HV.out.bel HB1.out) f1 f2 f3 f4).mono ?_
  rintro e w2 ⟨s, rfl, hb, ob, cap, rb, rfl, hSp⟩
  have HSP := Lib.hid hSp
  have HB2 := Lib.hid hb
  replace x0 := hb.cell x0
  replace x1 := hb.cell x1
  replace x2 := hb.cell x2
  replace x3 := hb.cell x3
  clear hb hSp
  go_wp2_with fail
  refine (settle_any t _ _ _ _ ob cap rb f0 (f40 t.C) (HV.out.bel HB1.out) HB2.out (Nat.le_refl _) HVAL.out h9 HSP.out free_ok).mono ?_
  rintro e w3 ⟨bb, lo, hi, rfl, hM, hst⟩
  have hs1' : Sat t (-1) lo := by
    rcases hst with ⟨_, s1, _⟩ | ⟨_, hk⟩
    · exact s1
    · obtain ⟨y, hy⟩ := HONE.out; exact absurd ⟨y, hy, free_in hy⟩ hk
  have HLB := Lib.hid (fun i (hi : i < t.T.toNat) c (hc : c ≤ t.C.toNat) => hs1'.bounds i hi c hc)
  have HS3 := Lib.hid hM.sp
  have HB3 := Lib.hid hM.bel
  have hixo := idxSpans (c := cap) (n := t.T.toNat) (b := ob) (off := 0) (a := some ⟨ob, 0, none⟩) (fun _ => rfl)
  have hixi := fun (q : Nat) => idxSpan (c := t.C.toNat + 1) (n := t.C.toNat + 1) (b := rb q) (off := 0) (a := some ⟨rb q, 0, none⟩) (fun _ => rfl)
  clear hM hst hs1' x0 x1 x2 x3
  go_wp2
  go_loopw [6, 7] (fun V i wr => ∃ (n : Nat) (vs : List Value), n ≤ t.T.toNat ∧ i = .int .i64 n ∧ wr.ownsRow 0 42 1 V n vs ∧ (∀ g, V.ownBlock = some g → w3.heap.size ≤ g) ∧ Bel w3 wr) (fun _ i _ => t.T.toNat - (intOf i).toNat)
  case atStart => exact ⟨0, [], by omega, rfl, World.ownsRow_nil w3 0 _ 1, fun g h => by simp [Value.ownBlock] at h, Bel.refl _⟩
  case round =>
    obtain ⟨n, vs, hn, rfl, hV, hfar, hB⟩ := hrel
    have HVV := Lib.hid hV
    have HFV := Lib.hid hfar
    have HBV := Lib.hid hB
    clear hV hfar hB
    have x1 := (HB3.out.trans HBV.out).cell HX.out.2.1
    by_cases hlt : n < t.T.toNat
    · have hni : (n : Int) < t.T := by omega
      have hnT : (n : Int) < ((t.T.toNat : Nat) : Int) := by omega
      go_wp2
      clear x1
      rename World => wo
      go_loopw [8, 9] (fun L c wi => ∃ (k : Nat) (us : List Value), k ≤ t.C.toNat ∧ c = .int .i64 k ∧ wi.ownsRow 0 3 1 L k us ∧ (∀ g, L.ownBlock = some g → wo.heap.size ≤ g) ∧ Bel wo wi) (fun _ c _ => t.C.toNat - (intOf c).toNat)
      case atStart => exact ⟨0, [], by omega, rfl, World.ownsRow_nil wo 0 _ 1, fun g h => by simp [Value.ownBlock] at h, Bel.refl _⟩
      case round =>
        obtain ⟨k, us, hk, rfl, hL, hfar, hB⟩ := hrel
        have HL := Lib.hid hL
        have HFL := Lib.hid hfar
        have HBL := Lib.hid hB
        clear hL hfar hB
        have x0 := (HB3.out.trans (HBV.out.trans HBL.out)).cell HX.out.1
        by_cases hltk : k < t.C.toNat
        · have hki : (k : Int) < t.C := by omega
          have o1 := HBV.out.cell (HS3.out.out n hlt)
          have c1 := HBV.out.cell ((HS3.out.row n hlt).lo k (by omega))
          have c2 := HBV.out.cell ((HS3.out.row n hlt).lo (k + 1) (by omega))
          have lo1 := cell_lt o1
          have lc1 := cell_lt c1
          have hk1 : k < t.C.toNat + 1 := by omega
          have hk2 : (k : Int) < ((t.C.toNat + 1 : Nat) : Int) := by omega
          have hixk := fun wx => hixi n wx k hk1
          have hixk1 : ∀ wx, (Instr.indexAt 56 (.slice (some ⟨rb n, 0, none⟩) (t.C.toNat + 1) (t.C.toNat + 1)) (.int .i64 ((k : Int) + 1))).run Try.prog wx = .ok (.pointer (some ⟨rb n, (k + 1) * 2, none⟩)) wx := fun wx => by
            have := hixi n wx (k + 1) (by omega)
            simpa using this
          obtain ⟨g1, g2⟩ := HLB.out n hlt k (by omega)
          obtain ⟨g3, g4⟩ := HLB.out n hlt (k + 1) (by omega)
          generalize lo n k = p at *
          generalize lo n (k + 1) = q at *
          go_wp2
          clear x0
          refine wp_region_mixC (Plan.seq [0, 1, 2, 3, 4, 5, 6, 7, 8, 9, 10, 11, 12, 13, 14, 15, 16, 17, 18, 1019, 1020, 21] .nil) (Bel wo) (by kernel_rfl) (by kernel_rfl) (HBL.out.drew) (fun hcur => ?_)
          simp only [Plan.seq, Plan.fill, List.getD_cons_zero, List.getD_cons_succ, Nat.reduceLT, ↓reduceIte, Nat.reduceSub]
          apply mix_pure _ rfl
          · intro w' hw'
            have hcr := hw'.cells
            go_simp
            rfl
          intro K hK
          go_simp
          refine hK _ ?_
          clear hK K
          apply mix_pure _ rfl
          · intro w' hw'
            have hcr := hw'.cells
            go_simp
            rfl
          intro K hK
          go_simp
          refine hK _ ?_
          clear hK K
          apply mix_pure _ rfl
          · intro w' hw'
            have hcr := hw'.cells
            go_simp
            rfl
          intro K hK
          go_simp
          refine hK _ ?_
          clear hK K
          apply mix_pure _ rfl
          · intro w' hw'
            have hcr := hw'.cells
            go_simp
            rfl
          intro K hK
          go_simp
          refine hK _ ?_
          clear hK K
          apply mix_pure _ rfl
          · intro w' hw'
            have hcr := hw'.cells
            go_simp
            rfl
          intro K hK
          go_simp
          refine hK _ ?_
          clear hK K
          apply mix_pure _ rfl
          · intro w' hw'
            have hcr := hw'.cells
            go_simp
            rfl
          intro K hK
          go_simp
          refine hK _ ?_
          clear hK K
          apply mix_pure _ rfl
          · intro w' hw'
            have hcr := hw'.cells
            go_simp
            rfl
          intro K hK
          go_simp
          refine hK _ ?_
          clear hK K
          apply mix_pure _ rfl
          · intro w' hw'
            have hcr := hw'.cells
            go_simp
            rfl
          intro K hK
          go_simp
          refine hK _ ?_
          clear hK K
          apply mix_pure _ rfl
          · intro w' hw'
            have hcr := hw'.cells
            go_simp
            rfl
          intro K hK
          go_simp
          refine hK _ ?_
          clear hK K
          apply mix_pure _ rfl
          · intro w' hw'
            have hcr := hw'.cells
            go_simp
            rfl
          intro K hK
          go_simp
          refine hK _ ?_
          clear hK K
          apply mix_pure _ rfl
          · intro w' hw'
            have hcr := hw'.cells
            go_simp
            rfl
          intro K hK
          go_simp
          refine hK _ ?_
          clear hK K
          apply mix_pure _ rfl
          · intro w' hw'
            have hcr := hw'.cells
            go_simp
            rfl
          intro K hK
          go_simp
          refine hK _ ?_
          clear hK K
          apply mix_pure _ rfl
          · intro w' hw'
            have hcr := hw'.cells
            go_simp
            rfl
          intro K hK
          go_simp
          refine hK _ ?_
          clear hK K
          apply mix_pure _ rfl
          · intro w' hw'
            have hcr := hw'.cells
            go_simp
            rfl
          intro K hK
          go_simp
          refine hK _ ?_
          clear hK K
          apply mix_pure _ rfl
          · intro w' hw'
            have hcr := hw'.cells
            go_simp
            first | (rw [IntWalk.i64_in]; all_goals first | omega | rfl) | rfl
          intro K hK
          go_simp
          refine hK _ ?_
          clear hK K
          apply mix_pure _ rfl
          · intro w' hw'
            have hcr := hw'.cells
            go_simp
            rfl
          intro K hK
          go_simp
          refine hK _ ?_
          clear hK K
          apply mix_pure _ rfl
          · intro w' hw'
            have hcr := hw'.cells
            go_simp
            rfl
          intro K hK
          go_simp
          refine hK _ ?_
          clear hK K
          apply mix_pure _ rfl
          · intro w' hw'
            have hcr := hw'.cells
            go_simp
            rfl
          intro K hK
          go_simp
          refine hK _ ?_
          clear hK K
          apply mix_pure _ rfl
          · intro w' hw'
            have hcr := hw'.cells
            go_simp
            first | (rw [IntWalk.i64_in]; all_goals first | omega | rfl) | rfl
          intro K hK
          go_simp
          refine hK _ ?_
          clear hK K
          refine mix_act rfl (fun K hK => ?_)
          go_simp
          refine hK _ _ (by repeat (first | assumption | exact Bel.refl _ | refine Bel.drew ?_ | refine Bel.drewN ?_ _ | refine Bel.alloc ?_ _ | refine Bel.setCell ?_ (by simp <;> omega) _ | refine Bel.trans ?_ (by assumption))) (fun hcur => ?_)
          clear hK K
          refine mix_act rfl (fun K hK => ?_)
          refine wp_append_where _ _ 42 (by rfl) 3 i1 (.int .i64 0) 1 8 Try.underlying42 HI1.out HZ1.out hs1 hb1 rfl (by decide) _ k us (by rfl) (ownsRow_bel HL.out (show Bel wr _ from (by repeat (first | assumption | exact Bel.refl _ | refine Bel.drew ?_ | refine Bel.drewN ?_ _ | refine Bel.alloc ?_ _ | refine Bel.setCell ?_ (by simp <;> omega) _ | refine Bel.trans ?_ (by assumption))))) ⟨wr.heap.size, 0, none⟩ 1 1 [.int .i64 (p - q)] (by rfl) rfl (fun j u hu => by rw [add_off, (row_facts (new_blk rfl)).1]; simpa using hu) (fun y hy => by simp at hy; subst hy; rfl) (by unfold maxLen; omega) (by omega) ?_
          intro L' w5 hown5 hgrow5 hwhere5
          have HO5 := Lib.hid hown5
          have HB5 := Lib.hid (show Bel wo w5 from Bel.grown (w := World.drew _) (HBL.out.trans (by repeat (first | assumption | exact Bel.refl _ | refine Bel.drew ?_ | refine Bel.drewN ?_ _ | refine Bel.alloc ?_ _ | refine Bel.setCell ?_ (by simp <;> omega) _ | refine Bel.trans ?_ (by assumption)))) hgrow5 (fun g e => HFL.out g e))
          have HF5 := Lib.hid (show ∀ g, L'.ownBlock = some g → wo.heap.size ≤ g from fun g e => by
            rcases hwhere5 with h | h
            · exact HFL.out g (by rw [← h]; exact e)
            · rw [h] at e; injection e with e; have := HBL.out.szle; (try simp at e); omega)
          refine hK _ _ HB5.out (fun hcur => ?_)
          clear hK K hown5 hgrow5 hwhere5
          apply mix_pure _ rfl
          · intro w' hw'
            have hcr := hw'.cells
            go_simp
            rfl
          intro K hK
          go_simp
          refine hK _ ?_
          clear hK K
          refine mix_nil ?_
          clear hcur
          go_wp2
          go_roundw
          case rel => exact ⟨k + 1, _, by omega, by go_num, HO5.out, HF5.out, HB5.out⟩
          case measure => simp [intOf]; omega
        · have hkC : k = t.C.toNat := by omega
          subst hkC
          obtain ⟨gx, capx, rfl⟩ : ∃ g cap, u8 = .slice (some ⟨g, 0, none⟩) t.C.toNat cap := by
            rcases HL.out.2 with ⟨_, h0⟩ | ⟨g, cap, cur, rfl, _⟩
            · omega
            · exact ⟨g, cap, rfl⟩
          go_wp2_with (at_builtin; refine wpList_append_where rfl _ _ 22 rfl 42 i2 (.slice none 0 0) 1 24 Try.underlying22 HI2.out HZ2.out hs2 hb2 rfl (by decide) _ n vs rfl (ownsRow_bel HVV.out (HBL.out.alloc _)) ⟨wr.heap.size, 0, none⟩ 1 1 [.slice (some ⟨gx, 0, none⟩) t.C.toNat capx] rfl rfl (cell_one_new _ _ _) (fun y hy => by simp at hy; subst hy; rfl) (by unfold maxLen; omega) (by omega) ?_)
          intro V' w5 hown5 hgrow5 hwhere5
          have HO5 := Lib.hid hown5
          have HB5 := Lib.hid (((HBV.out.trans HBL.out).alloc _).grown hgrow5 (fun g e => HFV.out g e))
          have HF5 := Lib.hid (show ∀ g, V'.ownBlock = some g → w3.heap.size ≤ g from fun g e => by
            rcases hwhere5 with h | h
            · exact HFV.out g (by rw [← h]; exact e)
            · rw [h] at e; injection e with e; have := (HBV.out.trans HBL.out).szle; (try simp at e); omega)
          clear hown5 hgrow5 hwhere5
          go_wp2
          go_roundw
          case rel => exact ⟨n + 1, _, by omega, by go_num, HO5.out, HF5.out, HB5.out⟩
          case measure => simp [intOf]; omega
    · have x1' := x1
      have HBF := Lib.hid (HB1.out.trans (HB3.out.trans HBV.out))
      go_wp2
      go_ret2
      exact ⟨_, rfl, HBF.out⟩
end Go.Proofs.Ytoiajjdhgffdaaa

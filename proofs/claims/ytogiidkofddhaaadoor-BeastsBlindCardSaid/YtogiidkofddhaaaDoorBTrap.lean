/-
  beasts: Trapped.
-/
import Derived.Test.YtogiidkofddhaaaDoorBPaid
namespace Go.Proofs.YtogiidkofddhaaaDoor
open Go Go.RowKit Go.Shelf
set_option maxHeartbeats 4000000
set_option maxRecDepth 100000
/-- The chambers below k out of which there is no way. -/
noncomputable def trTo (b : BT) : Nat → List Int
  | 0 => []
  | k + 1 => if (opt b true 1048576 1 (bitP (k : Int))).isSome then trTo b k else trTo b k ++ [(k : Int)]
theorem trTo_len {b : BT} : ∀ k, (trTo b k).length ≤ k
  | 0 => Nat.le_refl _
  | k + 1 => by
    have := trTo_len (b := b) k
    unfold trTo
    split
    · omega
    · simp; omega
/-- The answer of Trapped. -/
noncomputable def trapA (b : BT) : List Int := if validT b then trTo b b.n.toNat else []
theorem Trapped_any (b : BT) (v : Value) (w : World) (hf : FarAt w) (hv : BTrapAt w v b) :
    Calls Tryd.prog 43 #[v] w fun e w' => ∃ V, e = .returned (.tuple #[V, .int .i64 (chkT b)]) ∧ IntsAt w' V (trapA b) ∧ Bel w w' := by
  have HV := Lib.hid hv
  have HC := Lib.hid (fun wx (hx : Bel w wx) => bCheck_any b v wx (hv.bel hx))
  obtain ⟨dv, sv, pv, rfl, hd, hs, hp⟩ := hv
  have HSTART := Lib.hid (fun hval wx (hx : Bel w wx) => start_any b hval dv sv pv true wx (hf.bel hx) (HV.out.bel hx))
  have HFR := Lib.hid (fun wx (hx : Bel w wx) => hf.bel hx)
  obtain ⟨pa, pc, pb, poff, rfl, _, ⟨hpl, _⟩, _⟩ := hp
  have hdv : ∃ da dn dc, dv = .slice da dn dc := by obtain ⟨da, dc, db, doff, rfl, _⟩ := hd; exact ⟨_, _, _, rfl⟩
  have hsv : ∃ sa sn sc, sv = .slice sa sn sc := by obtain ⟨sa, sc, sb, soff, rfl, _⟩ := hs; exact ⟨_, _, _, rfl⟩
  obtain ⟨da, dn, dc, rfl⟩ := hdv
  obtain ⟨sa, sn, sc, rfl⟩ := hsv
  have HBX := Lib.hid (fun wx hx => (BoxB.new (w := w) (b := b) (dv := .slice da dn dc) (sv := .slice sa sn sc) (pv := .slice pa b.places.length pc) (T := 25)).bel (w' := wx) hx)
  clear hd hs hf
  cases hval : validT b
  · have E1 := Lib.hid (show trapA b = [] by unfold trapA; rw [hval]; rfl)
    rw [chkT_false hval] at HC ⊢
    clear hval
    go_enter Tryd.func43, Tryd.ntmps43
    go_wp2_with (go_at_call 54; refine (HC.out _ (by repeat (first | assumption | exact Bel.refl _ | refine Bel.drew ?_ | refine Bel.drewN ?_ _ | refine Bel.alloc ?_ _ | refine Bel.setCell ?_ (by simp <;> omega) _ | refine Bel.trans ?_ (by assumption)))).mono ?_; rintro e w1 ⟨rfl, hb⟩)
    exact bodyPost_ret (v := .tuple #[.slice none 0 0, .int .i64 60]) (by simp [results, Tryd.results43, go_sem]) rfl ⟨_, rfl, by rw [E1.out]; exact IntsAt.nil _, (by repeat (first | assumption | exact Bel.refl _ | refine Bel.drew ?_ | refine Bel.drewN ?_ _ | refine Bel.alloc ?_ _ | refine Bel.setCell ?_ (by simp <;> omega) _ | refine Bel.trans ?_ (by assumption)))⟩
  rw [chkT_true hval] at HC ⊢
  have hok := okb_iff.1 hval
  have E1 := Lib.hid (show trapA b = trTo b b.n.toNat by unfold trapA; rw [hval]; rfl)
  have HST := Lib.hid (fun wx hx => HSTART.out hval wx hx)
  obtain ⟨i1, hi1, hz1, hs1, hb1⟩ := info_parts mkInt
  have HI1 := Lib.hid hi1
  have HZ1 := Lib.hid hz1
  have hn1 := hok.n1
  have hn2 := hok.n2
  have hni : ((b.n.toNat : Nat) : Int) = b.n := by omega
  have HOK := Lib.hid hok
  clear hval HSTART hi1 hz1 hok
  go_enter Tryd.func43, Tryd.ntmps43
  go_wp2_with (first
    | (go_at_call 54; refine (HC.out _ (by repeat (first | assumption | exact Bel.refl _ | refine Bel.drew ?_ | refine Bel.drewN ?_ _ | refine Bel.alloc ?_ _ | refine Bel.setCell ?_ (by simp <;> omega) _ | refine Bel.trans ?_ (by assumption)))).mono ?_; rintro e w1 ⟨rfl, hb⟩; have HBB := Lib.hid hb; have y := HBX.out _ hb; obtain ⟨x0, x1, x2, x3, x4, x5⟩ := y; have l0 := cell_lt x0; have HB1 := Lib.hid (show Bel w w1 from Bel.trans (by repeat (first | assumption | exact Bel.refl _ | refine Bel.drew ?_ | refine Bel.drewN ?_ _ | refine Bel.alloc ?_ _ | refine Bel.setCell ?_ (by simp <;> omega) _ | refine Bel.trans ?_ (by assumption))) hb); clear hb)
    | (go_at_call 88; refine (HST.out _ HB1.out).mono ?_; rintro e w2 ⟨hb, mb, pr, rfl, _, _, hh, hm, hi, hfx, hb2⟩; have HH := Lib.hid hh; have HM := Lib.hid hm; have HI := Lib.hid hi; have HX := Lib.hid hfx; replace x0 := hb2.cell x0; have l0 := cell_lt x0; have HB2 := Lib.hid (HB1.out.trans hb2); clear hb2 hh hm hi hfx))
  clear x0 x1 x2 x3 x4 x5 l0
  go_loopw [6, 17] (fun V vi wr => ∃ k : Nat, k ≤ b.n.toNat ∧ vi = .int .i64 k ∧ IntSt (trTo b k) w2 V wr) (fun _ vi _ => b.n.toNat - (intOf vi).toNat)
  case atStart => exact ⟨0, by omega, rfl, IntSt.start w2⟩
  case round =>
    obtain ⟨k, hk, rfl, hst⟩ := hrel
    have HST2 := Lib.hid hst
    by_cases hlt : k < b.n.toNat
    · have hlti : (k : Int) < b.n := by omega
      have hl5 := trTo_len (b := b) k
      have hD : Dom b (bitP (k : Int)) := dom_bitP HOK.out (by omega) (by omega)
      have HOP := Lib.hid (pr_opt HOK.out HI.out HX.out hD)
      have HOF1 := Lib.hid (fun vx wx (hx : IntsAt wx vx [(k : Int)]) => (of_any vx [(k : Int)] wx hx (fun j hj => by
        have : j = 0 := by simp at hj; omega
        subst this
        show -1 ≤ (k : Int) ∧ (k : Int) ≤ 6
        omega)).mono (R' := fun e w' => e = .returned (.int .u8 (bitP (k : Int) : Int)) ∧ Bel wx w') fun e w' h => ⟨by rw [h.1, ofL_one], h.2⟩)
      obtain ⟨f0, f1⟩ := HFR.out _ (HB2.out.trans hst.bel)
      have lf := cell_lt f0
      have HSU := Lib.hid (show trTo b (k + 1) = if (opt b true 1048576 1 (bitP (k : Int))).isSome then trTo b k else trTo b k ++ [(k : Int)] from rfl)
      cases ho : opt b true 1048576 1 (bitP (k : Int)) with
      | none =>
        have hopn : ofP pr (bitP (k : Int)) = (1073741824, 1073741824) := by unfold ofP; rw [HOP.out]; unfold optP; rw [ho]; rfl
        have HHO := Lib.hid (fun wx (hx : Bel wr wx) => (hof_any hb mb (bitP (k : Int)) b (.slice da dn dc) (.slice sa sn sc) (.slice pa b.places.length pc) true pr wx (HFR.out _ (HB2.out.trans (HST2.out.bel.trans hx))) (HH.out.bel (HST2.out.bel.trans hx)) (HM.out.bel (HST2.out.bel.trans hx))).mono (R' := fun e w' => e = .returned (.agg #[.int .i64 1073741824, .int .i64 1073741824]) ∧ Bel wx w') (fun e w' h => ⟨by rw [h.1, hopn], h.2⟩))
        have HN := Lib.hid (show trTo b (k + 1) = trTo b k ++ [(k : Int)] by rw [HSU.out, ho]; rfl)
        clear hst hD HOP hopn ho HSU
        generalize bitP (k : Int) = bc at *
        go_wp2
        refine wp_region_mixB (Plan.seq [0, 1, 5, 1002, 1003, 1004, 6] .nil) (by kernel_rfl) (by kernel_rfl) (fun hcur => ?_)
        simp only [Plan.seq, Plan.fill, List.getD_cons_zero, List.getD_cons_succ, Nat.reduceLT, ↓reduceIte, Nat.reduceSub]
        apply mix_pure _ rfl
        · intro w' hw'
          have hcr := hw'.cells
          go_simp
          rfl
        intro K hK
        go_simp
        refine hK _ ?_
        clear hK K
        apply mix_pure _ rfl
        · intro w' hw'
          have hcr := hw'.cells
          go_simp
          rfl
        intro K hK
        go_simp
        refine hK _ ?_
        clear hK K
        apply mix_pure _ rfl
        · intro w' hw'
          have hcr := hw'.cells
          go_simp
          rfl
        intro K hK
        go_simp
        refine hK _ ?_
        clear hK K
        refine mix_act rfl (fun K hK => ?_)
        go_simp
        refine hK _ _ (by repeat (first | assumption | exact Bel.refl _ | refine Bel.drew ?_ | refine Bel.drewN ?_ _ | refine Bel.alloc ?_ _ | refine Bel.setCell ?_ (by simp <;> omega) _ | refine Bel.trans ?_ (by assumption))) (fun hcur => ?_)
        clear hK K
        refine mix_act rfl (fun K hK => ?_)
        go_simp
        refine (HOF1.out _ _ (one_ints.bel (Bel.drew (Bel.refl _)))).mono ?_
        rintro e w5 ⟨rfl, hb⟩
        have hcr5 := hb.cells
        simp only []
        refine hK _ _ (hcur.trans hb) (fun hcur => ?_)
        clear hK K hb hcr5
        refine mix_act rfl (fun K hK => ?_)
        go_simp
        refine (HHO.out _ hcur).mono ?_
        rintro e w6 ⟨rfl, hb⟩
        simp only []
        refine hK _ _ (hcur.trans hb) (fun hcur => ?_)
        clear hK K hb
        apply mix_pure _ rfl
        · intro w' hw'
          have hcr := hw'.cells
          go_simp
          rfl
        intro K hK
        go_simp
        refine hK _ ?_
        clear hK K
        refine mix_nil ?_
        have HST6 := Lib.hid (HST2.out.keep hcur)
        clear hcur f0 f1 lf
        go_wp2_with (at_builtin; refine wpList_append_where rfl _ _ 23 rfl 3 i1 (.int .i64 0) 1 8 Tryd.underlying23 HI1.out HZ1.out hs1 hb1 rfl (by decide) _ (trTo b k).length ((trTo b k).map (Value.int .i64)) rfl (ownsRow_bel HST6.out.own ((Bel.refl w6).alloc _)) ⟨w6.heap.size, 0, none⟩ 1 1 [.int .i64 (k : Int)] rfl rfl (cell_one_new _ _ _) (fun y hy => by simp at hy; subst hy; rfl) (by unfold maxLen; omega) (by omega) ?_; intro V' w7 hown hgrow hwhere)
        have HST7 := Lib.hid ((HST6.out.keep ((Bel.refl w6).alloc _)).next (x := (k : Int)) hown hgrow hwhere)
        clear hown hgrow hwhere
        go_wp2
        go_roundw
        case rel => exact ⟨k + 1, by omega, by go_num, by rw [HN.out]; exact HST7.out⟩
        case measure => simp [intOf]; omega
      | some u =>
        have hops : pr (bitP (k : Int)) = some (decP u) := by rw [HOP.out]; unfold optP; rw [ho]; rfl
        obtain ⟨_, p2, p3⟩ := HI.out.small hops
        have hopn : ofP pr (bitP (k : Int)) = decP u := by unfold ofP; rw [hops]; rfl
        have HHO := Lib.hid (fun wx (hx : Bel wr wx) => (hof_any hb mb (bitP (k : Int)) b (.slice da dn dc) (.slice sa sn sc) (.slice pa b.places.length pc) true pr wx (HFR.out _ (HB2.out.trans (HST2.out.bel.trans hx))) (HH.out.bel (HST2.out.bel.trans hx)) (HM.out.bel (HST2.out.bel.trans hx))).mono (R' := fun e w' => e = .returned (.agg #[.int .i64 (decP u).1, .int .i64 (decP u).2]) ∧ Bel wx w') (fun e w' h => ⟨by rw [h.1, hopn], h.2⟩))
        have HN := Lib.hid (show trTo b (k + 1) = trTo b k by rw [HSU.out, ho]; rfl)
        generalize decP u = p at *
        have hne : (p.1 == 1073741824) = false := by rw [beq_eq_false_iff_ne]; omega
        clear hst hD HOP hopn hops ho HSU
        generalize bitP (k : Int) = bc at *
        go_wp2
        refine wp_region_mixB (Plan.seq [0, 1, 5, 1002, 1003, 1004, 6] .nil) (by kernel_rfl) (by kernel_rfl) (fun hcur => ?_)
        simp only [Plan.seq, Plan.fill, List.getD_cons_zero, List.getD_cons_succ, Nat.reduceLT, ↓reduceIte, Nat.reduceSub]
        apply mix_pure _ rfl
        · intro w' hw'
          have hcr := hw'.cells
          go_simp
          rfl
        intro K hK
        go_simp
        refine hK _ ?_
        clear hK K
        apply mix_pure _ rfl
        · intro w' hw'
          have hcr := hw'.cells
          go_simp
          rfl
        intro K hK
        go_simp
        refine hK _ ?_
        clear hK K
        apply mix_pure _ rfl
        · intro w' hw'
          have hcr := hw'.cells
          go_simp
          rfl
        intro K hK
        go_simp
        refine hK _ ?_
        clear hK K
        refine mix_act rfl (fun K hK => ?_)
        go_simp
        refine hK _ _ (by repeat (first | assumption | exact Bel.refl _ | refine Bel.drew ?_ | refine Bel.drewN ?_ _ | refine Bel.alloc ?_ _ | refine Bel.setCell ?_ (by simp <;> omega) _ | refine Bel.trans ?_ (by assumption))) (fun hcur => ?_)
        clear hK K
        refine mix_act rfl (fun K hK => ?_)
        go_simp
        refine (HOF1.out _ _ (one_ints.bel (Bel.drew (Bel.refl _)))).mono ?_
        rintro e w5 ⟨rfl, hb⟩
        have hcr5 := hb.cells
        simp only []
        refine hK _ _ (hcur.trans hb) (fun hcur => ?_)
        clear hK K hb hcr5
        refine mix_act rfl (fun K hK => ?_)
        go_simp
        refine (HHO.out _ hcur).mono ?_
        rintro e w6 ⟨rfl, hb⟩
        simp only []
        refine hK _ _ (hcur.trans hb) (fun hcur => ?_)
        clear hK K hb
        apply mix_pure _ rfl
        · intro w' hw'
          have hcr := hw'.cells
          go_simp
          rfl
        intro K hK
        go_simp
        refine hK _ ?_
        clear hK K
        refine mix_nil ?_
        have HST6 := Lib.hid (HST2.out.keep hcur)
        clear hcur f0 f1 lf
        go_wp2
        go_roundw
        case rel => exact ⟨k + 1, by omega, by go_num, by rw [HN.out]; exact HST6.out⟩
        case measure => simp [intOf]; omega
    · have hkk : k = b.n.toNat := by omega
      subst hkk
      have hl5 := trTo_len (b := b) b.n.toNat
      clear hst
      go_wp2
      exact bodyPost_ret (v := .tuple #[u6, .int .i64 0]) (by simp [results, Tryd.results43, go_sem]) rfl ⟨_, rfl, by rw [E1.out]; exact ownInts (by omega) HST2.out.own, HB2.out.trans HST2.out.bel⟩
end Go.Proofs.YtogiidkofddhaaaDoor

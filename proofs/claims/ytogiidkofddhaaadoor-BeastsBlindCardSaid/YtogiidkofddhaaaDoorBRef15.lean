/-
  beasts: the reference's Path, Paid.
-/
import Derived.Test.YtogiidkofddhaaaDoorBRef13
import Derived.Test.YtogiidkofddhaaaDoorBPaid
namespace Go.Proofs.YtogiidkofddhaaaDoor
set_option linter.unusedVariables false
open Go Go.RowKit Go.Shelf
set_option maxHeartbeats 8000000
set_option maxRecDepth 100000
/-- What holds in every world that keeps the blocks from n on. -/
def NewIn (n : Nat) (w : World) (p : World → Prop) : Prop := ∀ w', w.heap.size ≤ w'.heap.size → (∀ k, n ≤ k → k < w.heap.size → w'.heap[k]? = w.heap[k]?) → p w'
theorem NewIn.now {n : Nat} {w : World} {p : World → Prop} (h : NewIn n w p) : p w := h w (Nat.le_refl _) fun _ _ _ => rfl
theorem NewIn.bel {n : Nat} {w w' : World} {p : World → Prop} (h : NewIn n w p) (k : Bel w w') : NewIn n w' p := fun w2 hs hk =>
  h w2 (Nat.le_trans k.szle hs) fun j hn hj => by rw [hk j hn (Nat.lt_of_lt_of_le hj k.szle), k.below.block j hj]
theorem NewIn.less {n m : Nat} {w : World} {p : World → Prop} (h : NewIn n w p) (k : m ≤ n) : NewIn m w p := fun w2 hs hk => h w2 hs fun j hn hj => hk j (by omega) hj
theorem NewIn.off {n : Nat} {w : World} {v : Value} {p : World → Prop} (h : NewIn n w p) (hv : ∀ g, v.ownBlock = some g → g < n) : Off w v p := fun w2 hs hk =>
  h w2 hs fun j hn hj => hk j hj fun q => by have := hv j q.symm; omega
theorem NewIn.own {n : Nat} {w : World} {x : Value} {l : List Int} (hl : l.length ≤ 140737488355328) (hx : w.ownsRow 0 3 1 x l.length (l.map (Value.int .i64))) (hf : ∀ g, x.ownBlock = some g → n ≤ g) : NewIn n w fun w' => IntsAt w' x l :=
  fun w2 hs hk => ownInts hl (own_keep hx fun g hg => hk g (hf g hg) (own_lt hx hg))
/-- Rows whose numbers lie in memory from block n on. -/
def RowsN (n : Nat) (w : World) (v : Value) (l : List (List Int)) : Prop :=
  ∃ a c b off, ∃ (rv : Nat → Value), v = .slice a l.length c ∧ (0 < l.length → a = some ⟨b, off, none⟩) ∧ l.length ≤ 140737488355328 ∧
    ∀ i, i < l.length → w.cell? ⟨b, off + i, none⟩ = some (rv i) ∧ NewIn n w fun w' => IntsAt w' (rv i) (atL l i)
theorem RowsN.of {n : Nat} {w : World} {v : Value} {rows : List (List Int)} {vs : List Value} (h1 : w.ownsRow 0 23 1 v rows.length vs) (hl : rows.length ≤ 140737488355328)
    (h2 : ∀ j, j < rows.length → NewIn n w fun w' => IntsAt w' (vs.getD j undef) (atL rows j)) : RowsN n w v rows := by
  rcases h1.2 with ⟨rfl, h0⟩ | ⟨g, cap, cur, rfl, _, hg, hnc, hcm, hcs, htake⟩
  · have : rows = [] := List.eq_nil_of_length_eq_zero h0
    subst this
    exact ⟨none, 0, 0, 0, fun _ => undef, rfl, fun h => absurd h (by simp), by simp, fun i hi => absurd hi (by simp)⟩
  · refine ⟨some ⟨g, 0, none⟩, cap, g, 0, fun j => vs.getD j undef, rfl, fun _ => rfl, hl, fun j hj => ⟨?_, h2 j hj⟩⟩
    have := World.ownsRow.cellAt (h := h1) j (by omega)
    rw [Nat.zero_add, this]
    have hlen : j < vs.length := by have := h1.1; omega
    simp [List.getD, hlen]
theorem one_rowN {n : Nat} {w : World} {V : Value} {l : List Int} {T : TypeId} (h : NewIn n w fun w' => IntsAt w' V l) : RowsN n (w.alloc (.cells #[V] T)) (.slice (some ⟨w.heap.size, 0, none⟩) 1 1) [l] := by
  refine ⟨some ⟨w.heap.size, 0, none⟩, 1, w.heap.size, 0, fun _ => V, rfl, fun _ => rfl, by simp, fun i hi => ?_⟩
  have : i = 0 := by simpa using hi
  subst this
  exact ⟨(row_facts (new_row rfl)).1 0, h.bel ((Bel.refl w).alloc _)⟩
theorem OutN.first {n : Nat} {row : List Int} {w0 wa w' : World} {X V : Value} (hn : n ≤ w0.heap.size) (hb : Bel w0 wa) (hl : row.length ≤ 140737488355328) (hr : wa.ownsRow 0 3 1 V row.length (row.map (Value.int .i64)))
    (hf : ∀ g, V.ownBlock = some g → w0.heap.size ≤ g) (ho : w'.ownsRow 0 23 1 X (0 + 1) ([] ++ [V])) (hg : wa.grownBy w' (Value.slice none 0 0).ownBlock) : RowsN n w' X [row] ∧ Bel w0 w' := by
  refine ⟨RowsN.of (vs := [V]) ho (by simp) fun j hj => ?_, hb.grown hg fun k q => by simp [Value.ownBlock] at q⟩
  have : j = 0 := by simpa using hj
  subst this
  exact NewIn.own hl (own_keep hr fun g e => hg.block g (own_lt hr e) (by simp [Value.ownBlock])) fun g q => Nat.le_trans hn (hf g q)
def TwoOwn (L M : List Int) (w0 : World) (X V U : Value) (w' : World) : Prop := w'.ownsRow 0 23 1 X 1 [V] ∧ w'.ownsRow 0 3 1 V L.length (L.map (Value.int .i64)) ∧ w'.ownsRow 0 3 1 U M.length (M.map (Value.int .i64)) ∧
  (∀ g, X.ownBlock = some g → w0.heap.size ≤ g ∧ V.ownBlock ≠ some g ∧ U.ownBlock ≠ some g) ∧ Bel w0 w'
theorem OutN.both {L M : List Int} {w0 wr wa w' : World} {X V U : Value} (h : TwoSt L M w0 V U wr) (k : Bel wr wa)
    (ho : w'.ownsRow 0 23 1 X (0 + 1) ([] ++ [V])) (hg : wa.grownBy w' (Value.slice none 0 0).ownBlock) (hv : X.ownBlock = (Value.slice none 0 0).ownBlock ∨ X.ownBlock = some wa.heap.size) : TwoOwn L M w0 X V U w' := by
  have q1 := ownsRow_bel h.own1 k
  have q2 := ownsRow_bel h.own2 k
  refine ⟨ho, own_keep q1 fun g e => hg.block g (own_lt q1 e) (by simp [Value.ownBlock]), own_keep q2 fun g e => hg.block g (own_lt q2 e) (by simp [Value.ownBlock]), fun g e => ?_, (h.bel.trans k).grown hg fun j q => by simp [Value.ownBlock] at q⟩
  rcases hv with e3 | e3
  · rw [e3] at e; simp [Value.ownBlock] at e
  · rw [e3] at e
    injection e with e
    refine ⟨by have := (h.bel.trans k).szle; omega, fun e2 => ?_, fun e2 => ?_⟩
    · have := own_lt q1 e2; omega
    · have := own_lt q2 e2; omega
theorem OutN.two {n : Nat} {L M : List Int} {w0 wr w1 wa w' : World} {X X' V U : Value} (hn : n ≤ w0.heap.size) (h : TwoSt L M w0 V U wr) (h1 : TwoOwn L M w0 X V U w1) (k : Bel w1 wa) (hl : L.length ≤ 140737488355328) (hm : M.length ≤ 140737488355328)
    (ho : w'.ownsRow 0 23 1 X' (1 + 1) ([V] ++ [U])) (hg : wa.grownBy w' X.ownBlock) (_hv : X'.ownBlock = X.ownBlock ∨ X'.ownBlock = some wa.heap.size) : RowsN n w' X' ([L] ++ [M]) ∧ Bel w0 w' := by
  obtain ⟨a1, a2, a3, a4, a5⟩ := h1
  have q1 := ownsRow_bel a2 k
  have q2 := ownsRow_bel a3 k
  have r1 := own_keep q1 fun g e => hg.block g (own_lt q1 e) fun q => (a4 g q.symm).2.1 e
  have r2 := own_keep q2 fun g e => hg.block g (own_lt q2 e) fun q => (a4 g q.symm).2.2 e
  refine ⟨RowsN.of (vs := [V] ++ [U]) ho (by simp) fun j hj => ?_, (a5.trans k).grown hg fun g q => (a4 g q).1⟩
  have : j = 0 ∨ j = 1 := by simp at hj; omega
  rcases this with rfl | rfl
  · exact NewIn.own hl r1 fun g q => Nat.le_trans hn (h.far1 g q)
  · exact NewIn.own hm r2 fun g q => Nat.le_trans hn (h.far2 g q)
theorem R6PartsN_any (b : BT) (hval : validT b = true) (ps : List Int) (hps : ps.length ≤ 1000) (hin : ∀ p, p ∈ ps → -1 ≤ p ∧ p ≤ b.n - 1) (x : BS) (hx : IsStp b x) (v pv : Value) (w : World) (hv : BTrapAt w v b) (hp : IntsAt w pv ps) :
    Calls Tryd.prog 72 #[v, pv, .agg #[.int .i64 x.k, .int .i64 x.x]] w fun e w' => ∃ V, e = .returned V ∧ RowsN w.heap.size w' V (partsL b ps x) ∧ Bel w w' := by
  have HX := Lib.hid (show partsL b ps x = if x.k = 1 then [plOf (mvB (atD b.doors x.x.toNat) (ofL ps))] else neR (thL x.x ps) ++ neR (noL x.x ps) from rfl)
  have HM0 := Lib.hid (fun j hj wx (hx : Bel w wx) => R6MoveOf_any b hval ps hin j hj v pv wx (hv.bel hx) (hp.bel hx))
  obtain ⟨da, dc, sa, sc, pa, pc, rfl, _, _, _⟩ := hv.open
  obtain ⟨qa, qc, qb, qoff, rfl, hqa, ⟨hql, _⟩, hqc⟩ := hp
  clear hv hval hin
  rcases hx with ⟨e, g1, g2⟩ | ⟨e, g⟩
  · have b1 : (x.k == 1) = true := by simpa using e
    have HE := Lib.hid (HX.out.trans (if_pos e))
    obtain ⟨j, hj⟩ : ∃ j : Nat, x.x = j := ⟨x.x.toNat, by omega⟩
    have hj2 : j < b.doors.length := by omega
    rw [hj, Int.toNat_natCast] at HE
    rw [hj]
    have HM := Lib.hid (HM0.out j hj2)
    have HLN := Lib.hid (show (plOf (mvB (atD b.doors j) (ofL ps))).length ≤ 140737488355328 by have := plTo_len (m := mvB (atD b.doors j) (ofL ps)) 8; unfold plOf; omega)
    generalize plOf (mvB (atD b.doors j) (ofL ps)) = L at *
    rw [HE.out]
    clear e g1 g2 hj HX HM0 HE hqa hqc
    go_enter Tryd.func72, Tryd.ntmps72
    go_wp2_with fail
    refine (HM.out _ (by repeat (first | assumption | exact Bel.refl _ | refine Bel.drew ?_ | refine Bel.drewN ?_ _ | refine Bel.alloc ?_ _ | refine Bel.setCell ?_ (by simp <;> omega) _ | refine Bel.trans ?_ (by assumption)))).mono ?_
    rintro e w3 ⟨V, rfl, hst⟩
    have HI := Lib.hid (ownInts HLN.out hst.own)
    have HI0 := Lib.hid (And.intro hst.own fun g q => show w.heap.size ≤ g from Nat.le_trans (by simp; omega) (hst.far g q))
    have HB := Lib.hid (show Bel w w3 from Bel.trans (by repeat (first | assumption | exact Bel.refl _ | refine Bel.drew ?_ | refine Bel.drewN ?_ _ | refine Bel.alloc ?_ _ | refine Bel.setCell ?_ (by simp <;> omega) _ | refine Bel.trans ?_ (by assumption))) hst.bel)
    have hsl := HI.out
    obtain ⟨va, vc, vb, voff, rfl, -⟩ := hsl
    have HR := Lib.hid (fun T => one_rowN (T := T) (NewIn.own HLN.out HI0.out.1 HI0.out.2))
    clear hst
    go_wp2
    go_ret
    exact ⟨_, rfl, HR.out _, HB.out.alloc _⟩
  · have b1 : (x.k == 1) = false := by rw [beq_eq_false_iff_ne]; omega
    have HE := Lib.hid (HX.out.trans (if_neg (by omega)))
    have hixq := idxInts (c := qc) hqa
    have HQ := Lib.hid hqc
    obtain ⟨i1, hi1, hz1, hs1, hb1⟩ := info_parts mkInt
    have HI1 := Lib.hid hi1
    have HZ1 := Lib.hid hz1
    obtain ⟨i2, hi2, hz2, hs2, hb2⟩ := info_parts mkInts
    have HI2 := Lib.hid hi2
    have HZ2 := Lib.hid hz2
    clear e g HX HM0 hqa hqc hi1 hz1 hi2 hz2
    generalize x.x = c at *
    have HTS := Lib.hid (fun k (hk : k < ps.length) => th_succ (c := c) hk)
    have HTL := Lib.hid (fun k (hk : k ≤ ps.length) => show (thL c (ps.take k)).length ≤ 1000 ∧ (noL c (ps.take k)).length ≤ 1000 by have := th_len (c := c) (ps := ps.take k); rw [List.length_take] at this; omega)
    have HT0 := Lib.hid (show thL c (ps.take 0) = [] ∧ noL c (ps.take 0) = [] from ⟨rfl, rfl⟩)
    go_enter Tryd.func72, Tryd.ntmps72
    go_wp2
    generalize hW0 : World.alloc _ _ = W0
    have HB := Lib.hid (show Bel w W0 by rw [← hW0]; exact ((Bel.refl w).alloc _).alloc _)
    have HX1 := Lib.hid (show W0.cell? ⟨w.heap.size + 1, 1, none⟩ = some (.int .i64 c) by rw [← hW0]; exact (row_facts (new_row (by simp))).1 1)
    clear hW0
    go_loopw [7, 8, 9] (fun V U i wr => ∃ k : Nat, k ≤ ps.length ∧ i = .int .i64 k ∧ TwoSt (thL c (ps.take k)) (noL c (ps.take k)) W0 V U wr) (fun _ _ i _ => ps.length - (intOf i).toNat)
    case atStart => exact ⟨0, by omega, rfl, by rw [HT0.out.1, HT0.out.2]; exact TwoSt.start W0⟩
    case round =>
      obtain ⟨k, hk, rfl, hst⟩ := hrel
      have HST := Lib.hid hst
      have hB := hst.bel
      obtain ⟨l1, l2⟩ := HTL.out k hk
      by_cases hlt : k < ps.length
      · have hlti : (k : Int) < (ps.length : Int) := by omega
        have q0 := (HB.out.trans hB).cell (HQ.out k hlt)
        have lq := cell_lt q0
        have x1 := hB.cell HX1.out
        have lx := cell_lt x1
        obtain ⟨t1, t2⟩ := HTS.out k hlt
        have HT1 := Lib.hid t1
        have HT2 := Lib.hid t2
        clear hst hB t1 t2
        by_cases hp : at0 ps k = c
        · have hpe : (at0 ps k == c) = true := by simpa using hp
          obtain ⟨n1, n2⟩ := HT1.out hp
          have HN1 := Lib.hid n1
          have HN2 := Lib.hid n2
          clear n1 n2 hp HT1 HT2
          generalize at0 ps k = p at *
          go_wp2
          refine wp_region_mixB (Plan.seq [0, 1, 2, 3, 4, 5, 6] .nil) (by kernel_rfl) (by kernel_rfl) (fun hcur => ?_)
          simp only [Plan.seq, Plan.fill, List.getD_cons_zero, List.getD_cons_succ, Nat.reduceLT, ↓reduceIte]
          apply mix_pure _ rfl
          · intro w' hw'
            have hcr := hw'.cells
            go_simp
            rfl
          intro K hK
          go_simp
          refine hK _ ?_
          clear hK K
          apply mix_pure _ rfl
          · intro w' hw'
            have hcr := hw'.cells
            go_simp
            rfl
          intro K hK
          go_simp
          refine hK _ ?_
          clear hK K
          apply mix_pure _ rfl
          · intro w' hw'
            have hcr := hw'.cells
            go_simp
            rfl
          intro K hK
          go_simp
          refine hK _ ?_
          clear hK K
          apply mix_pure _ rfl
          · intro w' hw'
            have hcr := hw'.cells
            go_simp
            rfl
          intro K hK
          go_simp
          refine hK _ ?_
          clear hK K
          apply mix_pure _ rfl
          · intro w' hw'
            have hcr := hw'.cells
            go_simp
            rfl
          intro K hK
          go_simp
          refine hK _ ?_
          clear hK K
          apply mix_pure _ rfl
          · intro w' hw'
            have hcr := hw'.cells
            go_simp
            rfl
          intro K hK
          go_simp
          refine hK _ ?_
          clear hK K
          apply mix_pure _ rfl
          · intro w' hw'
            have hcr := hw'.cells
            go_simp
            rfl
          intro K hK
          go_simp
          refine hK _ ?_
          clear hK K
          refine mix_nil ?_
          have HST2 := Lib.hid (HST.out.keep hcur)
          replace q0 := hcur.cell q0
          have lq := cell_lt q0
          clear hcur x1 lx
          generalize World.drew _ = wd at *
          go_wp2_with (at_builtin; refine wpList_append_where rfl _ _ 23 rfl 3 i1 (.int .i64 0) 1 8 Tryd.underlying23 HI1.out HZ1.out hs1 hb1 rfl (by decide) _ (thL c (ps.take k)).length ((thL c (ps.take k)).map (Value.int .i64)) rfl (ownsRow_bel HST2.out.own1 ((Bel.refl _).alloc _)) ⟨wd.heap.size, 0, none⟩ 1 1 [.int .i64 _] rfl rfl (cell_one_new _ _ _) (fun y hy => by simp at hy; subst hy; rfl) (by unfold maxLen; omega) (by omega) ?_; intro V' w7 hown hgrow hwhere)
          have HNX := Lib.hid ((HST2.out.keep ((Bel.refl _).alloc _)).next hown hgrow hwhere)
          clear hown hgrow hwhere q0 lq
          go_wp2
          go_roundw
          case rel => exact ⟨k + 1, by omega, by go_num, by rw [HN1.out, HN2.out]; exact HNX.out⟩
          case measure => simp [intOf]; omega
        · have hpe : (at0 ps k == c) = false := by simpa using hp
          obtain ⟨n1, n2⟩ := HT2.out hp
          have HN1 := Lib.hid n1
          have HN2 := Lib.hid n2
          clear n1 n2 hp HT1 HT2
          generalize at0 ps k = p at *
          go_wp2
          refine wp_region_mixB (Plan.seq [0, 1, 2, 3, 4, 5, 6] .nil) (by kernel_rfl) (by kernel_rfl) (fun hcur => ?_)
          simp only [Plan.seq, Plan.fill, List.getD_cons_zero, List.getD_cons_succ, Nat.reduceLT, ↓reduceIte]
          apply mix_pure _ rfl
          · intro w' hw'
            have hcr := hw'.cells
            go_simp
            rfl
          intro K hK
          go_simp
          refine hK _ ?_
          clear hK K
          apply mix_pure _ rfl
          · intro w' hw'
            have hcr := hw'.cells
            go_simp
            rfl
          intro K hK
          go_simp
          refine hK _ ?_
          clear hK K
          apply mix_pure _ rfl
          · intro w' hw'
            have hcr := hw'.cells
            go_simp
            rfl
          intro K hK
          go_simp
          refine hK _ ?_
          clear hK K
          apply mix_pure _ rfl
          · intro w' hw'
            have hcr := hw'.cells
            go_simp
            rfl
          intro K hK
          go_simp
          refine hK _ ?_
          clear hK K
          apply mix_pure _ rfl
          · intro w' hw'
            have hcr := hw'.cells
            go_simp
            rfl
          intro K hK
          go_simp
          refine hK _ ?_
          clear hK K
          apply mix_pure _ rfl
          · intro w' hw'
            have hcr := hw'.cells
            go_simp
            rfl
          intro K hK
          go_simp
          refine hK _ ?_
          clear hK K
          apply mix_pure _ rfl
          · intro w' hw'
            have hcr := hw'.cells
            go_simp
            rfl
          intro K hK
          go_simp
          refine hK _ ?_
          clear hK K
          refine mix_nil ?_
          have HST2 := Lib.hid (HST.out.keep hcur)
          replace q0 := hcur.cell q0
          have lq := cell_lt q0
          clear hcur x1 lx
          generalize World.drew _ = wd at *
          go_wp2_with (at_builtin; refine wpList_append_where rfl _ _ 23 rfl 3 i1 (.int .i64 0) 1 8 Tryd.underlying23 HI1.out HZ1.out hs1 hb1 rfl (by decide) _ (noL c (ps.take k)).length ((noL c (ps.take k)).map (Value.int .i64)) rfl (ownsRow_bel HST2.out.own2 ((Bel.refl _).alloc _)) ⟨wd.heap.size, 0, none⟩ 1 1 [.int .i64 _] rfl rfl (cell_one_new _ _ _) (fun y hy => by simp at hy; subst hy; rfl) (by unfold maxLen; omega) (by omega) ?_; intro V' w7 hown hgrow hwhere)
          have HNX := Lib.hid ((HST2.out.keep ((Bel.refl _).alloc _)).swap.next hown hgrow hwhere).swap
          clear hown hgrow hwhere q0 lq
          go_wp2
          go_roundw
          case rel => exact ⟨k + 1, by omega, by go_num, by rw [HN1.out, HN2.out]; exact HNX.out⟩
          case measure => simp [intOf]; omega
      · have hlti : ¬ (k : Int) < (ps.length : Int) := by omega
        obtain rfl : k = ps.length := by omega
        rw [List.take_length] at HST hst l1 l2
        obtain ⟨⟨va, vc, hV⟩, ⟨ua, uc, hU⟩⟩ := hst.slices
        subst hV hU
        clear hst hB HTS HTL HT0 HX1 HQ
        generalize thL c ps = L at *
        generalize noL c ps = M at *
        by_cases hL : L = []
        · subst hL
          by_cases hM : M = []
          · subst hM
            go_wp2
            go_ret
            exact ⟨.slice none 0 0, rfl, by rw [HE.out, show neR ([] : List Int) ++ neR ([] : List Int) = [] by simp [neR]]; exact RowsN.of (rows := []) (vs := []) (World.ownsRow_nil _ 0 _ 1) (by simp) (fun j hj => absurd hj (by simp)), HB.out.trans HST.out.bel⟩
          · have hMi : (0 : Int) < (M.length : Int) := by have := List.length_pos_iff.2 hM; omega
            have HNE := Lib.hid (show neR ([] : List Int) ++ neR M = [M] by unfold neR; rw [if_pos rfl, if_neg hM]; rfl)
            clear hM
            go_wp2_with (at_builtin; refine wpList_append_where rfl _ _ 93 rfl 23 i2 (.slice none 0 0) 1 24 Tryd.underlying93 HI2.out HZ2.out hs2 hb2 rfl (by decide) _ 0 [] rfl (World.ownsRow_nil _ 0 _ 1) ⟨wr.heap.size, 0, none⟩ 1 1 [.slice _ _ _] rfl rfl (cell_one_new _ _ _) (fun y hy => by simp at hy; subst hy; rfl) (by unfold maxLen; omega) (by omega) ?_; intro V' w7 hown hgrow hwhere)
            have HO := Lib.hid (OutN.first HB.out.szle (row := M) (HST.out.bel.trans ((Bel.refl _).alloc _)) (by omega) (ownsRow_bel HST.out.own2 ((Bel.refl _).alloc _)) HST.out.far2 hown hgrow)
            clear hown hgrow hwhere
            go_wp2
            go_ret
            exact ⟨V', rfl, by rw [HE.out, HNE.out]; exact HO.out.1, HB.out.trans HO.out.2⟩
        · have hLi : (0 : Int) < (L.length : Int) := by have := List.length_pos_iff.2 hL; omega
          by_cases hM : M = []
          · subst hM
            have HNE := Lib.hid (show neR L ++ neR ([] : List Int) = [L] by unfold neR; rw [if_neg hL, if_pos rfl]; rfl)
            clear hL
            go_wp2_with (at_builtin; refine wpList_append_where rfl _ _ 93 rfl 23 i2 (.slice none 0 0) 1 24 Tryd.underlying93 HI2.out HZ2.out hs2 hb2 rfl (by decide) _ 0 [] rfl (World.ownsRow_nil _ 0 _ 1) ⟨wr.heap.size, 0, none⟩ 1 1 [.slice _ _ _] rfl rfl (cell_one_new _ _ _) (fun y hy => by simp at hy; subst hy; rfl) (by unfold maxLen; omega) (by omega) ?_; intro V' w7 hown hgrow hwhere)
            have HO := Lib.hid (OutN.first HB.out.szle (row := L) (HST.out.bel.trans ((Bel.refl _).alloc _)) (by omega) (ownsRow_bel HST.out.own1 ((Bel.refl _).alloc _)) HST.out.far1 hown hgrow)
            clear hown hgrow hwhere
            go_wp2
            go_ret
            exact ⟨V', rfl, by rw [HE.out, HNE.out]; exact HO.out.1, HB.out.trans HO.out.2⟩
          · have hMi : (0 : Int) < (M.length : Int) := by have := List.length_pos_iff.2 hM; omega
            have HNE := Lib.hid (show neR L ++ neR M = [L] ++ [M] by unfold neR; rw [if_neg hL, if_neg hM])
            clear hL hM
            go_wp2_with (first
              | (at_builtin; refine wpList_append_where rfl _ _ 93 rfl 23 i2 (.slice none 0 0) 1 24 Tryd.underlying93 HI2.out HZ2.out hs2 hb2 rfl (by decide) _ 0 [] rfl (World.ownsRow_nil _ 0 _ 1) ⟨wr.heap.size, 0, none⟩ 1 1 [.slice _ _ _] rfl rfl (cell_one_new _ _ _) (fun y hy => by simp at hy; subst hy; rfl) (by unfold maxLen; omega) (by omega) ?_; intro V' w7 hown hgrow hwhere; have HO1 := Lib.hid (OutN.both HST.out ((Bel.refl _).alloc _) hown hgrow hwhere); clear hown hgrow hwhere)
              | (at_builtin; refine wpList_append_where rfl _ _ 93 rfl 23 i2 (.slice none 0 0) 1 24 Tryd.underlying93 HI2.out HZ2.out hs2 hb2 rfl (by decide) _ 1 _ rfl (ownsRow_bel HO1.out.1 ((Bel.refl _).alloc _)) ⟨w7.heap.size, 0, none⟩ 1 1 [.slice _ _ _] rfl rfl (cell_one_new _ _ _) (fun y hy => by simp at hy; subst hy; rfl) (by unfold maxLen; omega) (by omega) ?_; intro V'' w8 hown hgrow hwhere))
            have HO := Lib.hid (OutN.two HB.out.szle HST.out HO1.out ((Bel.refl _).alloc _) (by omega) (by omega) hown hgrow hwhere)
            clear hown hgrow hwhere
            go_wp2
            go_ret
            exact ⟨V'', rfl, by rw [HE.out, HNE.out]; exact HO.out.1, HB.out.trans HO.out.2⟩
end Go.Proofs.YtogiidkofddhaaaDoor
namespace Go.Proofs.YtogiidkofddhaaaDoor
set_option linter.unusedVariables false
open Go Go.RowKit Go.Shelf
set_option maxHeartbeats 8000000
set_option maxRecDepth 100000
def sliceN : Value → Nat
  | .slice _ n _ => n
  | _ => 0
/-- The rounds of the reference's Path. -/
def RPathI (b : BT) (S : Nat) (c0 : Int) (w3 : World) (V pv va : Value) (wr : World) : Prop := ∃ (l : List BS) (s : Nat) (v p : Int), va = .int .i64 p ∧ Dom b s ∧ opt b true 1 0 s = some v ∧ 0 ≤ v ∧ (l.length : Int) + v ≤ 1999 ∧ -1 ≤ p ∧ p < b.n ∧ hasP s p = true ∧
  l ++ pathF b 2000 s p = pathF b 2000 S c0 ∧ StepSt l w3 V wr ∧ Off wr V fun wx => IntsAt wx pv (plOf s)
theorem IntsAt.off {w : World} {x : Value} {l : List Int} (h : IntsAt w x l) : Off w (.slice none 0 0) fun w' => IntsAt w' x l := by
  obtain ⟨a, c, b, off, h1, h2, h3, h4⟩ := h
  intro w' hs hk
  exact ⟨a, c, b, off, h1, h2, h3, fun i hi => (World.cell?_of_block (hk b (cell_lt (h4 i hi)) (by simp [Value.ownBlock]))).trans (h4 i hi)⟩
theorem inB_plOf {m : Nat} (hm : m < 256) {q : Int} (hq : -1 ≤ q) : inB (plOf m) q = hasP m q := by
  unfold inB hasP
  rw [Bool.eq_iff_iff, decide_eq_true_eq, mem_plOf hm]
  exact ⟨fun h => h.1, fun h => ⟨h, hq⟩⟩
/-- Which part the beast is in: the first, or the second. -/
theorem left_pick {b : BT} {looks : Bool} {s : Nat} {y : BS × List Nat} (hy : y ∈ stepsOf b looks s) {q : Int} (hq : -1 ≤ q) (h1 : leftOf y.2 q s ∈ y.2) (h2 : hasP (leftOf y.2 q s) q = true) :
    0 < y.2.length ∧ ((hasP (atN y.2 0) q = true ∧ leftOf y.2 q s = atN y.2 0) ∨ (hasP (atN y.2 0) q = false ∧ 1 < y.2.length ∧ leftOf y.2 q s = atN y.2 1)) := by
  rcases mem_steps.1 hy with ⟨i, hi, rfl⟩ | ⟨_, c, hc, hsp, rfl⟩
  · simp only [List.mem_singleton] at h1
    rw [h1] at h2
    exact ⟨by simp, .inl ⟨h2, h1⟩⟩
  · refine ⟨by simp [lStep], ?_⟩
    have e : leftOf (lStep s c).2 q s = if hasP (s ^^^ (s &&& bitP c)) q then s ^^^ (s &&& bitP c) else if hasP (s &&& bitP c) q then s &&& bitP c else s := rfl
    have e0 : atN (lStep s c).2 0 = s &&& bitP c := rfl
    have e1 : atN (lStep s c).2 1 = s ^^^ (s &&& bitP c) := rfl
    rw [e] at h1 h2 ⊢
    rw [e0, e1]
    have x0 : hasP (s &&& bitP c) q = (hasP s q && decide ((q + 1).toNat = (c + 1).toNat)) := yes_bit s c (q + 1).toNat
    have x1 : hasP (s ^^^ (s &&& bitP c)) q = (hasP s q && decide ((q + 1).toNat ≠ (c + 1).toNat)) := no_bit s c (q + 1).toNat
    by_cases k : (q + 1).toNat = (c + 1).toNat
    · have k1 : hasP (s ^^^ (s &&& bitP c)) q = false := by rw [x1]; simp [k]
      rw [k1] at h1 h2 ⊢
      simp only [Bool.false_eq_true, if_false] at h1 h2 ⊢
      cases k0 : hasP (s &&& bitP c) q
      · rw [k0] at h1 h2
        simp only [Bool.false_eq_true, if_false] at h1 h2
        rw [x0, h2] at k0
        simp [k] at k0
      · exact .inl ⟨rfl, by simp⟩
    · have k0 : hasP (s &&& bitP c) q = false := by rw [x0]; simp [k]
      rw [k0] at h1 h2 ⊢
      simp only [Bool.false_eq_true, if_false] at h1 h2 ⊢
      cases k1 : hasP (s ^^^ (s &&& bitP c)) q
      · rw [k1] at h1 h2
        simp only [Bool.false_eq_true, if_false] at h1 h2
        rw [x1, h2] at k1
        simp [k] at k1
      · exact .inr ⟨by simp, by simp [lStep], by simp⟩
theorem one_stepsG {w : World} {g : Nat} {x : BS} {T : TypeId} (hg : g = w.heap.size) : StepsAt (w.alloc (.cells #[.int .i64 x.k, .int .i64 x.x] T)) (.slice (some ⟨g, 0, none⟩) 1 1) [x] := by
  subst hg
  refine ⟨some ⟨w.heap.size, 0, none⟩, 1, w.heap.size, 0, rfl, fun _ => rfl, by simp, fun i hi => ?_⟩
  have : i = 0 := by simpa using hi
  subst this
  exact ⟨(row_facts (new_row rfl)).1 0, (row_facts (new_row rfl)).1 1⟩
theorem ran_one {b : BT} {x : BS} {p : Int} : (ranTo b [x] p 1).1 = towS b x p := by
  show (if x.k = 1 then (thr (atD b.doors x.x.toNat) p, ([] : List Int)) else (p, [] ++ [if x.x = p then 1 else 0])).1 = _
  unfold towS
  split <;> rfl
/-- What a round of Path does. -/
structure PathRd (b : BT) (l : List BS) (s : Nat) (p : Int) (S : Nat) (c0 : Int) (q : Int) (t : Nat) : Prop where
  all : l ++ [(nextS b s).1] ++ pathF b 2000 t q = pathF b 2000 S c0
  dom : Dom b t
  val : ∃ u, opt b true 1 0 t = some u ∧ 0 ≤ u ∧ ((l.length + 1 : Nat) : Int) + u ≤ 1999
  lo : -1 ≤ q
  hi : q < b.n
  has : hasP t q = true
theorem R6Path_any (b : BT) (v : Value) (c : Int) (w : World) (hv : BTrapAt w v b) :
    Calls Tryd.prog 19 #[v, .int .i64 c] w fun e w' => ∃ V, e = .returned (.tuple #[V, .int .i64 (pathE b c)]) ∧ StepsAt w' V (pathA b c) ∧ (pathA b c).length ≤ 1999 ∧ Bel w w' := by
  have HC := Lib.hid (fun wx (hx : Bel w wx) => R6Check_any b v wx (hv.bel hx))
  have HV := Lib.hid hv
  obtain ⟨da, dc, sa, sc, pa, pc, rfl, _, _, hp⟩ := hv.open
  have HIN := Lib.hid (fun wx (hx : Bel w wx) => In_any _ b.places c wx (hp.bel hx))
  have HP := Lib.hid hp
  have HBX := Lib.hid (fun wx hx => (BoxB.new (w := w) (b := b) (dv := .slice da b.doors.length dc) (sv := .slice sa b.seen.length sc) (pv := .slice pa b.places.length pc) (T := 25)).bel (w' := wx) hx)
  clear hv hp
  cases hval : validT b
  · have E1 := Lib.hid (show pathA b c = [] by unfold pathA; rw [hval]; rfl)
    have E2 := Lib.hid (show pathE b c = 60 by unfold pathE; rw [hval]; rfl)
    rw [chkT_false hval] at HC
    clear hval HV HP
    go_enter Tryd.func19, Tryd.ntmps19
    go_wp2_with fail
    refine (HC.out _ (by repeat (first | assumption | exact Bel.refl _ | refine Bel.drew ?_ | refine Bel.drewN ?_ _ | refine Bel.alloc ?_ _ | refine Bel.setCell ?_ (by simp <;> omega) _ | refine Bel.trans ?_ (by assumption)))).mono ?_
    rintro e w1 ⟨rfl, hb⟩
    have HB := Lib.hid (show Bel w w1 from Bel.trans (by repeat (first | assumption | exact Bel.refl _ | refine Bel.drew ?_ | refine Bel.drewN ?_ _ | refine Bel.alloc ?_ _ | refine Bel.setCell ?_ (by simp <;> omega) _ | refine Bel.trans ?_ (by assumption))) hb)
    clear hb
    go_wp2
    exact bodyPost_ret (v := .tuple #[.slice none 0 0, .int .i64 60]) (by simp [results, Tryd.results19, go_sem]) rfl ⟨_, rvL E2.out, by rw [E1.out]; exact StepsAt.nil _, by rw [E1.out]; simp, HB.out⟩
  rw [chkT_true hval] at HC
  have hok := okb_iff.1 hval
  cases hin : inB b.places c
  · have E1 := Lib.hid (show pathA b c = [] by unfold pathA; rw [hval, hin]; rfl)
    have E2 := Lib.hid (show pathE b c = 1 by unfold pathE; rw [hval, hin]; rfl)
    rw [hin] at HIN
    clear hval hin hok HV HP
    go_enter Tryd.func19, Tryd.ntmps19
    go_wp2_with fail
    refine (HC.out _ (by repeat (first | assumption | exact Bel.refl _ | refine Bel.drew ?_ | refine Bel.drewN ?_ _ | refine Bel.alloc ?_ _ | refine Bel.setCell ?_ (by simp <;> omega) _ | refine Bel.trans ?_ (by assumption)))).mono ?_
    rintro e w1 ⟨rfl, hb⟩
    have HB := Lib.hid (show Bel w w1 from Bel.trans (by repeat (first | assumption | exact Bel.refl _ | refine Bel.drew ?_ | refine Bel.drewN ?_ _ | refine Bel.alloc ?_ _ | refine Bel.setCell ?_ (by simp <;> omega) _ | refine Bel.trans ?_ (by assumption))) hb)
    obtain ⟨y0, y1, y2, y3, y4, y5⟩ := HBX.out _ hb
    have ly := cell_lt y0
    clear hb
    go_wp2_with fail
    refine (HIN.out _ HB.out).mono ?_
    rintro e w2 ⟨rfl, rfl⟩
    clear y0 y1 y2 y3 y4 y5 ly
    go_wp2
    exact bodyPost_ret (v := .tuple #[.slice none 0 0, .int .i64 1]) (by simp [results, Tryd.results19, go_sem]) rfl ⟨_, rvL E2.out, by rw [E1.out]; exact StepsAt.nil _, by rw [E1.out]; simp, HB.out⟩
  rw [hin] at HIN
  have hcm := inB_mem hin
  have hcp := hok.pi c hcm
  have hn2 := hok.n2
  have hcb : hasP (ofL b.places) c = true := (ofL_bit b.places (c + 1).toNat).2 ⟨c, hcm, rfl⟩
  have hD := dom_places hok
  have hpl : plOf (ofL b.places) = b.places := plOf_ofL hok.pa fun p hp => by have := hok.pi p hp; omega
  have HCO := Lib.hid (fun wx (hx : Bel w wx) => R6Costs_any b hval true 1 0 (by omega) (small_1 hok) _ wx (HV.out.bel hx))
  have HTA := Lib.hid (fun c (h : TabO b true 1 0 c) => h.at hok hD)
  have HSO := Lib.hid (fun s (hs : Dom b s) pv wx (h : IntsAt wx pv (plOf s)) => by
    have hin := plOf_in hok hs
    have q := R6Some_any pv (plOf s) wx h (plTo_asc _ 8) (fun p hp => by have := hin p hp; omega)
    rw [show ofL (plOf s) = s from ofL_plOf (Dom.lt256 hok hs)] at q
    exact q)
  cases ho : opt b true 1 0 (ofL b.places) with
  | none =>
    obtain ⟨o3, o4⟩ := optVE_none ho
    have E1 := Lib.hid (show pathA b c = [] by unfold pathA; rw [hval, hin, ho]; rfl)
    have E2 := Lib.hid (show pathE b c = 3 by unfold pathE; rw [hval, hin, o4]; rfl)
    rw [ho] at HTA
    simp only [Option.getD_none] at HTA
    have HSP := Lib.hid (fun wx (hx : Bel w wx) => HSO.out (ofL b.places) hD (.slice pa b.places.length pc) wx (by rw [hpl]; exact HP.out.bel hx))
    generalize ofL b.places = s at *
    clear hval hin ho o3 o4 hok hD hpl HV HP HSO hcm hcp hcb
    go_enter Tryd.func19, Tryd.ntmps19
    go_wp2_with fail
    refine (HC.out _ (by repeat (first | assumption | exact Bel.refl _ | refine Bel.drew ?_ | refine Bel.drewN ?_ _ | refine Bel.alloc ?_ _ | refine Bel.setCell ?_ (by simp <;> omega) _ | refine Bel.trans ?_ (by assumption)))).mono ?_
    rintro e w1 ⟨rfl, hb⟩
    have HB := Lib.hid (show Bel w w1 from Bel.trans (by repeat (first | assumption | exact Bel.refl _ | refine Bel.drew ?_ | refine Bel.drewN ?_ _ | refine Bel.alloc ?_ _ | refine Bel.setCell ?_ (by simp <;> omega) _ | refine Bel.trans ?_ (by assumption))) hb)
    obtain ⟨y0, y1, y2, y3, y4, y5⟩ := HBX.out _ hb
    have ly := cell_lt y0
    clear hb
    go_wp2_with fail
    refine (HIN.out _ HB.out).mono ?_
    rintro e w2 ⟨rfl, rfl⟩
    go_wp2_with fail
    refine (HCO.out _ HB.out).mono ?_
    rintro e w2 ⟨V2, ct, rfl, hi, ht, hb⟩
    have HW2 := Lib.hid hb
    obtain ⟨t1, t2⟩ := HTA.out ct ht
    obtain ⟨ca, cc, cb, coff, rfl, hca, _, hcc⟩ := hi
    have hixc := idxInts (c := cc) hca
    have q0 := hcc s t1
    rw [t2] at q0
    replace y0 := hb.cell y0
    replace y5 := hb.cell y5
    have ly := cell_lt y0
    clear hb hca hcc t2 ht y1 y2 y3 y4
    go_wp2_with fail
    refine (HSP.out _ (HB.out.trans HW2.out)).mono ?_
    rintro e w3 ⟨rfl, hb⟩
    have HW3 := Lib.hid (HW2.out.trans hb)
    replace q0 := hb.cell q0
    have lq := cell_lt q0
    clear hb y0 y5 ly
    go_wp2
    exact bodyPost_ret (v := .tuple #[.slice none 0 0, .int .i64 3]) (by simp [results, Tryd.results19, go_sem]) rfl ⟨_, rvL E2.out, by rw [E1.out]; exact StepsAt.nil _, by rw [E1.out]; simp, HB.out.trans HW3.out⟩
  | some u =>
    obtain ⟨o3, o4⟩ := optVE_some ho
    have E1 := Lib.hid (show pathA b c = pathF b 2000 (ofL b.places) c by unfold pathA; rw [hval, hin, ho]; rfl)
    have E2 := Lib.hid (show pathE b c = 0 by unfold pathE; rw [hval, hin, o4]; rfl)
    have hu := small_1 hok (ofL b.places) u hD ho
    have hu18 := opt_1856 hok hD ho
    rw [ho] at HTA
    simp only [Option.getD_some] at HTA
    have HSP := Lib.hid (fun wx (hx : Bel w wx) => HSO.out (ofL b.places) hD (.slice pa b.places.length pc) wx (by rw [hpl]; exact HP.out.bel hx))
    have HPP := Lib.hid (fun wx (hx : Bel w wx) => show IntsAt wx (.slice pa b.places.length pc) (plOf (ofL b.places)) by rw [hpl]; exact HP.out.bel hx)
    have HNX := Lib.hid (fun c (h : TabO b true 1 0 c) s hs h1 u ho cv pv wx (hx : Bel w wx) (hi : IntsAt wx cv c) (hp : IntsAt wx pv (plOf s)) => R6next_any b hval c h s hs h1 u ho _ cv pv wx (HV.out.bel hx) hi hp)
    have HPR := Lib.hid (fun s hs x (hx : IsStp b x) pv wx (hb : Bel w wx) (hp : IntsAt wx pv (plOf s)) => R6PartsN_any b hval (plOf s) (by have := plOf_len s; omega) (plOf_in hok hs) x hx _ pv wx (HV.out.bel hb) hp)
    have HRN := Lib.hid (fun x (hx : IsStp b x) p lv wx (hb : Bel w wx) (hl : IntsAt wx (.slice none 0 0) [] → StepsAt wx lv [x]) => R6Ran_any b [x] (stepsB_iff.2 fun k hk => by
      have : k = 0 := by simpa using hk
      subst this
      exact hx) (by simp) p _ lv wx (HV.out.bel hb) (hl (IntsAt.nil _)))
    have HS0 := Lib.hid (And.intro hD (And.intro ho (And.intro hu18.1 (And.intro hcb hpl))))
    have HOK := Lib.hid hok
    obtain ⟨i1, hi1, hz1, hs1, hb1⟩ := info_parts mkStep
    have HI1 := Lib.hid hi1
    have HZ1 := Lib.hid hz1
    have hb2 : (u == 1099511627776) = false := by rw [beq_eq_false_iff_ne]; omega
    clear hval hin ho o3 o4 hok hD hpl HV HP hcm hcb hi1 hz1 hu
    generalize ofL b.places = S at *
    go_enter Tryd.func19, Tryd.ntmps19
    go_wp2_with fail
    refine (HC.out _ (by repeat (first | assumption | exact Bel.refl _ | refine Bel.drew ?_ | refine Bel.drewN ?_ _ | refine Bel.alloc ?_ _ | refine Bel.setCell ?_ (by simp <;> omega) _ | refine Bel.trans ?_ (by assumption)))).mono ?_
    rintro e w1 ⟨rfl, hb⟩
    have HB := Lib.hid (show Bel w w1 from Bel.trans (by repeat (first | assumption | exact Bel.refl _ | refine Bel.drew ?_ | refine Bel.drewN ?_ _ | refine Bel.alloc ?_ _ | refine Bel.setCell ?_ (by simp <;> omega) _ | refine Bel.trans ?_ (by assumption))) hb)
    have HY1 := Lib.hid (HBX.out _ hb)
    obtain ⟨y0, y1, y2, y3, y4, y5⟩ := HY1.out
    have ly := cell_lt y0
    clear hb
    go_wp2_with fail
    refine (HIN.out _ HB.out).mono ?_
    rintro e w2 ⟨rfl, rfl⟩
    go_wp2_with fail
    refine (HCO.out _ HB.out).mono ?_
    rintro e w2 ⟨V2, ct, rfl, hi, ht, hb⟩
    have HW2 := Lib.hid hb
    have HI2 := Lib.hid hi
    have HNT := Lib.hid (HNX.out ct ht)
    obtain ⟨t1, t2⟩ := HTA.out ct ht
    obtain ⟨ca, cc, cb, coff, rfl, hca, _, hcc⟩ := hi
    have hixc := idxInts (c := cc) hca
    have q0 := hcc S t1
    rw [t2] at q0
    replace y0 := hb.cell y0
    replace y5 := hb.cell y5
    have ly := cell_lt y0
    clear hb hca hcc t2 ht y1 y2 y3 y4
    go_wp2_with fail
    refine (HSP.out _ (HB.out.trans HW2.out)).mono ?_
    rintro e w3 ⟨rfl, hb⟩
    have HB3 := Lib.hid (HB.out.trans (HW2.out.trans hb))
    have HY3 := Lib.hid (HY1.out.bel (HW2.out.trans hb))
    have HI3 := Lib.hid (HI2.out.bel hb)
    replace q0 := hb.cell q0
    have lq := cell_lt q0
    replace y0 := hb.cell y0
    replace y5 := hb.cell y5
    have ly := cell_lt y0
    clear hb HI2 HY1 HB HW2 HSP HCO HIN HC HTA HNX HBX
    go_wp2
    clear q0 lq y0 y5 ly
    go_loopw [8, 9, 10] (fun V pv va wr => RPathI b S c w3 V pv va wr) (fun V _ _ _ => 2000 - sliceN V)
    case atStart => exact ⟨[], S, u, c, rfl, HS0.out.1, HS0.out.2.1, HS0.out.2.2.1, by simp; omega, by omega, by omega, HS0.out.2.2.2.1, rfl, StepSt.start w3, (HPP.out _ HB3.out).off⟩
    case round =>
      obtain ⟨l, s, vv, p, rfl, hd, ho, h0, h2, h3, h4, h5, h6, hst, hpv⟩ := hrel
      have HST := Lib.hid hst
      have HPV := Lib.hid hpv
      have HBr := Lib.hid (HB3.out.trans hst.bel)
      have HSw := Lib.hid (HSO.out s hd _ wr hpv.now)
      by_cases e1 : s = 1
      · subst e1
        have HL := Lib.hid (show l = pathF b 2000 S c by rw [← h6, path_done, List.append_nil])
        have hl20 : l.length ≤ 1999 := by omega
        clear hd ho h0 h2 h3 h4 h5 hst hpv
        go_wp2_with fail
        refine HSw.out.mono ?_
        rintro e w5 ⟨rfl, hb⟩
        have HST5 := Lib.hid (HST.out.keep hb)
        clear hb
        go_wp2
        exact bodyPost_ret (v := .tuple #[u8, .int .i64 0]) (by simp [results, Tryd.results19, go_sem]) rfl ⟨_, rvL E2.out, by rw [E1.out, ← HL.out]; exact HST5.out.read (by omega), by rw [E1.out, ← HL.out]; exact hl20, HB3.out.trans HST5.out.bel⟩
      · obtain ⟨g1, g2, g3, g4, g5, g6, g7, uu, g8, g9, g10⟩ := path_step HOK.out hd e1 ho h3 h4 h5
        obtain ⟨hx0, hpick⟩ := left_pick g1 g5 g2 g4
        have hrows : partsL b (plOf s) (nextS b s).1 = (nextS b s).2.map plOf := by
          rw [partsL_eq b (Dom.lt256 HOK.out hd) (by rcases steps_stp g1 with ⟨e, _⟩ | ⟨_, e⟩; exact .inl e; exact .inr (by have := HOK.out.si _ e; omega)), ← (step_parts g1).2]
        have HROW := Lib.hid hrows
        have HG := Lib.hid (show l ++ [(nextS b s).1] ++ pathF b 2000 (leftOf (nextS b s).2 (towS b (nextS b s).1 p) s) (towS b (nextS b s).1 p) = pathF b 2000 S c by rw [← h6, path_more HOK.out hd e1 ho (by omega) h3 h4 h5]; simp)
        have HG2 := Lib.hid (And.intro g3 (And.intro g8 (And.intro g9 (And.intro g5 (And.intro g6 g4)))))
        have HNw := Lib.hid (fun wx (hx : Bel wr wx) => HNT.out s hd e1 vv ho _ _ wx (HBr.out.trans hx) (HI3.out.bel (hst.bel.trans hx)) (hpv.bel hx).now)
        have HPw := Lib.hid (fun wx (hx : Bel w wx) h => HPR.out s hd (nextS b s).1 (steps_stp g1) u9 wx hx h)
        have HRw := Lib.hid (fun lv wx (hx : Bel w wx) (h : IntsAt wx (.slice none 0 0) [] → StepsAt wx lv [(nextS b s).1]) => HRN.out (nextS b s).1 (steps_stp g1) p lv wx hx h)
        have HRO := Lib.hid (show (ranTo b [(nextS b s).1] p [(nextS b s).1].length).1 = towS b (nextS b s).1 p from ran_one)
        have h256 : ∀ j, j < (nextS b s).2.length → atN (nextS b s).2 j < 256 := fun j hj => Dom.lt256 HOK.out ((steps_dom HOK.out hd g1).2 _ (getD_mem (nextS b s).2 j 0 hj))
        have HINP := Lib.hid (fun j hj => inB_plOf (h256 j hj) g5)
        have hs2 : (1 : Int) < (s : Int) := by have := hd.1; omega
        have hl20 : (l.length : Int) + 1 + uu ≤ 1999 := by omega
        have hlv : sliceN u8 = l.length := by obtain ⟨a', c', e⟩ := hst.slice; rw [e]; rfl
        clear hd ho h0 h2 h3 h4 h5 h6 hpv g1 g2 g3 g4 g5 g6 g7 g8 g10 hrows h256
        generalize leftOf (nextS b s).2 (towS b (nextS b s).1 p) s = tt at *
        generalize towS b (nextS b s).1 p = q at *
        generalize nextS b s = ns at *
        obtain ⟨xs, xn⟩ := ns
        obtain ⟨xk, xx⟩ := xs
        simp only [] at HNw HPw HRw HRO HROW HG hpick hx0 HINP
        obtain ⟨y0, y1, y2, y3, y4, y5⟩ := HY3.out.bel hst.bel
        have ly := cell_lt y0
        clear hst
        go_wp2_with fail
        refine HSw.out.mono ?_
        rintro e w5 ⟨rfl, hb⟩
        have HK5 := Lib.hid hb
        replace y0 := hb.cell y0
        replace y1 := hb.cell y1
        replace y2 := hb.cell y2
        replace y3 := hb.cell y3
        replace y4 := hb.cell y4
        replace y5 := hb.cell y5
        have ly := cell_lt y0
        clear hb
        go_wp2_with fail
        refine (HNw.out _ HK5.out).mono ?_
        rintro e w6 ⟨rfl, hb⟩
        have HK6 := Lib.hid (HK5.out.trans hb)
        clear hb y0 y1 y2 y3 y4 y5 ly
        go_wp2_with (at_builtin
                     refine wpList_append_where rfl _ _ 29 rfl 50 i1 (.agg #[.int .i64 0, .int .i64 0]) 2 16 Tryd.underlying29 HI1.out HZ1.out hs1 hb1 rfl (by decide) _ l.length (stepCells l) rfl (ownsRow_bel HST.out.own (HK6.out.trans (((Bel.refl w6).alloc _).alloc _))) ⟨w6.heap.size + 1, 0, none⟩ 1 1 [.int .i64 xk, .int .i64 xx] rfl rfl (fun j u hu => by rw [addr_off, (row_facts (new_row (by simp))).1]; simpa using hu) (fun y hy => by simp at hy; rcases hy with rfl | rfl <;> rfl) (by unfold maxLen; omega) (by omega) ?_
                     intro V' w7 hown hgrow hwhere
                     have hzo : ∀ g, u8.ownBlock = some g → g < wr.heap.size := fun g q => own_lt HST.out.own q
                     have hz6 := HK6.out.szle
                     have t0 : w7.cell? ⟨w6.heap.size, 0, none⟩ = some (.int .i64 xk) := grown_cell hgrow (fun g q => by have := hzo g q; omega) (((Bel.refl _).alloc _).cell ((row_facts (new_row rfl)).1 0))
                     have t1 : w7.cell? ⟨w6.heap.size, 1, none⟩ = some (.int .i64 xx) := grown_cell hgrow (fun g q => by have := hzo g q; omega) (((Bel.refl _).alloc _).cell ((row_facts (new_row rfl)).1 1))
                     have hst7 := ((HST.out.keep (HK6.out.trans (((Bel.refl w6).alloc _).alloc _))).next (x := ⟨xk, xx⟩) hown hgrow hwhere)
                     have HST7 := Lib.hid hst7
                     have HPV7 := Lib.hid ((HPV.out.bel (HK6.out.trans (((Bel.refl w6).alloc _).alloc _))).grown hgrow hwhere)
                     obtain ⟨y0, y1, y2, y3, y4, y5⟩ := HY3.out.bel hst7.bel
                     have ly := cell_lt y0
                     have lt := cell_lt t0
                     have HB7 := Lib.hid (HB3.out.trans hst7.bel)
                     clear hown hgrow hwhere hzo hz6 hst7)
        refine (HPw.out _ HB7.out HPV7.out.now).mono ?_
        rintro e w8 ⟨VP, rfl, hr, hb⟩
        rw [HROW.out] at hr
        obtain ⟨ra, rc, rb, roff, rv, rfl, hra, _, hrc⟩ := hr
        rw [List.length_map] at hra hrc
        rw [List.length_map]
        have hixr := idxRows (c := rc) hra
        have HRC := Lib.hid hrc
        have HB8 := Lib.hid (HB7.out.trans hb)
        have HK8 := Lib.hid hb
        replace t0 := hb.cell t0
        replace t1 := hb.cell t1
        have lt := cell_lt t0
        replace y0 := hb.cell y0
        replace y1 := hb.cell y1
        replace y2 := hb.cell y2
        replace y3 := hb.cell y3
        replace y4 := hb.cell y4
        replace y5 := hb.cell y5
        have ly := cell_lt y0
        clear hb hrc hra
        go_wp2_with fail
        refine (HRw.out _ _ (HB8.out.alloc _) fun _ => one_stepsG rfl).mono ?_
        rintro e w9 ⟨VR, rfl, _, hb⟩
        rw [HRO.out]
        have HK9 := Lib.hid (show Bel w8 w9 from Bel.trans ((Bel.refl _).alloc _) hb)
        obtain ⟨r0, r1⟩ := HRC.out 0 hx0
        replace r0 := HK9.out.cell r0
        have HN0 := Lib.hid (r1.bel HK9.out)
        rw [atL_map hx0] at HN0
        obtain ⟨a0, c0, b0, off0, hxe, -⟩ := HN0.out.now
        rw [hxe] at r0 HN0
        rw [Nat.add_zero] at r0
        have lr := cell_lt r0
        have hix0 : ∀ wz, (Instr.indexAt 93 (.slice ra xn.length rc) (.int .i64 0)).run Tryd.prog wz = .ok (.pointer (some ⟨rb, roff, none⟩)) wz := fun wz => hixr wz 0 hx0
        have HIN0 := Lib.hid (In_any _ (plOf (atN xn 0)) q w9 HN0.out.now)
        rw [HINP.out 0 hx0] at HIN0
        clear hb r1 hxe t0 t1 lt y0 y1 y2 y3 y4 y5 ly
        have HBEL := Lib.hid (show Bel w7 w9 from HK8.out.trans HK9.out)
        have hfar : ∀ g, V'.ownBlock = some g → g < w7.heap.size := fun g e => own_lt HST7.out.own e
        have HFAR := Lib.hid hfar
        have hlv' : sliceN V' = l.length + 1 := by obtain ⟨a', c', e⟩ := HST7.out.slice; rw [e]; simp [sliceN]
        clear hfar
        rcases hpick with ⟨k1, k2⟩ | ⟨k1, k2, k3⟩
        · rw [k1] at HIN0
          have HTT := Lib.hid k2
          clear k1 k2
          go_wp2_with fail
          refine HIN0.out.mono ?_
          rintro e w10 ⟨rfl, rfl⟩
          go_wp2
          go_roundw
          case rel =>
            obtain ⟨g3, g8, g9, g5, g6, g4⟩ := HG2.out
            exact ⟨l ++ [⟨xk, xx⟩], tt, uu, q, rfl, g3, g8, g9, by simp; omega, g5, g6, g4, HG.out, HST7.out.keep HBEL.out, by rw [HTT.out]; exact HN0.out.off HFAR.out⟩
          case measure => rw [hlv, hlv']; omega
        · rw [k1] at HIN0
          obtain ⟨r0', r1⟩ := HRC.out 1 k2
          replace r0' := HK9.out.cell r0'
          have HN1 := Lib.hid (r1.bel HK9.out)
          rw [atL_map k2] at HN1
          obtain ⟨a1, c1, b1, off1, hxe, -⟩ := HN1.out.now
          rw [hxe] at r0' HN1
          have lr' := cell_lt r0'
          have hix1 : ∀ wz, (Instr.indexAt 93 (.slice ra xn.length rc) (.int .i64 1)).run Tryd.prog wz = .ok (.pointer (some ⟨rb, roff + 1, none⟩)) wz := fun wz => hixr wz 1 k2
          have HTT := Lib.hid k3
          clear k1 k2 k3 r1 hxe
          go_wp2_with fail
          refine HIN0.out.mono ?_
          rintro e w10 ⟨rfl, rfl⟩
          go_wp2
          go_roundw
          case rel =>
            obtain ⟨g3, g8, g9, g5, g6, g4⟩ := HG2.out
            exact ⟨l ++ [⟨xk, xx⟩], tt, uu, q, rfl, g3, g8, g9, by simp; omega, g5, g6, g4, HG.out, HST7.out.keep HBEL.out, by rw [HTT.out]; exact HN1.out.off HFAR.out⟩
          case measure => rw [hlv, hlv']; omega
theorem R6Paid_any (b : BT) (v : Value) (c : Int) (w : World) (hv : BTrapAt w v b) :
    Calls Tryd.prog 21 #[v, .int .i64 c] w fun e w' => e = .returned (.tuple #[.int .i64 (paidA b c), .int .i64 (pathE b c)]) ∧ Bel w w' := by
  have HV := Lib.hid hv
  have HP := Lib.hid (fun wx (hx : Bel w wx) => R6Path_any b v c wx (hv.bel hx))
  have HCS := Lib.hid (fun hval lv wx (hx : Bel w wx) (hl : StepsAt wx lv (pathA b c)) => R6CostsOf_any b hval (pathA b c) (stepsB_iff.2 fun k hk => (path_facts.1 _ (getD_mem (pathA b c) k default hk)).2) (by have := (path_facts (b := b) (c := c)).2; omega) v lv wx (hv.bel hx) hl)
  have HEV := Lib.hid (show pathE b c = 0 → validT b = true by
    intro h
    cases e : validT b
    · unfold pathE at h; rw [e] at h; simp at h
    · rfl)
  have HE0 := Lib.hid (show pathE b c ≠ 0 → paidA b c = 0 by
    intro h
    have : pathA b c = [] := by
      unfold pathE at h
      unfold pathA
      cases e : validT b
      · rfl
      · cases e2 : inB b.places c
        · rfl
        · rw [e, e2] at h
          cases e3 : opt b true 1 0 (ofL b.places) with
          | none => rfl
          | some u => unfold optE at h; rw [e3] at h; simp at h
    unfold paidA
    rw [this]; rfl)
  have HPA := Lib.hid (show paidA b c = costsL b (pathA b c) from rfl)
  obtain ⟨da, dc, sa, sc, pa, pc, rfl, _, _, _⟩ := hv.open
  have HBX := Lib.hid (fun wx hx => (BoxB.new (w := w) (b := b) (dv := .slice da b.doors.length dc) (sv := .slice sa b.seen.length sc) (pv := .slice pa b.places.length pc) (T := 25)).bel (w' := wx) hx)
  clear hv
  generalize pathA b c = l at *
  generalize paidA b c = rv at *
  generalize pathE b c = er at *
  go_enter Tryd.func21, Tryd.ntmps21
  go_wp2_with fail
  refine (HP.out _ (by repeat (first | assumption | exact Bel.refl _ | refine Bel.drew ?_ | refine Bel.drewN ?_ _ | refine Bel.alloc ?_ _ | refine Bel.setCell ?_ (by simp <;> omega) _ | refine Bel.trans ?_ (by assumption)))).mono ?_
  rintro e w1 ⟨V, rfl, hl, _, hb⟩
  have HB := Lib.hid (show Bel w w1 from Bel.trans (by repeat (first | assumption | exact Bel.refl _ | refine Bel.drew ?_ | refine Bel.drewN ?_ _ | refine Bel.alloc ?_ _ | refine Bel.setCell ?_ (by simp <;> omega) _ | refine Bel.trans ?_ (by assumption))) hb)
  obtain ⟨y0, y1, y2, y3, y4, y5⟩ := HBX.out _ hb
  have ly := cell_lt y0
  have HL := Lib.hid hl
  clear hb hl
  by_cases h : er = 0
  · have HC := Lib.hid (HCS.out (HEV.out h) V w1 HB.out HL.out)
    subst h
    go_wp2_with fail
    refine HC.out.mono ?_
    rintro e w2 ⟨rfl, hb⟩
    have HB2 := Lib.hid (HB.out.trans hb)
    clear hb y0 y1 y2 y3 y4 y5 ly
    go_wp2
    exact bodyPost_ret (v := .tuple #[.int .i64 (costsL b l), .int .i64 0]) (by simp [results, Tryd.results21, go_sem]) rfl ⟨rvI HPA.out rfl, HB2.out⟩
  · have hb1 : (er != 0) = true := by simpa using h
    have HR := Lib.hid (HE0.out h)
    clear h y0 y1 y2 y3 y4 y5 ly
    go_wp2
    exact bodyPost_ret (v := .tuple #[.int .i64 0, .int .i64 er]) (by simp [results, Tryd.results21, go_sem]) rfl ⟨rvI HR.out rfl, HB.out⟩
end Go.Proofs.YtogiidkofddhaaaDoor

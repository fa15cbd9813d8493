/-
  law: fish.
-/
import Derived.Test.YtoiajjdhgffdaaaWorks
import Derived.Test.YtoiajjdhgffdaaaSpans
namespace Go.Proofs.Ytoiajjdhgffdaaa
open Go Go.RowKit
set_option maxHeartbeats 2000000
set_option maxRecDepth 100000
def spanCells (lo hi : Nat → Int) : Nat → List Value
  | 0 => []
  | k + 1 => spanCells lo hi k ++ [.int .i64 (lo k), .int .i64 (hi k)]
theorem spanCells_len (lo hi : Nat → Int) : ∀ k, (spanCells lo hi k).length = k * 2
  | 0 => rfl
  | k + 1 => by show (spanCells lo hi k ++ _).length = _; rw [List.length_append, spanCells_len lo hi k]; simp; omega
theorem spanCells_at (lo hi : Nat → Int) : ∀ k c, c < k → (spanCells lo hi k)[c * 2]? = some (.int .i64 (lo c)) ∧ (spanCells lo hi k)[c * 2 + 1]? = some (.int .i64 (hi c))
  | 0, c, h => by omega
  | k + 1, c, h => by
    have hl := spanCells_len lo hi k
    show (spanCells lo hi k ++ _)[c * 2]? = _ ∧ (spanCells lo hi k ++ _)[c * 2 + 1]? = _
    by_cases e : c < k
    · rw [List.getElem?_append_left (by omega), List.getElem?_append_left (by omega)]
      exact spanCells_at lo hi k c e
    · have ec : c = k := by omega
      subst ec
      rw [List.getElem?_append_right (by omega), List.getElem?_append_right (by omega), hl]
      rw [show c * 2 - c * 2 = 0 by omega, show c * 2 + 1 - c * 2 = 1 by omega]
      exact ⟨rfl, rfl⟩
/-- A row of spans. -/
def SpanRowAt (w : World) (v : Value) (n : Nat) (lo hi : Nat → Int) : Prop :=
  ∃ b cap, v = .slice (some ⟨b, 0, none⟩) n cap ∧ ∀ c, c < n → w.cell? ⟨b, c * 2, none⟩ = some (.int .i64 (lo c)) ∧ w.cell? ⟨b, c * 2 + 1, none⟩ = some (.int .i64 (hi c))
def SpanRowsAt (w : World) (v : Value) (T n : Nat) (lo hi : Nat → Nat → Int) : Prop :=
  ∃ b cap, ∃ rv : Nat → Value, v = .slice (some ⟨b, 0, none⟩) T cap ∧ ∀ i, i < T → w.cell? ⟨b, i, none⟩ = some (rv i) ∧ SpanRowAt w (rv i) n (lo i) (hi i)
theorem SpanRowAt.bel {w w' : World} {v : Value} {n : Nat} {lo hi : Nat → Int} (h : SpanRowAt w v n lo hi) (k : Bel w w') : SpanRowAt w' v n lo hi := by
  obtain ⟨b, cap, h1, h2⟩ := h
  exact ⟨b, cap, h1, fun c hc => ⟨k.cell (h2 c hc).1, k.cell (h2 c hc).2⟩⟩
theorem SpanRowsAt.bel {w w' : World} {v : Value} {T n : Nat} {lo hi : Nat → Nat → Int} (h : SpanRowsAt w v T n lo hi) (k : Bel w w') : SpanRowsAt w' v T n lo hi := by
  obtain ⟨b, cap, rv, h1, h2⟩ := h
  exact ⟨b, cap, rv, h1, fun i hi' => ⟨k.cell (h2 i hi').1, (h2 i hi').2.bel k⟩⟩
/-- A row of the call's own reads as spans in every world that differs elsewhere. -/
theorem Off.spans {w : World} {v x : Value} {n : Nat} {lo hi : Nat → Int} (hn : 0 < n) (hx : w.ownsRow 0 32 2 x n (spanCells lo hi n)) (hv : ∀ g, v.ownBlock = some g → x.ownBlock ≠ some g) : Off w v fun w' => SpanRowAt w' x n lo hi := by
  intro w' hs hk
  rcases hx.2 with ⟨rfl, e⟩ | ⟨g, cap, cur, rfl, _, hh, _⟩
  · omega
  · refine ⟨g, cap, rfl, fun c hc => ?_⟩
    obtain ⟨e1, e2⟩ := spanCells_at lo hi n c hc
    have h1 := hx.cells (g := g) rfl (c * 2) _ e1
    have h2 := hx.cells (g := g) rfl (c * 2 + 1) _ e2
    rw [add_off, Nat.zero_add] at h1 h2
    have hb : w'.heap[g]? = w.heap[g]? := hk g (lt_of_block hh) (fun q => hv g q.symm rfl)
    exact ⟨(World.cell?_of_block hb).trans h1, (World.cell?_of_block hb).trans h2⟩
structure FSt (C : Nat) (lo hi : Nat → Nat → Int) (w0 : World) (n : Nat) (V : Value) (wr : World) : Prop where
  own : ∃ vs, wr.ownsRow 0 56 1 V n vs ∧ ∀ j, j < n → Off wr V fun w' => SpanRowAt w' (vs.getD j undef) C (lo j) (hi j)
  far : ∀ g, V.ownBlock = some g → w0.heap.size ≤ g
  bel : Bel w0 wr
theorem FSt.start (C : Nat) (lo hi : Nat → Nat → Int) (w0 : World) : FSt C lo hi w0 0 (.slice none 0 0) w0 :=
  ⟨⟨[], World.ownsRow_nil w0 0 _ 1, fun j hj => by omega⟩, fun g h => by simp [Value.ownBlock] at h, Bel.refl _⟩
theorem FSt.next {C : Nat} {lo hi : Nat → Nat → Int} {w0 wr wa w' : World} {n : Nat} {V V' x : Value} {vs : List Value} (hown : wr.ownsRow 0 56 1 V n vs)
    (hoff : ∀ j, j < n → Off wr V fun w' => SpanRowAt w' (vs.getD j undef) C (lo j) (hi j)) (hfar : ∀ g, V.ownBlock = some g → w0.heap.size ≤ g) (h0 : Bel w0 wr)
    (hb : Bel wr wa) (hx : Off wa V fun w' => SpanRowAt w' x C (lo n) (hi n))
    (ho : w'.ownsRow 0 56 1 V' (n + 1) (vs ++ [x])) (hg : wa.grownBy w' V.ownBlock) (hv : V'.ownBlock = V.ownBlock ∨ V'.ownBlock = some wa.heap.size) :
    FSt C lo hi w0 (n + 1) V' w' := by
  have hl : vs.length = n := by have := hown.1; omega
  refine ⟨⟨vs ++ [x], ho, fun j hj => ?_⟩, fun g q => ?_, (h0.trans hb).grown hg hfar⟩
  · by_cases e : j < n
    · have : (vs ++ [x]).getD j undef = vs.getD j undef := by simp [List.getD, List.getElem?_append_left (show j < vs.length by omega)]
      rw [this]
      exact ((hoff j e).bel hb).grown hg hv
    · have ej : j = n := by omega
      have : (vs ++ [x]).getD j undef = x := by rw [ej, ← hl]; simp [List.getD]
      rw [this, ej]
      exact hx.grown hg hv
  · rcases hv with e | e
    · exact hfar g (by rw [← e]; exact q)
    · rw [e] at q; injection q with q; have := h0.szle; have := hb.szle; omega
theorem FSt.rows {C T : Nat} {lo hi : Nat → Nat → Int} {w0 wr : World} {V : Value} (hT : 0 < T) (h : FSt C lo hi w0 T V wr) : SpanRowsAt wr V T C lo hi := by
  obtain ⟨vs, h1, h2⟩ := h.own
  rcases h1.2 with ⟨_, h0⟩ | ⟨g, cap, cur, rfl, _, hg, hnc, hcm, hcs, htake⟩
  · omega
  · refine ⟨g, cap, fun j => vs.getD j undef, rfl, fun j hj => ⟨?_, (h2 j hj).now⟩⟩
    have := World.ownsRow.cellAt (h := h1) j (by omega)
    rw [this]
    have hlen : j < vs.length := by have := h1.1; omega
    simp [List.getD, hlen]
/-- What fish leaves. -/
def FishPost (t : CT) (w : World) (e : Ending) (w' : World) : Prop :=
  (errR t true = 0 ∧ ∃ sv, e = .returned (.tuple #[sv, .bool true]) ∧ SpanRowsAt w' sv t.T.toNat t.C.toNat (fun i c => fishLo t i c) (fun i c => fishHi t i c) ∧ Bel w w') ∨
  (errR t true ≠ 0 ∧ e = .returned (.tuple #[.slice none 0 0, .bool false]) ∧ Bel w w')
theorem fishL_any (t : CT) (v : Value) (w : World) (hv : TrapAt w v t) (hval : validB t = true) : Calls Try.prog 31 #[v] w (FishPost t w) := by
  have HV := Lib.hid hv
  obtain ⟨f1, f2, f3, f4, _, _⟩ := fit_of_valid hval
  have hpl : ∀ i c : Nat, i < t.T.toNat → c < t.C.toNat → isPlaceB t.C t.T i c = true := fun i c h1 h2 => by
    unfold isPlaceB isTimeB
    simp only [Bool.and_eq_true, withinB_true]
    rw [wrap64_in (t.T - 1) (by omega), wrap64_in (t.C - 1) (by omega)]
    omega
  have HF := Lib.hid (fun wx hx (i c : Nat) => Fish_any t v i c wx hx)
  obtain ⟨ov, wv, rfl, ⟨a, cc, b, off, rv, rfl, _⟩, ⟨wa, wc, wb, woff, rfl, _⟩⟩ := hv
  by_cases he : errR t true = 0
  · obtain ⟨hex, hf⟩ := errR_exact he
    have HE := Lib.hid he
    have HBD := Lib.hid (fun (i c : Nat) h1 h2 => Fish_bounds hf hex i c h1 h2)
    have HSP := Lib.hid (fun wx hx (i c : Nat) (h1 : i < t.T.toNat) (h2 : c < t.C.toNat) => (HF.out wx hx i c).mono fun e w' h => span_ok (a := fishLo t i c) (b := fishHi t i c) (by rw [hpl i c h1 h2]; exact he) rfl rfl h)
    obtain ⟨i1, hi1, hz1, hs1, hb1⟩ := info_parts mkSpan
    obtain ⟨i2, hi2, hz2, hs2, hb2⟩ := info_parts mkSpans
    have HI1 := Lib.hid hi1
    have HI2 := Lib.hid hi2
    have HZ1 := Lib.hid hz1
    have HZ2 := Lib.hid hz2
    clear hi1 hi2 hz1 hz2 he hex hf hpl hval HF
    go_enter Try.func31, Try.ntmps31
    go_wp2
    generalize hWa : w.alloc _ = Wa
    have hBa : Bel w Wa := by rw [← hWa]; exact (Bel.refl w).alloc _
    have HY := Lib.hid (show Wa.cell? ⟨w.heap.size, 0, none⟩ = some (.int .i64 t.C) ∧ Wa.cell? ⟨w.heap.size, 1, none⟩ = some (.int .i64 t.T) ∧ Wa.cell? ⟨w.heap.size, 2, none⟩ = some (.slice a t.op.length cc) ∧ Wa.cell? ⟨w.heap.size, 3, none⟩ = some (.slice wa t.ws.length wc) from by
      rw [← hWa]; exact ⟨(row_facts (new_row rfl)).1 0, (row_facts (new_row rfl)).1 1, (row_facts (new_row rfl)).1 2, (row_facts (new_row rfl)).1 3⟩)
    have HBa := Lib.hid hBa
    clear hWa hBa
    go_loopw [4, 5] (fun V i wr => ∃ n : Nat, n ≤ t.T.toNat ∧ i = .int .i64 n ∧ FSt t.C.toNat (fun i c => fishLo t i c) (fun i c => fishHi t i c) Wa n V wr) (fun _ i _ => t.T.toNat - (intOf i).toNat)
    case atStart => exact ⟨0, by omega, rfl, FSt.start _ _ _ Wa⟩
    case round =>
      obtain ⟨n, hn, rfl, hR⟩ := hrel
      have x1 := hR.bel.cell HY.out.2.1
      have HR := Lib.hid hR
      clear hR
      by_cases hlt : n < t.T.toNat
      · have hni : (n : Int) < t.T := by omega
        go_wp2
        rename World => wo
        go_loopw [6, 7] (fun L c wi => ∃ k : Nat, k ≤ t.C.toNat ∧ c = .int .i64 k ∧ wi.ownsRow 0 32 2 L k (spanCells (fun c => fishLo t n c) (fun c => fishHi t n c) k) ∧ (∀ g, L.ownBlock = some g → wo.heap.size ≤ g) ∧ Bel wo wi) (fun _ c _ => t.C.toNat - (intOf c).toNat)
        case atStart => exact ⟨0, by omega, rfl, World.ownsRow_nil wo 0 _ 2, fun g h => by simp [Value.ownBlock] at h, Bel.refl _⟩
        case round =>
          clear x1
          obtain ⟨k, hk, rfl, hL, hfar, hB⟩ := hrel
          have x0 := hB.cell (HR.out.bel.cell HY.out.1)
          have HL := Lib.hid hL
          have HFAR := Lib.hid hfar
          have HB := Lib.hid hB
          clear hL hfar hB
          by_cases hltk : k < t.C.toNat
          · have hki : (k : Int) < t.C := by omega
            have x1 := HB.out.cell (HR.out.bel.cell HY.out.2.1)
            have x2 := HB.out.cell (HR.out.bel.cell HY.out.2.2.1)
            have x3 := HB.out.cell (HR.out.bel.cell HY.out.2.2.2)
            obtain ⟨g1, g2, g3⟩ := HBD.out n k hlt hltk
            have HS := Lib.hid (show spanCells (fun c => fishLo t n c) (fun c => fishHi t n c) (k + 1) = spanCells (fun c => fishLo t n c) (fun c => fishHi t n c) k ++ [.int .i64 (fishLo t n k), .int .i64 (fishHi t n k)] from rfl)
            go_wp2_with fail
            refine (HSP.out _ (HV.out.bel (HBa.out.trans (HR.out.bel.trans HB.out))) n k hlt hltk).mono ?_
            rintro e w3 ⟨rfl, hb3⟩
            generalize hlo : fishLo t n k = lo at *
            generalize hhi : fishHi t n k = hi at *
            have HLO := Lib.hid hlo
            have HHI := Lib.hid hhi
            have HB3 := Lib.hid (HB.out.trans hb3)
            have HL3 := Lib.hid (ownsRow_bel HL.out hb3)
            clear hlo hhi hb3 x0 x1 x2 x3
            go_wp2_with (at_builtin; refine wpList_append_where rfl _ _ 56 rfl 32 i1 (.agg #[.int .i64 0, .int .i64 0]) 2 16 Try.underlying56 HI1.out HZ1.out hs1 hb1 rfl (by decide) _ k (spanCells (fun c => fishLo t n c) (fun c => fishHi t n c) k) rfl (ownsRow_bel HL3.out (((Bel.refl w3).alloc _).alloc _)) ⟨w3.heap.size + 1, 0, none⟩ 1 1 [.int .i64 lo, .int .i64 hi] rfl rfl (fun j u hu => by rw [add_off, (row_facts (new_row (by simp))).1]; simpa using hu) (fun y hy => by simp at hy; rcases hy with rfl | rfl <;> rfl) (by unfold maxLen; omega) (by omega) ?_)
            intro L' w5 hown5 hgrow5 hwhere5
            rw [← HS.out] at hown5
            have HO5 := Lib.hid hown5
            have HF5 := Lib.hid (show ∀ g, L'.ownBlock = some g → wo.heap.size ≤ g from fun g q => by
              rcases hwhere5 with e | e
              · exact HFAR.out g (by rw [← e]; exact q)
              · rw [e] at q; injection q with q; have := HB3.out.szle; (try simp at q); omega)
            have HB5 := Lib.hid (((HB3.out.alloc _).alloc _).grown hgrow5 (fun g q => HFAR.out g q))
            clear hown5 hgrow5 hwhere5
            go_wp2
            go_roundw
            case rel => exact ⟨k + 1, by omega, by go_num, HO5.out, HF5.out, HB5.out⟩
            case measure => simp [intOf]; omega
          · have hkC : k = t.C.toNat := by omega
            subst hkC
            obtain ⟨vs, hown, hoff⟩ := HR.out.own
            have HOWN := Lib.hid hown
            have HOFF := Lib.hid hoff
            clear hown hoff
            obtain ⟨gx, capx, rfl⟩ : ∃ g cap, u6 = .slice (some ⟨g, 0, none⟩) t.C.toNat cap := by
              rcases HL.out.2 with ⟨_, h0⟩ | ⟨g, cap, cur, rfl, _⟩
              · omega
              · exact ⟨g, cap, rfl⟩
            have hgx := HFAR.out gx rfl
            go_wp2_with (at_builtin; refine wpList_append_where rfl _ _ 52 rfl 56 i2 (.slice none 0 0) 1 24 Try.underlying52 HI2.out HZ2.out hs2 hb2 rfl (by decide) _ n vs rfl (ownsRow_bel HOWN.out (HB.out.alloc _)) ⟨wr.heap.size, 0, none⟩ 1 1 [.slice (some ⟨gx, 0, none⟩) t.C.toNat capx] rfl rfl (cell_one_new _ _ _) (fun y hy => by simp at hy; subst hy; rfl) (by unfold maxLen; omega) (by omega) ?_)
            intro V' w5 hown5 hgrow5 hwhere5
            have HN := Lib.hid (FSt.next (x := .slice (some ⟨gx, 0, none⟩) t.C.toNat capx) (wa := wr.alloc _) HOWN.out HOFF.out HR.out.far HR.out.bel (HB.out.alloc _) (Off.spans (by omega) (ownsRow_bel HL.out ((Bel.refl wr).alloc _)) (fun g q r => by have := ownsRow_lt HOWN.out q; simp [Value.ownBlock] at r; omega)) hown5 hgrow5 (by rw [World.size_alloc]; exact hwhere5))
            clear hown5 hgrow5 hwhere5
            go_wp2
            go_roundw
            case rel => exact ⟨n + 1, by omega, by go_num, HN.out⟩
            case measure => simp [intOf]; omega
      · have hnT : n = t.T.toNat := by omega
        subst hnT
        have HRW := Lib.hid (HR.out.rows (by omega))
        have HBF := Lib.hid (HBa.out.trans HR.out.bel)
        go_wp2
        go_ret2
        exact .inl ⟨HE.out, _, rfl, HRW.out, HBF.out⟩
  · have h3 : errR t true = 3 := by
      by_cases q : ∃ y, Sat t (-1) y
      · exact absurd (errR_ok (askR_zero.2 ⟨hval, rfl⟩) q) he
      · exact errR_none (askR_zero.2 ⟨hval, rfl⟩) q
    have HE := Lib.hid he
    have HSP := Lib.hid (fun wx hx => (HF.out wx hx 0 0).mono (R' := fun e w' => e = .returned (.tuple #[.agg #[.int .i64 0, .int .i64 0], .int .i64 3]) ∧ Bel wx w') fun e w' h => by
      obtain ⟨rfl, hb⟩ := h
      rw [hpl 0 0 (by omega) (by omega), if_neg he, if_neg he, h3]
      exact ⟨rfl, hb⟩)
    have hT0 : (0 : Int) < t.T := by omega
    have hC0 : (0 : Int) < t.C := by omega
    clear h3 he hval hpl HF
    go_enter Try.func31, Try.ntmps31
    go_wp2
    generalize hWa : w.alloc _ = Wa
    have hBa : Bel w Wa := by rw [← hWa]; exact (Bel.refl w).alloc _
    have HY := Lib.hid (show Wa.cell? ⟨w.heap.size, 0, none⟩ = some (.int .i64 t.C) ∧ Wa.cell? ⟨w.heap.size, 1, none⟩ = some (.int .i64 t.T) ∧ Wa.cell? ⟨w.heap.size, 2, none⟩ = some (.slice a t.op.length cc) ∧ Wa.cell? ⟨w.heap.size, 3, none⟩ = some (.slice wa t.ws.length wc) from by
      rw [← hWa]; exact ⟨(row_facts (new_row rfl)).1 0, (row_facts (new_row rfl)).1 1, (row_facts (new_row rfl)).1 2, (row_facts (new_row rfl)).1 3⟩)
    have HBa := Lib.hid hBa
    clear hWa hBa
    go_loopw [5] (fun i wr => i = .int .i64 0 ∧ Bel Wa wr) (fun _ _ => 0)
    case atStart => exact ⟨rfl, Bel.refl _⟩
    case round =>
      obtain ⟨rfl, hB⟩ := hrel
      have x1 := hB.cell HY.out.2.1
      have HB := Lib.hid hB
      clear hB
      go_wp2
      go_loopw [7] (fun i wi => i = .int .i64 0 ∧ Bel Wa wi) (fun _ _ => 0)
      case atStart => exact ⟨rfl, HB.out⟩
      case round =>
        clear x1
        obtain ⟨rfl, hB2⟩ := hrel
        have x0 := hB2.cell HY.out.1
        have x1 := hB2.cell HY.out.2.1
        have x2 := hB2.cell HY.out.2.2.1
        have x3 := hB2.cell HY.out.2.2.2
        have HB2 := Lib.hid (HBa.out.trans hB2)
        clear hB2
        go_wp2_with fail
        refine (HSP.out _ (HV.out.bel HB2.out)).mono ?_
        rintro e w3 ⟨rfl, hb3⟩
        have HB3 := Lib.hid (HB2.out.trans hb3)
        clear hb3 x0 x1 x2 x3
        go_wp2
        go_ret2
        exact .inr ⟨HE.out, rfl, HB3.out.alloc _⟩
end Go.Proofs.Ytoiajjdhgffdaaa

/-
  reference: spans in memory; free.
-/
import Derived.Test.YtoiajjdhgffdaaaTruth
namespace Go.Proofs.Ytoiajjdhgffdaaa
set_option linter.unusedVariables false
open Go Go.RowKit
set_option maxHeartbeats 1000000
set_option maxRecDepth 100000
theorem infoSpan : ∃ i, Try.prog.info? 32 = some i := Option.isSome_iff_exists.1 (by kernel_rfl)
theorem cellsSpan : Try.prog.cellsOf 32 = 2 := by kernel_rfl
theorem infoSpans : ∃ i, Try.prog.info? 56 = some i := Option.isSome_iff_exists.1 (by kernel_rfl)
theorem cellsSpans : Try.prog.cellsOf 56 = 1 := by kernel_rfl
theorem mkSpan : (Try.prog.info? 32).map (fun i => (i.zero, i.size, i.bytes)) = some (some (.agg #[.int .i64 0, .int .i64 0]), 2, 16) := by kernel_rfl
theorem mkSpans : (Try.prog.info? 56).map (fun i => (i.zero, i.size, i.bytes)) = some (some (.slice none 0 0), 1, 24) := by kernel_rfl
theorem idxSpan {a : Option Addr} {n c b off : Nat} (ha : 0 < n → a = some ⟨b, off, none⟩) :
    ∀ (w : World) (i : Nat), i < n → (Instr.indexAt 56 (.slice a n c) (.int .i64 i)).run Try.prog w = .ok (.pointer (some ⟨b, off + i * 2, none⟩)) w := by
  obtain ⟨i0, hi0⟩ := infoSpan
  exact idxRule (P := Try.prog) 56 32 2 Try.underlying56 hi0 cellsSpan (c := c) ha
theorem idxSpans {a : Option Addr} {n c b off : Nat} (ha : 0 < n → a = some ⟨b, off, none⟩) :
    ∀ (w : World) (i : Nat), i < n → (Instr.indexAt 96 (.slice a n c) (.int .i64 i)).run Try.prog w = .ok (.pointer (some ⟨b, off + i, none⟩)) w := by
  obtain ⟨i0, hi0⟩ := infoSpans
  have h := idxRule (P := Try.prog) 96 56 1 Try.underlying96 hi0 cellsSpans (c := c) ha
  simpa using h
/-- A row of spans. -/
structure SpRow (w : World) (rb n : Nat) (lo hi : Nat → Int) : Prop where
  lo : ∀ c, c < n → w.cell? ⟨rb, c * 2, none⟩ = some (.int .i64 (lo c))
  hi : ∀ c, c < n → w.cell? ⟨rb, c * 2 + 1, none⟩ = some (.int .i64 (hi c))
  fz : ∀ o, w.frozen? ⟨rb, o, none⟩ = false
  lt : rb < w.heap.size
theorem SpRow.of_block {w w' : World} {rb n : Nat} {lo hi : Nat → Int} (h : SpRow w rb n lo hi) (hs : w.heap.size ≤ w'.heap.size) (hb : w'.heap[rb]? = w.heap[rb]?) : SpRow w' rb n lo hi :=
  ⟨fun c hc => by rw [← h.lo c hc]; exact World.cell?_of_block hb, fun c hc => by rw [← h.hi c hc]; exact World.cell?_of_block hb,
    fun o => by rw [← h.fz o]; exact World.frozen?_of_block hb, Nat.lt_of_lt_of_le h.lt hs⟩
theorem SpRow.bel {w w' : World} {rb n : Nat} {lo hi : Nat → Int} (h : SpRow w rb n lo hi) (k : Bel w w') : SpRow w' rb n lo hi :=
  h.of_block k.szle (k.below.block rb h.lt)
theorem SpRow.congr {w : World} {rb n : Nat} {lo hi lo' hi' : Nat → Int} (h : SpRow w rb n lo hi) (e1 : ∀ c, c < n → lo' c = lo c) (e2 : ∀ c, c < n → hi' c = hi c) : SpRow w rb n lo' hi' :=
  ⟨fun c hc => by rw [e1 c hc]; exact h.lo c hc, fun c hc => by rw [e2 c hc]; exact h.hi c hc, h.fz, h.lt⟩
theorem SpRow.setHi {w : World} {rb n : Nat} {lo hi : Nat → Int} (h : SpRow w rb n lo hi) {k : Nat} (hk : k < n) (x : Int) :
    SpRow (w.setCell ⟨rb, k * 2 + 1, none⟩ (.int .i64 x)) rb n lo (fun c => if c = k then x else hi c) := by
  refine ⟨fun c hc => ?_, fun c hc => ?_, fun o => by rw [World.frozen?_setCell]; exact h.fz o, by simpa using h.lt⟩
  · rw [World.cell?_setCell_other _ _ _ _ (by intro q; injection q; omega)]; exact h.lo c hc
  · by_cases e : c = k
    · subst e; rw [if_pos rfl]; exact World.cell?_setCell_same _ _ _ (by rw [h.hi c hc])
    · rw [if_neg e, World.cell?_setCell_other _ _ _ _ (by intro q; injection q; omega)]; exact h.hi c hc
theorem SpRow.setLo {w : World} {rb n : Nat} {lo hi : Nat → Int} (h : SpRow w rb n lo hi) {k : Nat} (hk : k < n) (x : Int) :
    SpRow (w.setCell ⟨rb, k * 2, none⟩ (.int .i64 x)) rb n (fun c => if c = k then x else lo c) hi := by
  refine ⟨fun c hc => ?_, fun c hc => ?_, fun o => by rw [World.frozen?_setCell]; exact h.fz o, by simpa using h.lt⟩
  · by_cases e : c = k
    · subst e; rw [if_pos rfl]; exact World.cell?_setCell_same _ _ _ (by rw [h.lo c hc])
    · rw [if_neg e, World.cell?_setCell_other _ _ _ _ (by intro q; injection q; omega)]; exact h.lo c hc
  · rw [World.cell?_setCell_other _ _ _ _ (by intro q; injection q; omega)]; exact h.hi c hc
theorem SpRow.made {w : World} {rb n : Nat} (h : w.ownsRow 0 32 2 (.slice (some ⟨rb, 0, none⟩) n n) n (madeCells (Value.agg #[.int .i64 0, .int .i64 0]).cells (n * 2)).toList) :
    SpRow w rb n (fun _ => 0) (fun _ => 0) := by
  have at_ : ∀ j, j < n * 2 → w.cell? ⟨rb, j, none⟩ = some (.int .i64 0) := by
    intro j hj
    have hz : (madeCells (Value.agg #[.int .i64 0, .int .i64 0]).cells (n * 2)).toList[j]? = some (.int .i64 0) := by
      have hc : (Value.agg #[.int .i64 0, .int .i64 0]).cells = #[.int .i64 0, .int .i64 0] := rfl
      rw [hc]
      simp only [madeCells, Array.toList_map, Array.toList_range, List.getElem?_map, List.getElem?_range hj, Option.map_some]
      have : j % 2 = 0 ∨ j % 2 = 1 := by omega
      rcases this with e | e <;> simp [e]
    have := h.cells (g := rb) rfl j _ hz
    rw [← this]
    congr 1
    unfold Addr.add
    by_cases e : j = 0
    · rw [if_pos e, e]
    · rw [if_neg e]; simp
  rcases h.2 with ⟨e, _⟩ | ⟨g, cap, cur, e, _, hh, hn, _, hcs, _⟩
  · cases e
  · injection e with e1 e2 e3
    injection e1 with e1
    injection e1 with e1
    subst e1
    exact ⟨fun c hc => at_ _ (by omega), fun c hc => at_ _ (by omega), fun o => by simp [World.frozen?, hh], lt_of_block hh⟩
/-- Spans in memory. -/
structure SpP (w : World) (base ob T n : Nat) (rb : Nat → Nat) (lo hi : Nat → Nat → Int) : Prop where
  out : ∀ i, i < T → w.cell? ⟨ob, i, none⟩ = some (.slice (some ⟨rb i, 0, none⟩) n n)
  row : ∀ i, i < T → SpRow w (rb i) n (lo i) (hi i)
  inj : ∀ i j, i < T → j < T → rb i = rb j → i = j
  far : ∀ i, i < T → base ≤ rb i ∧ rb i ≠ ob
  obase : base ≤ ob
  olt : ob < w.heap.size
def SpansAt (w : World) (base : Nat) (v : Value) (T n : Nat) (lo hi : Nat → Nat → Int) : Prop :=
  ∃ ob cap rb, v = .slice (some ⟨ob, 0, none⟩) T cap ∧ SpP w base ob T n rb lo hi
def freeHi (C : Int) (c : Nat) : Int := if c < C.toNat then 40 else 0
/-- Between the rounds of free. -/
structure SpSt (t : CT) (w0 : World) (k : Nat) (V : Value) (wr : World) : Prop where
  own : ∃ rb : Nat → Nat, wr.ownsRow 0 56 1 V k ((List.range k).map fun i => .slice (some ⟨rb i, 0, none⟩) (t.C.toNat + 1) (t.C.toNat + 1)) ∧
    (∀ i, i < k → SpRow wr (rb i) (t.C.toNat + 1) (fun _ => 0) (freeHi t.C)) ∧ (∀ i j, i < k → j < k → rb i = rb j → i = j) ∧ ∀ i, i < k → w0.heap.size ≤ rb i ∧ V.ownBlock ≠ some (rb i)
  far : ∀ g, V.ownBlock = some g → w0.heap.size ≤ g
  bel : Bel w0 wr
theorem SpSt.start (t : CT) (w0 : World) : SpSt t w0 0 (.slice none 0 0) w0 :=
  ⟨⟨fun _ => 0, World.ownsRow_nil w0 0 _ 1, fun i hi => by omega, fun i j hi => by omega, fun i hi => by omega⟩, fun g h => by simp [Value.ownBlock] at h, Bel.refl _⟩
theorem SpSt.next {t : CT} {w0 wr wa w' : World} {k nb : Nat} {V V' : Value} (rb : Nat → Nat)
    (hown : wr.ownsRow 0 56 1 V k ((List.range k).map fun i => .slice (some ⟨rb i, 0, none⟩) (t.C.toNat + 1) (t.C.toNat + 1)))
    (hrow : ∀ i, i < k → SpRow wr (rb i) (t.C.toNat + 1) (fun _ => 0) (freeHi t.C)) (hinj : ∀ i j, i < k → j < k → rb i = rb j → i = j) (hfr : ∀ i, i < k → w0.heap.size ≤ rb i ∧ V.ownBlock ≠ some (rb i))
    (hfar : ∀ g, V.ownBlock = some g → w0.heap.size ≤ g) (h0 : Bel w0 wr) (hb : Bel wr wa) (hnb : wr.heap.size ≤ nb) (hP : SpRow wa nb (t.C.toNat + 1) (fun _ => 0) (freeHi t.C))
    (ho : w'.ownsRow 0 56 1 V' (k + 1) (((List.range k).map fun i => .slice (some ⟨rb i, 0, none⟩) (t.C.toNat + 1) (t.C.toNat + 1)) ++ [.slice (some ⟨nb, 0, none⟩) (t.C.toNat + 1) (t.C.toNat + 1)]))
    (hg : wa.grownBy w' V.ownBlock) (hv : V'.ownBlock = V.ownBlock ∨ V'.ownBlock = some wa.heap.size) : SpSt t w0 (k + 1) V' w' := by
  have hVlt : ∀ g, V.ownBlock = some g → g < wr.heap.size := fun g q => ownsRow_lt hown q
  have hne : V.ownBlock ≠ some nb := fun q => by have := hVlt nb q; omega
  have hs0 := h0.szle
  have hs1 := hb.szle
  have keep : ∀ i, i < k → SpRow w' (rb i) (t.C.toNat + 1) (fun _ => 0) (freeHi t.C) := fun i hi =>
    ((hrow i hi).bel hb).of_block hg.size (hg.block _ ((hrow i hi).bel hb).lt (fun q => (hfr i hi).2 q.symm))
  have keepN : SpRow w' nb (t.C.toNat + 1) (fun _ => 0) (freeHi t.C) := hP.of_block hg.size (hg.block _ hP.lt (fun q => hne q.symm))
  refine ⟨⟨fun i => if i = k then nb else rb i, ?_, fun i hi => ?_, fun i j hi hj e => ?_, fun i hi => ?_⟩, fun g q => ?_, (h0.trans hb).grown hg hfar⟩
  · rw [List.range_succ, List.map_append]
    have : (List.range k).map (fun i => Value.slice (some ⟨if i = k then nb else rb i, 0, none⟩) (t.C.toNat + 1) (t.C.toNat + 1)) = (List.range k).map fun i => Value.slice (some ⟨rb i, 0, none⟩) (t.C.toNat + 1) (t.C.toNat + 1) :=
      List.map_congr_left fun i hi => by rw [if_neg (by have := List.mem_range.1 hi; omega)]
    rw [this]
    simpa using ho
  · dsimp only
    by_cases e : i = k
    · rw [if_pos e]; exact keepN
    · rw [if_neg e]; exact keep i (by omega)
  · have lt : ∀ i, i < k → rb i < nb := fun i hi => by have := (hrow i hi).lt; omega
    by_cases e1 : i = k <;> by_cases e2 : j = k
    · omega
    · simp only [e1, e2, if_true, if_false] at e; have := lt j (by omega); omega
    · simp only [e1, e2, if_true, if_false] at e; have := lt i (by omega); omega
    · simp only [e1, e2, if_false] at e; exact hinj i j (by omega) (by omega) e
  · dsimp only
    by_cases e : i = k
    · rw [if_pos e]
      refine ⟨by omega, fun q => ?_⟩
      rcases hv with h | h
      · rw [h] at q; exact hne q
      · rw [h] at q; injection q with q; have := hP.lt; omega
    · rw [if_neg e]
      refine ⟨(hfr i (by omega)).1, fun q => ?_⟩
      rcases hv with h | h
      · rw [h] at q; exact (hfr i (by omega)).2 q
      · rw [h] at q; injection q with q; have := (hrow i (by omega)).lt; omega
  · rcases hv with h | h
    · exact hfar g (by rw [← h]; exact q)
    · rw [h] at q; injection q with q; omega
theorem SpSt.spans {t : CT} {w0 wr : World} {k : Nat} {V : Value} (hk : 0 < k) (h : SpSt t w0 k V wr) : SpansAt wr w0.heap.size V k (t.C.toNat + 1) (fun _ _ => 0) (fun _ => freeHi t.C) := by
  obtain ⟨rb, h1, h2, h3, h4⟩ := h.own
  rcases h1.2 with ⟨_, e⟩ | ⟨g, cap, cur, rfl, _, hh, _⟩
  · omega
  · refine ⟨g, cap, rb, rfl, fun i hi => ?_, h2, h3, fun i hi => ⟨(h4 i hi).1, fun q => (h4 i hi).2 (by rw [q]; rfl)⟩, h.far g rfl, lt_of_block hh⟩
    have := h1.cells (g := g) rfl i (.slice (some ⟨rb i, 0, none⟩) (t.C.toNat + 1) (t.C.toNat + 1)) (by simp [hi])
    rw [← this]
    congr 1
    unfold Addr.add
    by_cases e : i = 0
    · rw [if_pos e, e]
    · rw [if_neg e]; simp
theorem freeHi_to {C : Int} (c : Nat) (h : c < C.toNat + 1) : freeHi C c = if c < C.toNat then 40 else 0 := rfl
theorem free_any (t : CT) (v : Value) (w : World) (hv : TrapAt w v t) (f1 : 1 ≤ t.C) (f2 : t.C ≤ 4) (f3 : 1 ≤ t.T) (f4 : t.T ≤ 5) :
    Calls Try.prog 78 #[v] w fun e w' => ∃ s, e = .returned s ∧ Bel w w' ∧ SpansAt w' w.heap.size s t.T.toNat (t.C.toNat + 1) (fun _ _ => 0) (fun _ => freeHi t.C) := by
  obtain ⟨ov, wv, rfl, hrows, hwords⟩ := hv
  clear hrows hwords
  obtain ⟨i1, hi1, hz1, hs1, hb1⟩ := info_parts mkSpan
  obtain ⟨i2, hi2, hz2, hs2, hb2⟩ := info_parts mkSpans
  have HI1 := Lib.hid hi1
  have HI2 := Lib.hid hi2
  have HZ1 := Lib.hid hz1
  have HZ2 := Lib.hid hz2
  clear hi1 hi2 hz1 hz2
  have HNC := Lib.hid (show t.C + 1 = ((t.C.toNat + 1 : Nat) : Int) by omega)
  go_enter Try.func78, Try.ntmps78
  go_wp2
  generalize hW0 : w.alloc (Obj.cells #[Value.int IntKind.i64 t.C, Value.int IntKind.i64 t.T, ov, wv] 25) = W0
  have HB0 : Hid (Bel w W0) := Lib.hid (by rw [← hW0]; exact (by repeat (first | assumption | exact Bel.refl _ | refine Bel.drew ?_ | refine Bel.drewN ?_ _ | refine Bel.alloc ?_ _ | refine Bel.setCell ?_ (by simp <;> omega) _ | refine Bel.trans ?_ (by assumption))))
  have hbx0 : W0.cell? ⟨w.heap.size, 0, none⟩ = some (.int .i64 t.C) := by rw [← hW0]; simp
  have hbx1 : W0.cell? ⟨w.heap.size, 1, none⟩ = some (.int .i64 t.T) := by rw [← hW0]; simp
  have hsz : w.heap.size ≤ W0.heap.size := HB0.out.szle
  clear hW0
  have HX := Lib.hid (show _ ∧ _ from ⟨hbx0, hbx1⟩)
  clear hbx0 hbx1
  go_loopw [3, 4] (fun V i wr => ∃ n : Nat, n ≤ t.T.toNat ∧ i = .int .i64 n ∧ SpSt t W0 n V wr) (fun _ i _ => t.T.toNat - (intOf i).toNat)
  case atStart => exact ⟨0, by omega, rfl, SpSt.start t W0⟩
  case round =>
    obtain ⟨n, hn, rfl, hR⟩ := hrel
    have q0 := hR.bel.cell HX.out.1
    have q1 := hR.bel.cell HX.out.2
    by_cases hlt : n < t.T.toNat
    · have hni : (n : Int) < t.T := by omega
      go_wp2_with (at_make; refine wpList_make_full _ rfl _ _ 56 rfl 0 32 i1 (.agg #[.int .i64 0, .int .i64 0]) 2 Try.underlying56 HI1.out HZ1.out hs1 .i64 .i64 (t.C + 1) (t.C + 1) (t.C.toNat + 1) rfl rfl HNC.out HNC.out (by rw [hb1]; omega) (by unfold maxLen; omega) (Nat.zero_le _) ?_)
      intro w2 hown2 hgrow2
      have hP2 : SpRow w2 wr.heap.size (t.C.toNat + 1) (fun _ => 0) (fun c => if c < 0 then 40 else 0) := (SpRow.made hown2).congr (fun _ _ => rfl) (fun c _ => by simp)
      have hB2 : Bel wr w2 := (Bel.refl wr).grown hgrow2 (fun k h => by cases h)
      clear hown2 hgrow2
      generalize hrb : wr.heap.size = rb at *
      have hix := idxSpan (c := t.C.toNat + 1) (n := t.C.toNat + 1) (b := rb) (off := 0) (a := some ⟨rb, 0, none⟩) (fun _ => rfl)
      go_wp2
      clear q0 q1
      go_loopw [6] (fun i' wi => ∃ k : Nat, k ≤ t.C.toNat ∧ i' = .int .i64 k ∧ Bel wr wi ∧ SpRow wi rb (t.C.toNat + 1) (fun _ => 0) (fun c => if c < k then 40 else 0)) (fun i' _ => t.C.toNat - (intOf i').toNat)
      case atStart => exact ⟨0, by omega, rfl, hB2, hP2⟩
      case round =>
        obtain ⟨k, hk, rfl, hB, hP⟩ := hrel
        have q0 := hB.cell (hR.bel.cell HX.out.1)
        have q1 := hB.cell (hR.bel.cell HX.out.2)
        by_cases hltk : k < t.C.toNat
        · have hki : (k : Int) < t.C := by omega
          have hkn : k < t.C.toNat + 1 := by omega
          have hc := hP.hi k hkn
          have hfz := hP.fz (k * 2 + 1)
          have HP := Lib.hid ((hP.setHi hkn 40).congr (lo' := fun _ => 0) (hi' := fun c => if c < k + 1 then 40 else 0) (fun _ _ => rfl) (fun c _ => by
            by_cases e : c = k
            · rw [if_pos (by omega), if_pos e]
            · rw [if_neg e]; by_cases e2 : c < k
              · rw [if_pos e2, if_pos (by omega)]
              · rw [if_neg e2, if_neg (by omega)]))
          have HB := Lib.hid (hB.setCell (p := ⟨rb, k * 2 + 1, none⟩) (by show _ ≤ rb; omega) (.int .i64 40))
          clear hB hP
          go_wp2
          go_roundw
          case rel => exact ⟨k + 1, by omega, by go_num, HB.out, HP.out⟩
          case measure => simp [intOf]; omega
        · have hkC : k = t.C.toNat := by omega
          subst hkC
          obtain ⟨rbs, hown, hrow, hinj, hfr⟩ := hR.own
          have HOWN := Lib.hid hown
          have HREST := Lib.hid (show _ ∧ _ ∧ _ from ⟨hrow, hinj, hfr⟩)
          have HR := Lib.hid hR
          have HBB := Lib.hid hB
          have HPP := Lib.hid hP
          have hownb := (ownsRow_bel hown hB).alloc
          clear hown hrow hinj hfr hR hB hP
          generalize hVS : ((List.range n).map fun i => Value.slice (some ⟨rbs i, 0, none⟩) (t.C.toNat + 1) (t.C.toNat + 1)) = VS at *
          go_wp2_with (at_builtin; refine wpList_append_where rfl _ _ 96 rfl 56 i2 (.slice none 0 0) 1 24 Try.underlying96 HI2.out HZ2.out hs2 hb2 rfl (by decide) _ n VS rfl (hownb _) ⟨wr.heap.size, 0, none⟩ 1 1 [.slice (some ⟨rb, 0, none⟩) (t.C.toNat + 1) (t.C.toNat + 1)] rfl rfl (cell_one_new _ _ _) (fun x hx => by simp at hx; subst hx; rfl) (by unfold maxLen; omega) (by omega) ?_)
          intro V' w3 hown3 hgrow3 hwhere
          rw [← hVS] at hown3
          have HOWN2 := HOWN.out
          rw [← hVS] at HOWN2
          have HRN := Lib.hid (SpSt.next (wa := wr.alloc _) rbs HOWN2 HREST.out.1 HREST.out.2.1 HREST.out.2.2 HR.out.far HR.out.bel (HBB.out.alloc _) (by omega) (HPP.out.bel ((Bel.refl wr).alloc _)) hown3 hgrow3 (by rw [World.size_alloc]; exact hwhere))
          clear hown3 hgrow3 hwhere HOWN2
          go_wp2
          go_roundw
          case rel => exact ⟨n + 1, by omega, by go_num, HRN.out⟩
          case measure => simp [intOf]; omega
    · have hnT : n = t.T.toNat := by omega
      subst hnT
      obtain ⟨ob, cap, rb, hV, hS⟩ := hR.spans (by omega)
      have HB := Lib.hid (HB0.out.trans hR.bel)
      have HS := Lib.hid (show SpansAt wr w.heap.size u3 t.T.toNat (t.C.toNat + 1) (fun _ _ => 0) (fun _ => freeHi t.C) from ⟨ob, cap, rb, hV, hS.out, hS.row, hS.inj, fun i hi => ⟨by have := (hS.far i hi).1; omega, (hS.far i hi).2⟩, by have := hS.obase; omega, hS.olt⟩)
      clear hR hV hS
      go_wp2
      exact bodyPost_ret (v := u3) (by simp [results, Try.results78, go_sem, *]) rfl ⟨_, rfl, HB.out, HS.out⟩
end Go.Proofs.Ytoiajjdhgffdaaa

/-
  law: copied.
-/
import Derived.Test.YtkdcdhkhadhcfaaAppend2
import Derived.Test.YtkdcdhkhadhcfaaTruth
namespace Go.Proofs.Ytkdcdhkhadhcfaa
open Go Go.RowKit
set_option maxHeartbeats 1000000
set_option maxRecDepth 100000
/-- A row of the call's own reads as ints in every world that differs elsewhere. -/
theorem Off.own {w : World} {v x : Value} {l : List Int} (hl : l.length ≤ 140737488355328) (hx : w.ownsRow 0 3 1 x l.length (l.map (Value.int .i64))) (hv : ∀ g, v.ownBlock = some g → x.ownBlock ≠ some g) : Off w v fun w' => IntsAt w' x l := by
  intro w' hs hk
  rcases hx.2 with ⟨rfl, e⟩ | ⟨g, cap, cur, rfl, _, hh, hnc, _⟩
  · exact ⟨none, 0, 0, 0, by rw [e], fun q => by omega, ⟨hl, by omega⟩, fun j hj => by omega⟩
  · refine ⟨some ⟨g, 0, none⟩, cap, g, 0, rfl, fun _ => rfl, ⟨hl, hnc⟩, fun j hj => ?_⟩
    have h1 := hx.cells (g := g) rfl j (.int .i64 (at0 l j)) (by unfold at0; simp [List.getD, hj])
    have e : ((⟨g, 0, none⟩ : Addr).add j) = ⟨g, 0 + j, none⟩ := by
      unfold Addr.add
      by_cases e : j = 0
      · rw [if_pos e, e]
      · rw [if_neg e]
    rw [e] at h1
    rw [← h1]
    exact World.cell?_of_block (hk g (lt_of_block hh) (fun q => hv g q.symm rfl))
structure LSt (l : List (List Int)) (w0 : World) (n : Nat) (V : Value) (wr : World) : Prop where
  own : ∃ vs, wr.ownsRow 0 26 1 V n vs ∧ ∀ j, j < n → Off wr V fun w' => IntsAt w' (vs.getD j undef) (atL (l.take n) j)
  far : ∀ g, V.ownBlock = some g → w0.heap.size ≤ g
  bel : Bel w0 wr
theorem LSt.start (l : List (List Int)) (w0 : World) : LSt l w0 0 (.slice none 0 0) w0 :=
  ⟨⟨[], World.ownsRow_nil w0 0 _ 1, fun j hj => by omega⟩, fun g h => by simp [Value.ownBlock] at h, Bel.refl _⟩
theorem LSt.next {l : List (List Int)} {w0 wr wa w' : World} {n : Nat} {V V' x : Value} {vs : List Value} (hn : n < l.length) (hown : wr.ownsRow 0 26 1 V n vs)
    (hoff : ∀ j, j < n → Off wr V fun w' => IntsAt w' (vs.getD j undef) (atL (l.take n) j)) (hfar : ∀ g, V.ownBlock = some g → w0.heap.size ≤ g) (h0 : Bel w0 wr)
    (hb : Bel wr wa) (hx : Off wa V fun w' => IntsAt w' x (atL l n))
    (ho : w'.ownsRow 0 26 1 V' (n + 1) (vs ++ [x])) (hg : wa.grownBy w' V.ownBlock) (hv : V'.ownBlock = V.ownBlock ∨ V'.ownBlock = some wa.heap.size) :
    LSt l w0 (n + 1) V' w' := by
  have hl : (l.take n).length = n := by simp; omega
  have ht : l.take (n + 1) = l.take n ++ [atL l n] := by rw [List.take_add_one]; unfold atL; simp [List.getD, List.getElem?_eq_getElem hn]
  have key := OwnRows.add (w := wa) (w' := w') (v := V) (v' := V') (rows := l.take n) (row := atL l n) (vs := vs) (by rw [hl]; exact ownsRow_bel hown hb)
    (fun j hj => (hoff j (by rw [hl] at hj; exact hj)).bel hb) hx (by rw [hl]; exact ho) hg hv
  rw [← ht] at key
  obtain ⟨vs2, k1, k2⟩ := key
  have hl2 : (l.take (n + 1)).length = n + 1 := by simp; omega
  rw [hl2] at k1 k2
  refine ⟨⟨vs2, k1, k2⟩, fun g q => ?_, (h0.trans hb).grown hg hfar⟩
  rcases hv with e | e
  · exact hfar g (by rw [← e]; exact q)
  · rw [e] at q; injection q with q; have := h0.szle; have := hb.szle; omega
theorem LSt.rows {l : List (List Int)} {w0 wr : World} {V : Value} (hl : l.length ≤ 140737488355328) (h : LSt l w0 l.length V wr) : RowsAt wr V l := by
  obtain ⟨vs, h1, h2⟩ := h.own
  rw [List.take_length] at h2
  exact OwnRows.rows ⟨vs, h1, h2⟩ hl
end Go.Proofs.Ytkdcdhkhadhcfaa

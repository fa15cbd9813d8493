/-
  counts: Truth.
-/
import Derived.Test.YtkdcdhkhadhcfaaOwnI
import Derived.Test.YtkdcdhkhadhcfaaOpen2
import Derived.Test.YtkdcdhkhadhcfaaAppend
import Derived.OwnWalk
namespace Go.Proofs.Ytkdcdhkhadhcfaa
open Go Go.RowKit
set_option maxHeartbeats 1000000
set_option maxRecDepth 100000
/-- What does not lie in the own block stays. -/
theorem Off.ints {w : World} {v x : Value} {l : List Int} {b : Nat} (hl : l.length ≤ 140737488355328) (hx : x = .slice (some ⟨b, 0, none⟩) l.length l.length)
    (hc : ∀ j, j < l.length → w.cell? ⟨b, j, none⟩ = some (.int .i64 (at0 l j))) (hb : b < w.heap.size) (hv : ∀ g, v.ownBlock = some g → g ≠ b) : Off w v fun w' => IntsAt w' x l := by
  intro w' hs hk
  refine ⟨some ⟨b, 0, none⟩, l.length, b, 0, hx, fun _ => rfl, ⟨hl, Nat.le_refl _⟩, fun j hj => ?_⟩
  rw [Nat.zero_add, ← hc j hj]
  exact World.cell?_of_block (hk b hb (fun q => hv b q.symm rfl))
/-- A row of which the first k are written. -/
structure Part (w : World) (rb n k : Nat) (f : Nat → Int) : Prop where
  done : ∀ j, j < k → w.cell? ⟨rb, j, none⟩ = some (.int .i64 (f j))
  there : ∀ j, j < n → ∃ u, w.cell? ⟨rb, j, none⟩ = some u
  fz : ∀ o, w.frozen? ⟨rb, o, none⟩ = false
  lt : rb < w.heap.size
theorem Part.bel {w w' : World} {rb n k : Nat} {f : Nat → Int} (h : Part w rb n k f) (q : Bel w w') : Part w' rb n k f :=
  ⟨fun j hj => q.cell (h.done j hj), fun j hj => by obtain ⟨u, hu⟩ := h.there j hj; exact ⟨u, q.cell hu⟩, fun o => by rw [q.frozens _ h.lt]; exact h.fz o, Nat.lt_of_lt_of_le h.lt q.szle⟩
theorem Part.step {w : World} {rb n k : Nat} {f : Nat → Int} (h : Part w rb n k f) (hk : k < n) : Part (w.setCell ⟨rb, k, none⟩ (.int .i64 (f k))) rb n (k + 1) f := by
  refine ⟨fun j hj => ?_, fun j hj => ?_, fun o => by rw [World.frozen?_setCell]; exact h.fz o, by simpa using h.lt⟩
  · by_cases e : j = k
    · obtain ⟨u, hu⟩ := h.there k hk
      rw [e]; exact World.cell?_setCell_same _ _ _ (by rw [hu])
    · rw [World.cell?_setCell_other _ _ _ _ (by intro q; injection q; omega)]
      exact h.done j (by omega)
  · by_cases e : j = k
    · obtain ⟨u, hu⟩ := h.there k hk
      rw [e]; exact ⟨_, World.cell?_setCell_same _ _ _ (by rw [hu])⟩
    · rw [World.cell?_setCell_other _ _ _ _ (by intro q; injection q; omega)]
      exact h.there j hj
theorem Part.made {w : World} {rb n : Nat} {xs : List Value} {f : Nat → Int} (h : w.ownsRow 0 3 1 (.slice (some ⟨rb, 0, none⟩) n n) n xs) : Part w rb n 0 f := by
  have hl := h.1
  rcases h.2 with ⟨e, _⟩ | ⟨g, cap, cur, e, _, hh, hn, _, hcs, _⟩
  · cases e
  · injection e with e1 e2 e3
    injection e1 with e1
    injection e1 with e1
    subst e1
    refine ⟨fun j hj => by omega, fun j hj => ⟨cur[j]'(by omega), ?_⟩, fun o => ?_, lt_of_block hh⟩
    · simp [World.cell?, hh, Array.getElem?_eq_getElem (show j < cur.size by omega)]
    · simp [World.frozen?, hh]
/-! What Truth computes -/
def truthAt (t : CT) (i c : Nat) : Int := -(setMat t (-1) (nd t.C i c) 0) + setMat t (-1) (nd t.C i ((c : Int) + 1)) 0
def truthRow (t : CT) (i : Nat) : List Int := (List.range t.C.toNat).map (truthAt t i)
def truthTo (t : CT) (n : Nat) : List (List Int) := (List.range n).map (truthRow t)
def truthRows (t : CT) : List (List Int) := truthTo t t.T.toNat
theorem truthTo_succ (t : CT) (n : Nat) : truthTo t (n + 1) = truthTo t n ++ [truthRow t n] := by unfold truthTo; simp [List.range_succ]
theorem truthTo_len (t : CT) (n : Nat) : (truthTo t n).length = n := by unfold truthTo; simp
theorem truthRow_len (t : CT) (n : Nat) : (truthRow t n).length = t.C.toNat := by unfold truthRow; simp
theorem truthRow_at (t : CT) (n j : Nat) (h : j < t.C.toNat) : at0 (truthRow t n) j = truthAt t n j := by unfold truthRow at0; simp [List.getD, h]
def TruthPost (t : CT) (w : World) (e : Ending) (w' : World) : Prop :=
  (errR t true ≠ 0 ∧ e = .returned (.tuple #[.slice none 0 0, .int .i64 (errR t true)]) ∧ Bel w w') ∨
  (errR t true = 0 ∧ ∃ v, e = .returned (.tuple #[v, .int .i64 0]) ∧ RowsAt w' v (truthRows t) ∧ Bel w w')
/-- Between the rounds. -/
structure RowsSt (t : CT) (w0 : World) (n : Nat) (V : Value) (wr : World) : Prop where
  own : ∃ vs, wr.ownsRow 0 26 1 V n vs ∧ ∀ j, j < n → Off wr V fun w' => IntsAt w' (vs.getD j undef) (atL (truthTo t n) j)
  far : ∀ g, V.ownBlock = some g → w0.heap.size ≤ g
  bel : Bel w0 wr
theorem RowsSt.start (t : CT) (w0 : World) : RowsSt t w0 0 (.slice none 0 0) w0 :=
  ⟨⟨[], World.ownsRow_nil w0 0 _ 1, fun j hj => by omega⟩, fun g h => by simp [Value.ownBlock] at h, Bel.refl _⟩
theorem RowsSt.next {t : CT} {w0 wr wa w' : World} {n rb : Nat} {V V' : Value} {vs : List Value} (hown : wr.ownsRow 0 26 1 V n vs)
    (hoff : ∀ j, j < n → Off wr V fun w' => IntsAt w' (vs.getD j undef) (atL (truthTo t n) j)) (hfar : ∀ g, V.ownBlock = some g → w0.heap.size ≤ g) (h0 : Bel w0 wr)
    (hb : Bel wr wa) (hrb : wr.heap.size ≤ rb) (hC : t.C ≤ 4) (hP : Part wa rb t.C.toNat t.C.toNat (truthAt t n))
    (ho : w'.ownsRow 0 26 1 V' (n + 1) (vs ++ [.slice (some ⟨rb, 0, none⟩) t.C.toNat t.C.toNat])) (hg : wa.grownBy w' V.ownBlock) (hv : V'.ownBlock = V.ownBlock ∨ V'.ownBlock = some wa.heap.size) :
    RowsSt t w0 (n + 1) V' w' := by
  have hl := truthTo_len t n
  have hx : Off wa V fun w' => IntsAt w' (.slice (some ⟨rb, 0, none⟩) t.C.toNat t.C.toNat) (truthRow t n) := by
    refine Off.ints (b := rb) (by rw [truthRow_len]; omega) (by rw [truthRow_len]) (fun j hj => ?_) hP.lt (fun g q => by have := ownsRow_lt hown q; omega)
    rw [truthRow_len] at hj
    rw [truthRow_at t n j hj]; exact hP.done j hj
  have key := OwnRows.add (w := wa) (w' := w') (v := V) (v' := V') (rows := truthTo t n) (row := truthRow t n) (vs := vs) (by rw [hl]; exact ownsRow_bel hown hb)
    (fun j hj => (hoff j (by rw [hl] at hj; exact hj)).bel hb) hx (by rw [hl]; exact ho) hg hv
  rw [← truthTo_succ] at key
  obtain ⟨vs2, k1, k2⟩ := key
  rw [truthTo_len] at k1 k2
  refine ⟨⟨vs2, k1, k2⟩, fun g q => ?_, (h0.trans hb).grown hg hfar⟩
  rcases hv with e | e
  · exact hfar g (by rw [← e]; exact q)
  · rw [e] at q; injection q with q; have := h0.szle; have := hb.szle; omega
theorem RowsSt.rows {t : CT} {w0 wr : World} {V : Value} (hT : t.T ≤ 5) (h : RowsSt t w0 t.T.toNat V wr) : RowsAt wr V (truthRows t) := by
  obtain ⟨vs, h1, h2⟩ := h.own
  have hl : (truthRows t).length = t.T.toNat := truthTo_len t _
  exact OwnRows.rows ⟨vs, by rw [hl]; exact h1, fun j hj => h2 j (by rw [hl] at hj; exact hj)⟩ (by rw [hl]; omega)
end Go.Proofs.Ytkdcdhkhadhcfaa

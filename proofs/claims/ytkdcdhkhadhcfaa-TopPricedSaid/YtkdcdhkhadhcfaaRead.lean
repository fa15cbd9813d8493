/-
  How lists of numbers, lists of lists, words and traps lie in memory.
-/
import Derived.Test.YtkdcdhkhadhcfaaMem
import Derived.Test.YtkdcdhkhadhcfaaData
import Derived.ChangeKeysEq
namespace Go.Proofs.Ytkdcdhkhadhcfaa
open Go Go.RowKit

/-- An element's address in a slice that may be nil where it is empty. -/
theorem idxRule {P : Program} (T e sz : Nat) {i0 : TypeInfo} (hT : P.underlying T = some (.slice e)) (hi : P.info? e = some i0) (hs : P.cellsOf e = sz)
    {a : Option Addr} {n c b off : Nat} (ha : 0 < n → a = some ⟨b, off, none⟩) :
    ∀ (w : World) (i : Nat), i < n → (Instr.indexAt T (.slice a n c) (.int .i64 i)).run P w = .ok (.pointer (some ⟨b, off + i * sz, none⟩)) w := by
  intro w i hin
  rw [ha (by omega)]
  have he : P.elem T = e := by simp [Program.elem, hT]
  have h := run_indexAt_slice (P := P) w T ⟨b, off, none⟩ n c .i64 i (by rw [he]; exact hT)
  rw [h, if_pos ⟨by omega, by omega⟩, he, run_sizeOf _ hi, hs]
  show Result.ok (Value.pointer (some (Addr.add ⟨b, off, none⟩ (i * sz)))) w = _
  unfold Addr.add
  by_cases h0 : i * sz = 0
  · rw [if_pos h0, h0]; rfl
  · rw [if_neg h0]

/-- A slice of ints reads as the list. -/
def IntsAt (w : World) (v : Value) (l : List Int) : Prop :=
  ∃ a c b off, v = .slice a l.length c ∧ (0 < l.length → a = some ⟨b, off, none⟩) ∧ (l.length ≤ 140737488355328 ∧ l.length ≤ c) ∧
    ∀ i, i < l.length → w.cell? ⟨b, off + i, none⟩ = some (.int .i64 (at0 l i))
theorem IntsAt.bel {w w' : World} {v : Value} {l : List Int} (h : IntsAt w v l) (k : Bel w w') : IntsAt w' v l := by
  obtain ⟨a, c, b, off, h1, h2, h3, h4⟩ := h
  exact ⟨a, c, b, off, h1, h2, h3, fun i hi => k.cell (h4 i hi)⟩
theorem IntsAt.nil (w : World) : IntsAt w (.slice none 0 0) [] := ⟨none, 0, 0, 0, rfl, fun h => absurd h (by simp), by simp, fun i hi => absurd hi (by simp)⟩

/-- A slice of slices of ints reads as the list of lists. -/
def RowsAt (w : World) (v : Value) (l : List (List Int)) : Prop :=
  ∃ a c b off, ∃ (rv : Nat → Value), v = .slice a l.length c ∧ (0 < l.length → a = some ⟨b, off, none⟩) ∧ l.length ≤ 140737488355328 ∧
    ∀ i, i < l.length → w.cell? ⟨b, off + i, none⟩ = some (rv i) ∧ IntsAt w (rv i) (atL l i)
theorem RowsAt.bel {w w' : World} {v : Value} {l : List (List Int)} (h : RowsAt w v l) (k : Bel w w') : RowsAt w' v l := by
  obtain ⟨a, c, b, off, rv, h1, h2, h3, h4⟩ := h
  exact ⟨a, c, b, off, rv, h1, h2, h3, fun i hi => ⟨k.cell (h4 i hi).1, (h4 i hi).2.bel k⟩⟩

/-- The value of a word. -/
def CW.val (x : CW) : Value := .agg #[.int .i64 x.time, .int .i64 x.chamber, .int .i64 x.low, .int .i64 x.high]
/-- A slice of words reads as the list. -/
def WordsAt (w : World) (v : Value) (l : List CW) : Prop :=
  ∃ a c b off, v = .slice a l.length c ∧ (0 < l.length → a = some ⟨b, off, none⟩) ∧ (l.length ≤ 140737488355328 ∧ l.length ≤ c) ∧
    ∀ i, i < l.length → w.cell? ⟨b, off + i * 4, none⟩ = some (.int .i64 (atW l i).time) ∧ w.cell? ⟨b, off + i * 4 + 1, none⟩ = some (.int .i64 (atW l i).chamber) ∧
      w.cell? ⟨b, off + i * 4 + 2, none⟩ = some (.int .i64 (atW l i).low) ∧ w.cell? ⟨b, off + i * 4 + 3, none⟩ = some (.int .i64 (atW l i).high)
theorem WordsAt.bel {w w' : World} {v : Value} {l : List CW} (h : WordsAt w v l) (k : Bel w w') : WordsAt w' v l := by
  obtain ⟨a, c, b, off, h1, h2, h3, h4⟩ := h
  exact ⟨a, c, b, off, h1, h2, h3, fun i hi => ⟨k.cell (h4 i hi).1, k.cell (h4 i hi).2.1, k.cell (h4 i hi).2.2.1, k.cell (h4 i hi).2.2.2⟩⟩

/-- The value of a trap, over the values of its two slices. -/
def trapV (C T : Int) (ov wv : Value) : Value := .agg #[.int .i64 C, .int .i64 T, ov, wv]
/-- A trap's value reads as the trap. -/
def TrapAt (w : World) (v : Value) (t : CT) : Prop := ∃ ov wv, v = .agg #[.int .i64 t.C, .int .i64 t.T, ov, wv] ∧ RowsAt w ov t.op ∧ WordsAt w wv t.ws
theorem TrapAt.bel {w w' : World} {v : Value} {t : CT} (h : TrapAt w v t) (k : Bel w w') : TrapAt w' v t := by
  obtain ⟨ov, wv, h1, h2, h3⟩ := h
  exact ⟨ov, wv, h1, h2.bel k, h3.bel k⟩
end Go.Proofs.Ytkdcdhkhadhcfaa

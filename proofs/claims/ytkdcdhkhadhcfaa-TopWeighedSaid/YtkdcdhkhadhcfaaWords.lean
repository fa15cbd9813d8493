/-
  words as the cells of an owned row.
-/
import Derived.Test.YtkdcdhkhadhcfaaCopied
namespace Go.Proofs.Ytkdcdhkhadhcfaa
open Go Go.RowKit
theorem mkWord : (Try.prog.info? 53).map (fun i => (i.zero, i.size, i.bytes)) = some (some (.agg #[.int .i64 0, .int .i64 0, .int .i64 0, .int .i64 0]), 4, 32) := by kernel_rfl
def wcell (ws : List CW) (j : Nat) : Value :=
  if j % 4 = 0 then .int .i64 (atW ws (j / 4)).time else if j % 4 = 1 then .int .i64 (atW ws (j / 4)).chamber else if j % 4 = 2 then .int .i64 (atW ws (j / 4)).low else .int .i64 (atW ws (j / 4)).high
def wordCells (ws : List CW) : List Value := (List.range (ws.length * 4)).map (wcell ws)
theorem wordCells_len (ws : List CW) : (wordCells ws).length = ws.length * 4 := by unfold wordCells; simp
theorem wordCells_at (ws : List CW) (j : Nat) (h : j < ws.length * 4) : (wordCells ws)[j]? = some (wcell ws j) := by unfold wordCells; rw [List.getElem?_map, List.getElem?_range h]; rfl
theorem wordCells_get {ws : List CW} {j : Nat} {u : Value} (h : (wordCells ws)[j]? = some u) : j < ws.length * 4 ∧ u = wcell ws j := by
  rcases Nat.lt_or_ge j (ws.length * 4) with q | q
  · rw [wordCells_at ws j q] at h; injection h with h; exact ⟨q, h.symm⟩
  · rw [List.getElem?_eq_none (by rw [wordCells_len]; exact q)] at h; cases h
theorem wordCells_one (ws : List CW) : ∀ u ∈ wordCells ws, u.oneCell' = true := by
  intro u hu
  unfold wordCells at hu
  obtain ⟨j, _, rfl⟩ := List.mem_map.1 hu
  unfold wcell
  split
  · rfl
  · split
    · rfl
    · split <;> rfl
theorem add_off (b off j : Nat) : ((⟨b, off, none⟩ : Addr).add j) = ⟨b, off + j, none⟩ := by
  unfold Addr.add
  by_cases e : j = 0
  · rw [if_pos e, e]; rfl
  · rw [if_neg e]
/-- The cells of a slice of words. -/
theorem WordsAt.src {w : World} {wb woff : Nat} {ws : List CW} (h : ∀ i, i < ws.length → w.cell? ⟨wb, woff + i * 4, none⟩ = some (.int .i64 (atW ws i).time) ∧ w.cell? ⟨wb, woff + i * 4 + 1, none⟩ = some (.int .i64 (atW ws i).chamber) ∧
      w.cell? ⟨wb, woff + i * 4 + 2, none⟩ = some (.int .i64 (atW ws i).low) ∧ w.cell? ⟨wb, woff + i * 4 + 3, none⟩ = some (.int .i64 (atW ws i).high)) (j : Nat) (u : Value) (hu : (wordCells ws)[j]? = some u) :
    w.cell? ((⟨wb, woff, none⟩ : Addr).add j) = some u := by
  obtain ⟨hj, rfl⟩ := wordCells_get hu
  obtain ⟨h0, h1, h2, h3⟩ := h (j / 4) (by omega)
  rw [add_off]
  have e : woff + j = woff + j / 4 * 4 + j % 4 := by omega
  unfold wcell
  by_cases q0 : j % 4 = 0
  · rw [if_pos q0, e, q0]; exact h0
  · rw [if_neg q0]
    by_cases q1 : j % 4 = 1
    · rw [if_pos q1, e, q1]; exact h1
    · rw [if_neg q1]
      by_cases q2 : j % 4 = 2
      · rw [if_pos q2, e, q2]; exact h2
      · rw [if_neg q2, e, show j % 4 = 3 by omega]; exact h3
/-- A row of the call's own that holds words reads as words. -/
theorem WordsAt.own {w : World} {v : Value} {ws : List CW} (hl : ws.length ≤ 140737488355328) (h : w.ownsRow 0 53 4 v ws.length (wordCells ws)) : WordsAt w v ws := by
  rcases h.2 with ⟨rfl, e⟩ | ⟨g, cap, cur, rfl, _, hh, hnc, _⟩
  · exact ⟨none, 0, 0, 0, by rw [e], fun q => by omega, ⟨hl, by omega⟩, fun i hi => by omega⟩
  · refine ⟨some ⟨g, 0, none⟩, cap, g, 0, rfl, fun _ => rfl, ⟨hl, hnc⟩, fun i hi => ?_⟩
    have key : ∀ j, j < ws.length * 4 → w.cell? ⟨g, 0 + j, none⟩ = some (wcell ws j) := fun j hj => by
      rw [← add_off]; exact h.cells (g := g) rfl j _ (wordCells_at ws j hj)
    refine ⟨?_, ?_, ?_, ?_⟩
    · rw [key (i * 4) (by omega)]; unfold wcell; rw [if_pos (by omega), show i * 4 / 4 = i by omega]
    · rw [Nat.add_assoc, key (i * 4 + 1) (by omega)]; unfold wcell; rw [if_neg (by omega), if_pos (by omega), show (i * 4 + 1) / 4 = i by omega]
    · rw [Nat.add_assoc, key (i * 4 + 2) (by omega)]; unfold wcell; rw [if_neg (by omega), if_neg (by omega), if_pos (by omega), show (i * 4 + 2) / 4 = i by omega]
    · rw [Nat.add_assoc, key (i * 4 + 3) (by omega)]; unfold wcell; rw [if_neg (by omega), if_neg (by omega), if_neg (by omega), show (i * 4 + 3) / 4 = i by omega]
end Go.Proofs.Ytkdcdhkhadhcfaa

/-
  beasts: Clone of doors.
-/
import Derived.Lib.BufferMore
import Derived.Test.YtogiidkofddhaaaDoorBRows
namespace Go.Proofs.YtogiidkofddhaaaDoor
open Go Go.RowKit Go.Shelf
set_option maxHeartbeats 4000000
set_option maxRecDepth 100000
theorem mkDoor : (Tryd.prog.info? 43).map (fun i => (i.zero, i.size, i.bytes)) = some (some (.agg #[.int .i64 0, .int .i64 0, .int .i64 0]), 3, 24) := by kernel_rfl
def dcell (l : List BD) (j : Nat) : Value := if j % 3 = 0 then .int .i64 (atD l (j / 3)).a else if j % 3 = 1 then .int .i64 (atD l (j / 3)).b else .int .i64 (atD l (j / 3)).cost
def doorCells (l : List BD) : List Value := (List.range (l.length * 3)).map (dcell l)
theorem doorCells_len (l : List BD) : (doorCells l).length = l.length * 3 := by unfold doorCells; simp
theorem doorCells_at (l : List BD) (j : Nat) (h : j < l.length * 3) : (doorCells l)[j]? = some (dcell l j) := by unfold doorCells; rw [List.getElem?_map, List.getElem?_range h]; rfl
theorem doorCells_get {l : List BD} {j : Nat} {u : Value} (h : (doorCells l)[j]? = some u) : j < l.length * 3 ∧ u = dcell l j := by
  rcases Nat.lt_or_ge j (l.length * 3) with q | q
  · rw [doorCells_at l j q] at h; injection h with h; exact ⟨q, h.symm⟩
  · rw [List.getElem?_eq_none (by rw [doorCells_len]; exact q)] at h; cases h
theorem doorCells_one (l : List BD) : ∀ u ∈ doorCells l, u.oneCell' = true := by
  intro u hu
  unfold doorCells at hu
  obtain ⟨j, _, rfl⟩ := List.mem_map.1 hu
  unfold dcell
  split
  · rfl
  · split <;> rfl
theorem doors_src {w : World} {db doff : Nat} {l : List BD} (h : ∀ i, i < l.length → w.cell? ⟨db, doff + i * 3, none⟩ = some (.int .i64 (atD l i).a) ∧ w.cell? ⟨db, doff + i * 3 + 1, none⟩ = some (.int .i64 (atD l i).b) ∧ w.cell? ⟨db, doff + i * 3 + 2, none⟩ = some (.int .i64 (atD l i).cost))
    (j : Nat) (u : Value) (hu : (doorCells l)[j]? = some u) : w.cell? ((⟨db, doff, none⟩ : Addr).add j) = some u := by
  obtain ⟨hj, rfl⟩ := doorCells_get hu
  obtain ⟨h0, h1, h2⟩ := h (j / 3) (by omega)
  rw [addr_off]
  have e : doff + j = doff + j / 3 * 3 + j % 3 := by omega
  unfold dcell
  by_cases q0 : j % 3 = 0
  · rw [if_pos q0, e, q0]; exact h0
  · rw [if_neg q0]
    by_cases q1 : j % 3 = 1
    · rw [if_pos q1, e, q1]; exact h1
    · rw [if_neg q1, e, show j % 3 = 2 by omega]; exact h2
theorem fresh_row {w : World} {T sz g : Nat} (h : w.heap[g]? = some (.cells #[] T (0, 0))) : w.ownsRow 0 T sz (.slice (some ⟨g, 0, none⟩) 0 0) 0 [] :=
  ⟨by simp, .inr ⟨g, 0, #[], rfl, Nat.zero_le _, h, Nat.le_refl _, Nat.zero_le _, by simp, by simp⟩⟩
/-- Doors in a block of the call's own. -/
structure OwnDoors (w0 : World) (l : List BD) (g cap : Nat) (w : World) : Prop where
  ge : w0.heap.size ≤ g
  cap : l.length ≤ cap
  cells : ∀ i, i < l.length → w.cell? ⟨g, i * 3, none⟩ = some (.int .i64 (atD l i).a) ∧ w.cell? ⟨g, i * 3 + 1, none⟩ = some (.int .i64 (atD l i).b) ∧ w.cell? ⟨g, i * 3 + 2, none⟩ = some (.int .i64 (atD l i).cost)
  froz : ∀ o, w.frozen? ⟨g, o, none⟩ = false
theorem Clone_any (v : Value) (l : List BD) (w : World) (hv : DoorsAt w v l) (h0 : 0 < l.length) (h8 : l.length ≤ 8) :
    Calls Tryd.prog 93 #[v] w fun e w' => ∃ g cap, e = .returned (.slice (some ⟨g, 0, none⟩) l.length cap) ∧ OwnDoors w l g cap w' ∧ Bel w w' := by
  obtain ⟨da, dc, db, doff, rfl, hda, ⟨hdl, _⟩, hdc⟩ := hv
  obtain rfl := hda h0
  obtain ⟨i1, hi1, hz1, hs1, hb1⟩ := info_parts mkDoor
  have HI1 := Lib.hid hi1
  have HZ1 := Lib.hid hz1
  have hsrc : ∀ j u, (doorCells l)[j]? = some u → (w.alloc (.cells #[] 43)).cell? ((⟨db, doff, none⟩ : Addr).add j) = some u := doors_src fun i hi => by
    obtain ⟨d0, d1, d2⟩ := hdc i hi
    have hb : Bel w (w.alloc (.cells #[] 43)) := (Bel.refl w).alloc _
    exact ⟨hb.cell d0, hb.cell d1, hb.cell d2⟩
  have HS := Lib.hid hsrc
  have HD1 := Lib.hid (doorCells_len l)
  have HD2 := Lib.hid (doorCells_one l)
  have HFR : Hid ((w.alloc (.cells #[] 43)).ownsRow 0 43 3 (.slice (some ⟨w.heap.size, 0, none⟩) 0 0) 0 []) := Lib.hid (fresh_row (new_row rfl))
  have hnil : ∀ W, (binOp .eql 22 (.slice (some ⟨db, doff, none⟩) l.length dc) (.slice none 0 0)).run Tryd.prog W = .ok (.bool false) W := fun W => Lib.run_eql_slice_some_nil W _ _ _ Tryd.underlying22
  clear hi1 hz1 hsrc hdc hda
  go_enter Tryd.func93, Tryd.ntmps93
  go_wp2_with (at_builtin; refine wpList_append_where rfl _ _ 22 rfl 43 i1 (.agg #[.int .i64 0, .int .i64 0, .int .i64 0]) 3 24 Tryd.underlying22 HI1.out HZ1.out hs1 hb1 rfl (by decide) _ 0 [] rfl HFR.out ⟨db, doff, none⟩ l.length dc (doorCells l) rfl HD1.out HS.out HD2.out (by unfold maxLen; omega) (by omega) ?_; intro V' w6 hown hgrow hwhere)
  have hbel : Bel w w6 := ((Bel.refl w).alloc _).grown hgrow (fun k e => by have e' : some w.heap.size = some k := e; injection e' with e'; omega)
  have HBW := Lib.hid hbel
  have hown' : w6.ownsRow 0 43 3 V' l.length (doorCells l) := by simpa using hown
  rcases hown'.2 with ⟨rfl, e⟩ | ⟨g, cap, cur, rfl, _, hh, hnc, _⟩
  · omega
  · have hcl := hown'.cells (g := g) rfl
    have hge : w.heap.size ≤ g := by
      have h2 : some g = some w.heap.size ∨ some g = some (w.alloc (.cells #[] 43)).heap.size := hwhere
      rw [World.size_alloc] at h2
      rcases h2 with h2 | h2
      · injection h2 with h2; omega
      · injection h2 with h2; omega
    have HO : Hid (OwnDoors w l g cap w6) := Lib.hid ⟨hge, hnc, fun i hi => by
      have key : ∀ j, j < l.length * 3 → w6.cell? ⟨g, 0 + j, none⟩ = some (dcell l j) := fun j hj => by rw [← addr_off]; exact hcl j _ (doorCells_at l j hj)
      refine ⟨?_, ?_, ?_⟩
      · have := key (i * 3) (by omega); rw [Nat.zero_add] at this; rw [this]; unfold dcell; rw [if_pos (by omega), show i * 3 / 3 = i by omega]
      · have := key (i * 3 + 1) (by omega); rw [Nat.zero_add] at this; rw [this]; unfold dcell; rw [if_neg (by omega), if_pos (by omega), show (i * 3 + 1) / 3 = i by omega]
      · have := key (i * 3 + 2) (by omega); rw [Nat.zero_add] at this; rw [this]; unfold dcell; rw [if_neg (by omega), if_neg (by omega), show (i * 3 + 2) / 3 = i by omega], fun o => (row_facts hh).2 o⟩
    clear hown hown' hgrow hwhere hh hcl hbel
    go_wp2
    exact bodyPost_ret (v := .slice (some ⟨g, 0, none⟩) l.length cap) (by simp [results, Tryd.results93, go_sem]) rfl ⟨g, cap, rfl, HO.out, HBW.out⟩
end Go.Proofs.YtogiidkofddhaaaDoor

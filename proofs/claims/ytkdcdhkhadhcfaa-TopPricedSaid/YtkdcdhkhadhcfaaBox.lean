/-
  boxes: the cells of a block of the call's own; lists of structs as flat cells; copies made by append.
-/
import Derived.Test.YtkdcdhkhadhcfaaOwnI
namespace Go.Proofs.Ytkdcdhkhadhcfaa
set_option linter.unusedVariables false
open Go Go.RowKit
set_option maxHeartbeats 1000000
set_option maxRecDepth 100000
/-- The cells of a block that only the call writes. -/
structure Bx (w : World) (p : Nat) (cs : List Value) : Prop where
  c : ∀ (j : Nat) (u : Value), cs[j]? = some u → w.cell? ⟨p, j, none⟩ = some u
  f : ∀ o, w.frozen? ⟨p, o, none⟩ = false
  lt : p < w.heap.size
theorem Bx.new {w : World} {cs : List Value} {T : TypeId} {g : Nat} (h : g = w.heap.size) : Bx (w.alloc (.cells cs.toArray T)) g cs :=
  ⟨fun j u hu => by rw [(row_facts (new_row h)).1 j]; simpa using hu, (row_facts (new_row h)).2, by rw [World.size_alloc]; omega⟩
theorem Bx.bel {w w' : World} {p : Nat} {cs : List Value} (h : Bx w p cs) (k : Bel w w') : Bx w' p cs :=
  ⟨fun j u hu => k.cell (h.c j u hu), fun o => (k.frozens _ h.lt).trans (h.f o), Nat.lt_of_lt_of_le h.lt k.szle⟩
theorem Bx.set {w : World} {p i : Nat} {cs : List Value} (h : Bx w p cs) (hi : i < cs.length) (v : Value) : Bx (w.setCell ⟨p, i, none⟩ v) p (cs.set i v) :=
  ⟨fun j u hu => by
    rw [List.getElem?_set] at hu
    by_cases e : i = j
    · rw [if_pos e, if_pos hi] at hu
      rw [← e, World.cell?_setCell_same _ _ _ (h.c i _ (List.getElem?_eq_getElem hi))]
      exact hu
    · rw [if_neg e] at hu
      exact (World.cell?_setCell_other _ _ _ _ (by intro q; injection q with q1 q2; omega)).trans (h.c j u hu), fun o => (World.frozen?_setCell ..).trans (h.f o), by rw [World.size_setCell]; exact h.lt⟩
theorem Bx.other {w : World} {p q i : Nat} {cs : List Value} (h : Bx w p cs) (hq : q ≠ p) (v : Value) : Bx (w.setCell ⟨q, i, none⟩ v) p cs :=
  ⟨fun j u hu => (World.cell?_setCell_other _ _ _ _ (by intro e; injection e with e1 e2; omega)).trans (h.c j u hu), fun o => (World.frozen?_setCell ..).trans (h.f o), by rw [World.size_setCell]; exact h.lt⟩
theorem Bx.grown {w w' : World} {p : Nat} {r : Option Nat} {cs : List Value} (h : Bx w p cs) (hg : w.grownBy w' r) (hr : r ≠ some p) : Bx w' p cs := by
  have hb := hg.block p h.lt (fun e => hr e.symm)
  exact ⟨fun j u hu => (World.cell?_of_block hb).trans (h.c j u hu), fun o => by rw [← h.f o]; unfold World.frozen?; rw [hb], Nat.lt_of_lt_of_le h.lt hg.size⟩
theorem Bx.turn {w w' : World} {p b lo hi : Nat} {cs : List Value} (h : Bx w p cs) (hg : Turn b lo hi w w') (hr : p ≠ b) : Bx w' p cs :=
  ⟨fun j u hu => hg.other hr (h.c j u hu), fun o => (hg.frozen _ h.lt).trans (h.f o), Nat.lt_of_lt_of_le h.lt hg.size⟩
/-! flat cells -/
def flat {α : Type} (f : α → List Value) (l : List α) : List Value := l.flatMap f
theorem flat_len {α : Type} {f : α → List Value} {z : Nat} (hz : ∀ a, (f a).length = z) (l : List α) : (flat f l).length = l.length * z := by
  unfold flat
  induction l with
  | nil => simp
  | cons a l ih => rw [List.flatMap_cons, List.length_append, ih, hz, List.length_cons, Nat.add_mul]; omega
theorem flat_at {α : Type} {f : α → List Value} {z : Nat} (d : α) (hz : ∀ a, (f a).length = z) (h0 : 0 < z) : ∀ (l : List α) (j : Nat), j < l.length * z → (flat f l)[j]? = (f (l.getD (j / z) d))[j % z]?
  | [], j, h => by simp at h
  | a :: l, j, h => by
    show (f a ++ flat f l)[j]? = _
    by_cases hj : j < z
    · rw [List.getElem?_append_left (by rw [hz]; exact hj), Nat.div_eq_of_lt hj, Nat.mod_eq_of_lt hj]; rfl
    · have h1 : j = (j - z) + z := by omega
      rw [List.getElem?_append_right (by rw [hz]; omega), hz, flat_at d hz h0 l (j - z) (by rw [List.length_cons, Nat.add_mul] at h; omega)]
      have e1 : j / z = (j - z) / z + 1 := by rw [h1, Nat.add_sub_cancel, Nat.add_div_right _ h0]
      have e2 : j % z = (j - z) % z := by rw [h1, Nat.add_sub_cancel, Nat.add_mod_right]
      rw [e1, e2]; rfl
theorem flat_one {α : Type} {f : α → List Value} (h : ∀ a u, u ∈ f a → u.oneCell' = true) (l : List α) : ∀ u, u ∈ flat f l → u.oneCell' = true := fun u hu => by
  unfold flat at hu
  obtain ⟨a, _, ha⟩ := List.mem_flatMap.1 hu
  exact h a u ha
theorem add_at (b off j : Nat) : ((⟨b, off, none⟩ : Addr).add j) = ⟨b, off + j, none⟩ := by
  unfold Addr.add
  by_cases e : j = 0
  · rw [if_pos e, e]; rfl
  · rw [if_neg e]
theorem flat_src {α : Type} {w : World} {f : α → List Value} {z : Nat} (d : α) (hz : ∀ a, (f a).length = z) (h0 : 0 < z) {l : List α} {a : Option Addr} {b off : Nat} (ha : 0 < l.length → a = some ⟨b, off, none⟩)
    (hc : ∀ i, i < l.length → ∀ k u, (f (l.getD i d))[k]? = some u → w.cell? ⟨b, off + i * z + k, none⟩ = some u) :
    0 < l.length → ∃ ad, a = some ad ∧ ∀ j u, (flat f l)[j]? = some u → w.cell? (ad.add j) = some u := fun hl => ⟨_, ha hl, fun j u hu => by
  have hj : j < l.length * z := by
    rcases Nat.lt_or_ge j (l.length * z) with q | q
    · exact q
    · rw [List.getElem?_eq_none (by rw [flat_len hz]; exact q)] at hu; cases hu
  rw [flat_at d hz h0 l j hj] at hu
  have := hc (j / z) (Nat.div_lt_of_lt_mul (by rw [Nat.mul_comm]; exact hj)) (j % z) u hu
  rw [add_at, ← this, Nat.add_assoc]
  congr 2
  have := Nat.div_add_mod j z
  rw [Nat.mul_comm] at this
  congr 1
  omega⟩
theorem flat_read {α : Type} {w : World} {f : α → List Value} {z : Nat} (d : α) (hz : ∀ a, (f a).length = z) (h0 : 0 < z) {l : List α} {T : TypeId} {g c : Nat} (h : w.ownsRow 0 T z (.slice (some ⟨g, 0, none⟩) l.length c) l.length (flat f l)) :
    ∀ i, i < l.length → ∀ k u, (f (l.getD i d))[k]? = some u → w.cell? ⟨g, 0 + i * z + k, none⟩ = some u := fun i hi k u hu => by
  have hk : k < z := by
    rcases Nat.lt_or_ge k z with q | q
    · exact q
    · rw [List.getElem?_eq_none (by rw [hz]; exact q)] at hu; cases hu
  have hb : i * z + k < l.length * z := by
    have : (i + 1) * z ≤ l.length * z := Nat.mul_le_mul_right _ hi
    rw [Nat.add_mul] at this; omega
  have := World.ownsRow.cells h (g := g) rfl (i * z + k) u (by
    rw [flat_at d hz h0 l _ hb, Nat.mul_comm i z, Nat.mul_add_div h0, Nat.mul_add_mod, Nat.div_eq_of_lt hk, Nat.mod_eq_of_lt hk, Nat.add_zero]; exact hu)
  rw [add_at] at this
  rw [Nat.add_assoc]
  exact this
/-! copies made by append -/
theorem fresh_at {w : World} {T sz g : Nat} (h : w.heap[g]? = some (.cells #[] T (0, 0))) : w.ownsRow 0 T sz (.slice (some ⟨g, 0, none⟩) 0 0) 0 [] :=
  ⟨by simp, .inr ⟨g, 0, #[], rfl, Nat.zero_le _, h, by simp, by simp, by simp, by simp⟩⟩
theorem row_keep {w w' : World} {e : TypeId} {s n : Nat} {v : Value} {xs : List Value} (h : w.ownsRow 0 e s v n xs) (hk : ∀ g, v.ownBlock = some g → w'.heap[g]? = w.heap[g]?) : w'.ownsRow 0 e s v n xs := by
  obtain ⟨o1, o2⟩ := h
  refine ⟨o1, ?_⟩
  rcases o2 with o2 | ⟨g', cap', cur, hv', hg', hh, r⟩
  · exact Or.inl o2
  · exact Or.inr ⟨g', cap', cur, hv', hg', by rw [hk g' (by rw [hv']; rfl)]; exact hh, r⟩
theorem row_set {w : World} {e : TypeId} {s n : Nat} {v : Value} {xs : List Value} {p : Addr} {u : Value} (h : w.ownsRow 0 e s v n xs) (hp : ∀ g, v.ownBlock = some g → g ≠ p.block) : (w.setCell p u).ownsRow 0 e s v n xs :=
  row_keep h fun g hg => Below.heap_setCell _ _ _ _ (hp g hg)
theorem row_new {w : World} {e : TypeId} {s n r : Nat} {v : Value} {xs : List Value} (h : w.ownsRow 0 e s v n xs) (hw : v.ownBlock = some r ∨ v.ownBlock = some (r + 1)) : ∃ g c, v = .slice (some ⟨g, 0, none⟩) n c ∧ r ≤ g ∧ g ≤ r + 1 := by
  rcases h.2 with ⟨rfl, _⟩ | ⟨g, cap, cur, rfl, _⟩
  · rcases hw with h | h <;> simp [Value.ownBlock] at h
  · refine ⟨g, cap, rfl, ?_⟩
    rcases hw with h | h <;> simp [Value.ownBlock] at h <;> omega
theorem stage {W w1 : World} {T : TypeId} {sz n : Nat} {V : Value} {cs : List Value} (hown : w1.ownsRow 0 T sz V (0 + n) ([] ++ cs)) (hgrow : (W.alloc (.cells #[] T)).grownBy w1 (some W.heap.size))
    (hwhere : V.ownBlock = some W.heap.size ∨ V.ownBlock = some (W.alloc (.cells #[] T)).heap.size) : ∃ g c, V = .slice (some ⟨g, 0, none⟩) n c ∧ W.heap.size ≤ g ∧ g < w1.heap.size ∧ Hid (Bel W w1) ∧ Hid (w1.ownsRow 0 T sz (.slice (some ⟨g, 0, none⟩) n c) n cs) := by
  rw [Nat.zero_add, List.nil_append] at hown
  rw [World.size_alloc] at hwhere
  obtain ⟨g, c, rfl, h1, _⟩ := row_new hown hwhere
  exact ⟨g, c, rfl, h1, ownsRow_lt hown rfl, Lib.hid (((Bel.refl W).alloc _).grown hgrow (fun k e => by injection e with e; omega)), Lib.hid hown⟩
theorem stageG {W Wa w1 : World} {T : TypeId} {sz n : Nat} {V : Value} {cs : List Value} (hb : Bel W Wa) (hs : Wa.heap.size = W.heap.size + 1) (hown : w1.ownsRow 0 T sz V (0 + n) ([] ++ cs)) (hgrow : Wa.grownBy w1 (some W.heap.size))
    (hwhere : V.ownBlock = some W.heap.size ∨ V.ownBlock = some Wa.heap.size) : ∃ g c, V = .slice (some ⟨g, 0, none⟩) n c ∧ W.heap.size ≤ g ∧ g < w1.heap.size ∧ Hid (Bel W w1) ∧ Hid (w1.ownsRow 0 T sz (.slice (some ⟨g, 0, none⟩) n c) n cs) := by
  rw [Nat.zero_add, List.nil_append] at hown
  rw [hs] at hwhere
  obtain ⟨g, c, rfl, h1, _⟩ := row_new hown hwhere
  exact ⟨g, c, rfl, h1, ownsRow_lt hown rfl, Lib.hid (hb.grown hgrow (fun k e => by injection e with e; omega)), Lib.hid hown⟩
theorem fresh_new {w wa : World} {T sz g : Nat} {o : Obj} (h : wa.heap[g]? = some o) (ho : o = .cells #[] T (0, 0)) : wa.ownsRow 0 T sz (.slice (some ⟨g, 0, none⟩) 0 0) 0 [] := fresh_at (by rw [h, ho])
theorem drew_new {w : World} {o : Obj} {g : Nat} (h : g = w.heap.size) : (w.alloc o).drew.heap[g]? = some o := by subst h; exact heap_alloc_new ..
theorem new_drew {w : World} {o : Obj} {g : Nat} (h : g = w.heap.size) : (w.drew.alloc o).heap[g]? = some o := by subst h; exact heap_alloc_new ..
theorem ints_flat (l : List Int) : flat (fun x => [Value.int .i64 x]) l = l.map (Value.int .i64) := by
  unfold flat
  induction l with
  | nil => rfl
  | cons a l ih => rw [List.flatMap_cons, ih]; rfl
theorem ints_from {w : World} {a : Option Addr} {b off : Nat} {l : List Int} (ha : 0 < l.length → a = some ⟨b, off, none⟩) (hc : ∀ i, i < l.length → w.cell? ⟨b, off + i, none⟩ = some (.int .i64 (at0 l i))) :
    0 < l.length → ∃ ad, a = some ad ∧ ∀ j u, (l.map (Value.int .i64))[j]? = some u → w.cell? (ad.add j) = some u := fun h0 => ⟨_, ha h0, fun j u hu => by
    obtain ⟨q, hq⟩ := List.getElem?_eq_some_iff.1 hu
    have hj : j < l.length := by simpa using q
    have e : u = .int .i64 (at0 l j) := by rw [← hq]; unfold at0; simp [List.getD, hj]
    rw [e, add_at]
    exact hc j hj⟩
theorem ints_one (l : List Int) : ∀ u, u ∈ l.map (Value.int .i64) → u.oneCell' = true := fun x hx => by simp at hx; obtain ⟨q, _, rfl⟩ := hx; rfl
end Go.Proofs.Ytkdcdhkhadhcfaa

/-
  append to a slice of the call's own: where it lies behind it.
-/
import Derived.Test.YtkdcdhkhadhcfaaRead
namespace Go.Proofs.Ytkdcdhkhadhcfaa
open Go Go.RowKit
section
variable {P : Program}
theorem run_append_where (w : World) (t ty e : TypeId) (i : TypeInfo) (z : Value) (size bytes : Nat) (ht : P.underlying t = some (.slice e)) (hi : P.info? e = some i) (hz : i.zero = some z)
    (hsize : i.size = size) (hby : i.bytes = bytes) (hzs : z.cells.size = size) (hsz : 0 < size)
    (v : Value) (n : Nat) (xs : List Value) (hown : w.ownsRow 0 e size v n xs)
    (a : Addr) (m c : Nat) (news : List Value) (hl : news.length = m * size) (hnews : ∀ j u, news[j]? = some u → w.cell? (a.add j) = some u) (h1 : ∀ u ∈ news, u.oneCell' = true)
    (h63 : n + m ≤ maxLen) (hbytes : (n + m) * bytes ≤ 140737488355328) :
    ∃ v' w', (Builtin.append_ #[t, t] ty #[v, .slice (some a) m c]).run P w = .ok v' w' ∧ w'.ownsRow 0 e size v' (n + m) (xs ++ news) ∧ w.grownBy w' v.ownBlock ∧
      (v'.ownBlock = v.ownBlock ∨ v'.ownBlock = some w.heap.size) := by
  obtain ⟨v', w', hr, h2, h3, _⟩ := run_append_own (P := P) w 0 t ty e i z size bytes ht hi hz hsize hby hzs hsz v n xs hown a m c news hl hnews h1 h63 hbytes (Nat.zero_le _)
  refine ⟨v', w', hr, h2, h3, ?_⟩
  have hsmall : n + m ≤ 9223372036854775807 := by simp only [maxLen] at h63; omega
  subst hsize
  subst hby
  rcases hown.2 with ⟨rfl, rfl⟩ | ⟨g, cap, cur, rfl, hbg, hg, hnc, hcm, hcs, htake⟩
  · by_cases hm : m = 0
    · subst hm
      have hn : news = [] := List.eq_nil_of_length_eq_zero (by simpa using hl)
      subst hn
      have hr2 : (Builtin.append_ #[t, t] ty #[.slice none 0 0, .slice (some a) 0 c]).run P w = .ok (.slice none 0 0) w := by
        simp [Builtin.append_, run_underlying ht, sizeOf, typeInfo, hi, Builtin.lenOf, Builtin.firstCells, loadCells, loadCellsFrom]
      rw [hr2] at hr
      injection hr with e1 e2
      subst e1
      exact .inl rfl
    · have hr2 := run_append_nil (P := P) w t ty e i z ht hi hz a m c news hl hnews (by omega) (by omega) (by have hb := hbytes; simp only [Nat.zero_add] at hb; omega)
      rw [hr2] at hr
      injection hr with e1 e2
      subst e1
      exact .inr rfl
  · by_cases hroom : n + m ≤ cap
    · have hfit : n * i.size + news.length ≤ cur.size := by rw [hl, hcs, ← Nat.add_mul]; exact Nat.mul_le_mul_right _ hroom
      have hr2 := run_append_room (P := P) w t ty e i ht hi g n cap cur hg a m c news hl hnews h1 hroom hfit
      rw [hr2] at hr
      injection hr with e1 e2
      subst e1
      exact .inl rfl
    · have holds : ∀ j u, xs[j]? = some u → w.cell? ((⟨g, 0, none⟩ : Addr).add j) = some u := hown.cells (g := g) rfl
      have hr2 := run_append_grow (P := P) w t ty e i z ht hi hz ⟨g, 0, none⟩ n cap xs hown.1 holds a m c news hl hnews (by omega) (by omega) (growslice_fits (by omega) hbytes)
      rw [hr2] at hr
      injection hr with e1 e2
      subst e1
      exact .inr rfl
/-- The same for an operation of a list. -/
theorem wp_append_where {o : Oper} {a : Act} {w : World} {K : Act → World → Prop} {Q : Exit → Act → World → Prop} (s x : Operand) (t : TypeId)
    (ho : o.op = .call { callee := .builtin .append, args := #[s, x], argTypes := #[t, t] })
    (e : TypeId) (i : TypeInfo) (z : Value) (size bytes : Nat) (ht : P.underlying t = some (.slice e)) (hi : P.info? e = some i) (hz : i.zero = some z)
    (hsize : i.size = size) (hby : i.bytes = bytes) (hzs : z.cells.size = size) (hsz : 0 < size)
    (v : Value) (n : Nat) (xs : List Value) (hs : a.eval s = v) (hown : w.ownsRow 0 e size v n xs)
    (ad : Addr) (m c : Nat) (news : List Value) (hx : a.eval x = .slice (some ad) m c) (hl : news.length = m * size) (hnews : ∀ j u, news[j]? = some u → w.cell? (ad.add j) = some u) (h1 : ∀ u ∈ news, u.oneCell' = true)
    (h63 : n + m ≤ maxLen) (hbytes : (n + m) * bytes ≤ 140737488355328)
    (h : ∀ v' w', w'.ownsRow 0 e size v' (n + m) (xs ++ news) → w.grownBy w' v.ownBlock → (v'.ownBlock = v.ownBlock ∨ v'.ownBlock = some w.heap.size) → K (a.put o.dst v') w') : o.wp P a w K Q := by
  obtain ⟨v', w', hr, h2, h3, h4⟩ := run_append_where (P := P) w t o.type e i z size bytes ht hi hz hsize hby hzs hsz v n xs hown ad m c news hl hnews h1 h63 hbytes
  unfold Oper.wp execOp
  simp only [ho, resolve, invoke, builtin, Sem.run_bind, Sem.run_pure, Result.andThen_ok, List.map_toArray, List.map_cons, List.map_nil, hs, hx, hr]
  exact h v' w' h2 h3 h4
theorem wpList_append_where {ops : Array Oper} {rest : List Oper} {o : Oper} {a : Act} {w : World} {Q : Exit → Act → World → Prop} (hgd : o.guard = none) (s x : Operand) (t : TypeId)
    (ho : o.op = .call { callee := .builtin .append, args := #[s, x], argTypes := #[t, t] })
    (e : TypeId) (i : TypeInfo) (z : Value) (size bytes : Nat) (ht : P.underlying t = some (.slice e)) (hi : P.info? e = some i) (hz : i.zero = some z)
    (hsize : i.size = size) (hby : i.bytes = bytes) (hzs : z.cells.size = size) (hsz : 0 < size)
    (v : Value) (n : Nat) (xs : List Value) (hs : a.eval s = v) (hown : w.ownsRow 0 e size v n xs)
    (ad : Addr) (m c : Nat) (news : List Value) (hx : a.eval x = .slice (some ad) m c) (hl : news.length = m * size) (hnews : ∀ j u, news[j]? = some u → w.cell? (ad.add j) = some u) (h1 : ∀ u ∈ news, u.oneCell' = true)
    (h63 : n + m ≤ maxLen) (hbytes : (n + m) * bytes ≤ 140737488355328)
    (h : ∀ v' w', w'.ownsRow 0 e size v' (n + m) (xs ++ news) → w.grownBy w' v.ownBlock → (v'.ownBlock = v.ownBlock ∨ v'.ownBlock = some w.heap.size) → wpList P ops Q rest (a.put o.dst v') w') : wpList P ops Q (o :: rest) a w :=
  wpList_plain hgd fun _ hK => wp_append_where s x t ho e i z size bytes ht hi hz hsize hby hzs hsz v n xs hs hown ad m c news hx hl hnews h1 h63 hbytes fun v' w' h2 h3 h4 => hK _ _ (h v' w' h2 h3 h4)
end
/-- What is known of an element of a slice of the call's own: it holds in every world that differs in the slice's own block alone. -/
def Off (w : World) (v : Value) (p : World → Prop) : Prop :=
  ∀ w', w.heap.size ≤ w'.heap.size → (∀ k, k < w.heap.size → some k ≠ v.ownBlock → w'.heap[k]? = w.heap[k]?) → p w'
theorem Off.now {w : World} {v : Value} {p : World → Prop} (h : Off w v p) : p w := h w (Nat.le_refl _) fun _ _ _ => rfl
/-- Behind an append, or anything that turns the own block alone. -/
theorem Off.grown {w w' : World} {v v' : Value} {p : World → Prop} (h : Off w v p) (hg : w.grownBy w' v.ownBlock) (hv : v'.ownBlock = v.ownBlock ∨ v'.ownBlock = some w.heap.size) : Off w' v' p := by
  intro w2 hs hb
  refine h w2 (Nat.le_trans hg.size hs) fun k hk hne => ?_
  rw [hb k (Nat.lt_of_lt_of_le hk hg.size) ?_, hg.block k hk hne]
  rcases hv with e | e
  · rw [e]; exact hne
  · rw [e]; intro q; injection q with q; omega
theorem Off.bel {w w' : World} {v : Value} {p : World → Prop} (h : Off w v p) (k : Bel w w') : Off w' v p := by
  intro w2 hs hb
  refine h w2 (Nat.le_trans k.szle hs) fun j hj hne => ?_
  rw [hb j (Nat.lt_of_lt_of_le hj k.szle) hne, k.below.block j hj]
/-- A slice of the call's own whose elements are slices of ints. -/
def OwnRows (w : World) (v : Value) (rows : List (List Int)) : Prop :=
  ∃ vs : List Value, w.ownsRow 0 26 1 v rows.length vs ∧ ∀ j, j < rows.length → Off w v fun w' => IntsAt w' (vs.getD j undef) (atL rows j)
theorem OwnRows.nil (w : World) : OwnRows w (.slice none 0 0) [] := ⟨[], World.ownsRow_nil w 0 _ 1, fun j hj => absurd hj (by simp)⟩
theorem atL_append {l : List (List Int)} {x : List Int} {j : Nat} (h : j < l.length) : atL (l ++ [x]) j = atL l j := by
  unfold atL; simp [List.getD, List.getElem?_append_left h]
theorem atL_last {l : List (List Int)} {x : List Int} : atL (l ++ [x]) l.length = x := by
  unfold atL; simp [List.getD]
/-- One row more. -/
theorem OwnRows.add {w w' : World} {v v' x : Value} {rows : List (List Int)} {row : List Int} {vs : List Value} (h : w.ownsRow 0 26 1 v rows.length vs)
    (hr : ∀ j, j < rows.length → Off w v fun w' => IntsAt w' (vs.getD j undef) (atL rows j)) (hx : Off w v fun w' => IntsAt w' x row)
    (ho : w'.ownsRow 0 26 1 v' (rows.length + 1) (vs ++ [x])) (hg : w.grownBy w' v.ownBlock) (hv : v'.ownBlock = v.ownBlock ∨ v'.ownBlock = some w.heap.size) : OwnRows w' v' (rows ++ [row]) := by
  have hl : vs.length = rows.length := by have := h.1; omega
  refine ⟨vs ++ [x], by simpa using ho, fun j hj => ?_⟩
  by_cases e : j < rows.length
  · have : (vs ++ [x]).getD j undef = vs.getD j undef := by simp [List.getD, List.getElem?_append_left (show j < vs.length by omega)]
    rw [atL_append e, this]
    exact (hr j e).grown hg hv
  · have ej : j = rows.length := by simp at hj; omega
    rw [ej, atL_last]
    have : (vs ++ [x]).getD rows.length undef = x := by rw [← hl]; simp [List.getD]
    rw [this]
    exact hx.grown hg hv
theorem OwnRows.rows {w : World} {v : Value} {rows : List (List Int)} (h : OwnRows w v rows) (hl : rows.length ≤ 140737488355328) : RowsAt w v rows := by
  obtain ⟨vs, h1, h2⟩ := h
  rcases h1.2 with ⟨rfl, h0⟩ | ⟨g, cap, cur, rfl, _, hg, hnc, hcm, hcs, htake⟩
  · have : rows = [] := List.eq_nil_of_length_eq_zero h0
    subst this
    exact ⟨none, 0, 0, 0, fun _ => undef, rfl, fun h => absurd h (by simp), by simp, fun i hi => absurd hi (by simp)⟩
  · refine ⟨some ⟨g, 0, none⟩, cap, g, 0, fun j => vs.getD j undef, rfl, fun _ => rfl, hl, fun j hj => ⟨?_, (h2 j hj).now⟩⟩
    have := World.ownsRow.cellAt (h := h1) j (by omega)
    rw [Nat.zero_add, this]
    have hlen : j < vs.length := by have := h1.1; omega
    simp [List.getD, hlen]
end Go.Proofs.Ytkdcdhkhadhcfaa

/-
  beasts: a copy of the trap in a box, a door more in it, its doors changed in place.
-/
import Derived.Test.YtogiidkofddhaaaDoorBCopy
import Derived.Test.YtogiidkofddhaaaDoorBCostV
namespace Go.Proofs.YtogiidkofddhaaaDoor
open Go Go.RowKit Go.Shelf
set_option maxHeartbeats 4000000
set_option maxRecDepth 100000
/-- The box of the copy with a door more. -/
structure MoreSt (b : BT) (x : BD) (w : World) (ob g c gs cs gp cp : Nat) (W : World) : Prop where
  bel : Bel w W
  lt : ob < W.heap.size
  c0 : W.cell? ⟨ob, 0, none⟩ = some (.int .i64 b.n)
  c1 : W.cell? ⟨ob, 1, none⟩ = some (.slice (some ⟨g, 0, none⟩) (b.doors.length + 1) c)
  c2 : W.cell? ⟨ob, 2, none⟩ = some (.slice (some ⟨gs, 0, none⟩) b.seen.length cs)
  c3 : W.cell? ⟨ob, 3, none⟩ = some (.int .i64 b.look)
  c4 : W.cell? ⟨ob, 4, none⟩ = some (.int .i64 b.eats)
  c5 : W.cell? ⟨ob, 5, none⟩ = some (.slice (some ⟨gp, 0, none⟩) b.places.length cp)
  trap : BTrapAt W (.agg #[.int .i64 b.n, .slice (some ⟨g, 0, none⟩) (b.doors.length + 1) c, .slice (some ⟨gs, 0, none⟩) b.seen.length cs, .int .i64 b.look, .int .i64 b.eats, .slice (some ⟨gp, 0, none⟩) b.places.length cp]) (moreB b x)
theorem doorCells_add (l : List BD) (x : BD) : doorCells (l ++ [x]) = doorCells l ++ [.int .i64 x.a, .int .i64 x.b, .int .i64 x.cost] := by
  have e0 : ∀ i, i < l.length → atD (l ++ [x]) i = atD l i := fun i hi => by unfold atD; simp only [List.getD]; rw [List.getElem?_append_left hi]
  have e1 : atD (l ++ [x]) l.length = x := by unfold atD; simp [List.getD]
  apply List.ext_getElem?
  intro j
  by_cases hj : j < l.length * 3
  · rw [List.getElem?_append_left (by rw [doorCells_len]; exact hj), doorCells_at l j hj, doorCells_at (l ++ [x]) j (by simp; omega)]
    unfold dcell
    rw [e0 _ (by omega)]
  · rw [List.getElem?_append_right (by rw [doorCells_len]; omega), doorCells_len]
    by_cases h3 : j < l.length * 3 + 3
    · rw [doorCells_at (l ++ [x]) j (by simp; omega)]
      unfold dcell
      rw [show j / 3 = l.length by omega, e1]
      have : j = l.length * 3 ∨ j = l.length * 3 + 1 ∨ j = l.length * 3 + 2 := by omega
      rcases this with rfl | rfl | rfl
      · rw [if_pos (by omega), Nat.sub_self]; rfl
      · rw [if_neg (by omega), if_pos (by omega), Nat.add_sub_cancel_left]; rfl
      · rw [if_neg (by omega), if_neg (by omega), Nat.add_sub_cancel_left]; rfl
    · rw [List.getElem?_eq_none (by rw [doorCells_len]; simp; omega), List.getElem?_eq_none (by simp; omega)]
theorem more_stage {w wc w5 : World} {b : BT} {x : BD} {gd cd gs cs gp cp ob : Nat} {T1 : TypeId} {O2 : Obj} {V' : Value} {C : Array Value} (hob : ob = wc.heap.size) (hC : C = #[.int .i64 b.n, .slice (some ⟨gd, 0, none⟩) b.doors.length cd, .slice (some ⟨gs, 0, none⟩) b.seen.length cs, .int .i64 b.look, .int .i64 b.eats, .slice (some ⟨gp, 0, none⟩) b.places.length cp])
    (h : OwnTrap b w gd cd gs cs gp cp wc) (h1 : b.doors.length ≤ 1000) (h2 : b.seen.length ≤ 1000) (h3 : b.places.length ≤ 1000)
    (ho : w5.ownsRow 0 43 3 V' (b.doors.length + 1) (doorCells b.doors ++ [.int .i64 x.a, .int .i64 x.b, .int .i64 x.cost]))
    (hg : ((wc.alloc (.cells C T1)).alloc O2).grownBy w5 (Value.slice (some ⟨gd, 0, none⟩) b.doors.length cd).ownBlock)
    (hw : V'.ownBlock = (Value.slice (some ⟨gd, 0, none⟩) b.doors.length cd).ownBlock ∨ V'.ownBlock = some ((wc.alloc (.cells C T1)).alloc O2).heap.size) :
    ∃ g c, V' = .slice (some ⟨g, 0, none⟩) (b.doors.length + 1) c ∧ w5.cell? ⟨ob, 1, none⟩ = some (.slice (some ⟨gd, 0, none⟩) b.doors.length cd) ∧ (∀ o, w5.frozen? ⟨ob, o, none⟩ = false) ∧ ob < w5.heap.size ∧
      Hid (MoreSt b x w ob g c gs cs gp cp (w5.setCell ⟨ob, 1, none⟩ (.slice (some ⟨g, 0, none⟩) (b.doors.length + 1) c))) := by
  have lgd : gd < wc.heap.size := own_lt h.od rfl
  have lgs : gs < wc.heap.size := own_lt h.os rfl
  have lgp : gp < wc.heap.size := own_lt h.op rfl
  have q1 := h.hgs
  have q2 := h.hgp
  have q0 := h.hgd
  have hsz := hg.size
  simp only [World.size_alloc] at hsz
  have hk : ∀ k, k < wc.heap.size + 2 → k ≠ gd → w5.heap[k]? = ((wc.alloc (.cells C T1)).alloc O2).heap[k]? := fun k hk hne => hg.block k (by simp; omega) (by intro e; injection e with e; exact hne e)
  have hrow := (hk ob (by omega) (by omega)).trans ((old_row (by simp; omega)).trans (new_row hob))
  have hold : ∀ k, k < wc.heap.size → k ≠ gd → w5.heap[k]? = wc.heap[k]? := fun k h hne => (hk k (by omega) hne).trans ((old_row (by simp; omega)).trans (old_row h))
  have hbel : Bel w w5 := (((h.bel).alloc _).alloc _).grown hg (fun k e => by have e' : some gd = some k := e; injection e' with e'; omega)
  obtain ⟨f1, f2⟩ := row_facts hrow
  subst hC
  rcases ho.2 with ⟨rfl, e⟩ | ⟨g, cap, cur, rfl, _⟩
  · omega
  · have hgo : g ≠ ob := by
      rcases hw with hw | hw <;> simp [Value.ownBlock] at hw <;> omega
    have hsrow : ∀ k, k ≠ ob → (w5.setCell ⟨ob, 1, none⟩ (.slice (some ⟨g, 0, none⟩) (b.doors.length + 1) cap)).heap[k]? = w5.heap[k]? := fun k hne => Below.heap_setCell _ _ _ _ hne
    have set_c : ∀ j, j ≠ 1 → (w5.setCell ⟨ob, 1, none⟩ (.slice (some ⟨g, 0, none⟩) (b.doors.length + 1) cap)).cell? ⟨ob, j, none⟩ = w5.cell? ⟨ob, j, none⟩ := fun j hj => World.cell?_setCell_other _ _ _ _ (by intro e; injection e with _ e; exact hj e.symm)
    refine ⟨g, cap, rfl, f1 1, f2, by omega, Lib.hid ⟨hbel.setCell (by show w.heap.size ≤ ob; have := h.bel.szle; omega) _, by rw [World.size_setCell]; omega, (set_c 0 (by omega)).trans (f1 0), World.cell?_setCell_same _ _ _ (f1 1), (set_c 2 (by omega)).trans (f1 2), (set_c 3 (by omega)).trans (f1 3), (set_c 4 (by omega)).trans (f1 4), (set_c 5 (by omega)).trans (f1 5), _, _, _, rfl, ?_, ?_, ?_⟩⟩
    · have e : (moreB b x).doors.length = b.doors.length + 1 := by show (b.doors ++ [x]).length = _; simp
      have ho' := own_set (p := ⟨ob, 1, none⟩) (u := .slice (some ⟨g, 0, none⟩) (b.doors.length + 1) cap) ho (fun g' hg' => by injection hg' with hg'; subst hg'; exact hgo)
      have e2 : doorCells (moreB b x).doors = doorCells b.doors ++ [.int .i64 x.a, .int .i64 x.b, .int .i64 x.cost] := doorCells_add b.doors x
      rw [← e, ← e2] at ho'
      have := DoorsAt.own (l := (moreB b x).doors) (by omega) ho'
      rw [e] at this
      exact this
    · exact ownInts (l := b.seen) (by omega) (own_keep h.os fun k hk' => by injection hk' with hk'; subst hk'; exact (hsrow gs (by omega)).trans (hold gs lgs (by omega)))
    · exact ownInts (l := b.places) (by omega) (own_keep h.op fun k hk' => by injection hk' with hk'; subst hk'; exact (hsrow gp (by omega)).trans (hold gp lgp (by omega)))
/-- The box of the copy while its doors, and its costs, are changed in place. -/
structure DSt (w : World) (b : BT) (l : List BD) (ob gd cd gs cs gp cp : Nat) (lk et : Int) (W : World) : Prop where
  bel : Bel w W
  lt : ob < W.heap.size
  c0 : W.cell? ⟨ob, 0, none⟩ = some (.int .i64 b.n)
  c1 : W.cell? ⟨ob, 1, none⟩ = some (.slice (some ⟨gd, 0, none⟩) b.doors.length cd)
  c2 : W.cell? ⟨ob, 2, none⟩ = some (.slice (some ⟨gs, 0, none⟩) b.seen.length cs)
  c3 : W.cell? ⟨ob, 3, none⟩ = some (.int .i64 lk)
  c4 : W.cell? ⟨ob, 4, none⟩ = some (.int .i64 et)
  c5 : W.cell? ⟨ob, 5, none⟩ = some (.slice (some ⟨gp, 0, none⟩) b.places.length cp)
  fz : ∀ o, W.frozen? ⟨ob, o, none⟩ = false
  hgd : w.heap.size ≤ gd
  hgs : gd < gs
  hgp : gs < gp
  hob : gp < ob
  len : l.length = b.doors.length
  cap : b.doors.length ≤ cd
  d : ∀ i, i < l.length → W.cell? ⟨gd, i * 3, none⟩ = some (.int .i64 (atD l i).a) ∧ W.cell? ⟨gd, i * 3 + 1, none⟩ = some (.int .i64 (atD l i).b) ∧ W.cell? ⟨gd, i * 3 + 2, none⟩ = some (.int .i64 (atD l i).cost)
  df : ∀ o, W.frozen? ⟨gd, o, none⟩ = false
  os : W.ownsRow 0 3 1 (.slice (some ⟨gs, 0, none⟩) b.seen.length cs) b.seen.length (b.seen.map (Value.int .i64))
  op : W.ownsRow 0 3 1 (.slice (some ⟨gp, 0, none⟩) b.places.length cp) b.places.length (b.places.map (Value.int .i64))
theorem own_doors {W : World} {g c : Nat} {l : List BD} (h : W.ownsRow 0 43 3 (.slice (some ⟨g, 0, none⟩) l.length c) l.length (doorCells l)) :
    (∀ i, i < l.length → W.cell? ⟨g, i * 3, none⟩ = some (.int .i64 (atD l i).a) ∧ W.cell? ⟨g, i * 3 + 1, none⟩ = some (.int .i64 (atD l i).b) ∧ W.cell? ⟨g, i * 3 + 2, none⟩ = some (.int .i64 (atD l i).cost)) ∧ (∀ o, W.frozen? ⟨g, o, none⟩ = false) ∧ l.length ≤ c := by
  have hcl := h.cells (g := g) rfl
  have key : ∀ j, j < l.length * 3 → W.cell? ⟨g, j, none⟩ = some (dcell l j) := fun j hj => by
    have := hcl j _ (doorCells_at l j hj)
    rw [addr_off, Nat.zero_add] at this
    exact this
  rcases h.2 with ⟨e, _⟩ | ⟨g', cap, cur, e, _, hh, hnc, _⟩
  · cases e
  · injection e with e1 e2 e3
    injection e1 with e1
    injection e1 with e1 _ _
    subst e1 e3
    refine ⟨fun i hi => ⟨?_, ?_, ?_⟩, (row_facts hh).2, hnc⟩
    · rw [key (i * 3) (by omega)]; unfold dcell; rw [if_pos (by omega), show i * 3 / 3 = i by omega]
    · rw [key (i * 3 + 1) (by omega)]; unfold dcell; rw [if_neg (by omega), if_pos (by omega), show (i * 3 + 1) / 3 = i by omega]
    · rw [key (i * 3 + 2) (by omega)]; unfold dcell; rw [if_neg (by omega), if_neg (by omega), show (i * 3 + 2) / 3 = i by omega]
variable {w W W' wc : World} {b : BT} {l : List BD} {ob gd cd gs cs gp cp : Nat} {lk et : Int}
theorem DSt.new {T1 : TypeId} {C : Array Value} (hob : ob = wc.heap.size) (hC : C = #[.int .i64 b.n, .slice (some ⟨gd, 0, none⟩) b.doors.length cd, .slice (some ⟨gs, 0, none⟩) b.seen.length cs, .int .i64 b.look, .int .i64 b.eats, .slice (some ⟨gp, 0, none⟩) b.places.length cp]) (h : OwnTrap b w gd cd gs cs gp cp wc) :
    DSt w b b.doors ob gd cd gs cs gp cp b.look b.eats (wc.alloc (.cells C T1)) := by
  have lgp : gp < wc.heap.size := own_lt h.op rfl
  obtain ⟨f1, f2⟩ := row_facts (new_row (w := wc) (o := (.cells C T1)) hob)
  have hbel : Bel wc (wc.alloc (.cells C T1)) := (Bel.refl wc).alloc _
  obtain ⟨d1, d2, d3⟩ := own_doors (ownsRow_bel h.od hbel)
  subst hC
  exact ⟨h.bel.trans hbel, by simp; omega, f1 0, f1 1, f1 2, f1 3, f1 4, f1 5, f2, h.hgd, h.hgs, h.hgp, by omega, rfl, d3, d1, d2, ownsRow_bel h.os hbel, ownsRow_bel h.op hbel⟩
theorem DSt.go (h : DSt w b l ob gd cd gs cs gp cp lk et W) (k : Bel W W') : DSt w b l ob gd cd gs cs gp cp lk et W' :=
  ⟨h.bel.trans k, Nat.lt_of_lt_of_le h.lt k.szle, k.cell h.c0, k.cell h.c1, k.cell h.c2, k.cell h.c3, k.cell h.c4, k.cell h.c5, fun o => (k.frozens _ (by have := h.lt; show ob < _; omega)).trans (h.fz o), h.hgd, h.hgs, h.hgp, h.hob, h.len, h.cap,
    fun i hi => ⟨k.cell (h.d i hi).1, k.cell (h.d i hi).2.1, k.cell (h.d i hi).2.2⟩, fun o => (k.frozens _ (by have := h.lt; have := h.hgs; have := h.hgp; have := h.hob; show gd < _; omega)).trans (h.df o), ownsRow_bel h.os k, ownsRow_bel h.op k⟩
/-- One cell of the doors is set. -/
theorem DSt.door (h : DSt w b l ob gd cd gs cs gp cp lk et W) {k : Nat} (hk : k < l.length) (d : BD) :
    DSt w b (l.set k d) ob gd cd gs cs gp cp lk et (((W.setCell ⟨gd, k * 3, none⟩ (.int .i64 d.a)).setCell ⟨gd, k * 3 + 1, none⟩ (.int .i64 d.b)).setCell ⟨gd, k * 3 + 2, none⟩ (.int .i64 d.cost)) := by
  have q1 := h.hgs
  have q2 := h.hgp
  have q3 := h.hob
  have q0 := h.hgd
  obtain ⟨d0, d1, d2⟩ := h.d k hk
  have far : ∀ {p u}, p.block ≠ gd → W.cell? p = some u → (((W.setCell ⟨gd, k * 3, none⟩ (.int .i64 d.a)).setCell ⟨gd, k * 3 + 1, none⟩ (.int .i64 d.b)).setCell ⟨gd, k * 3 + 2, none⟩ (.int .i64 d.cost)).cell? p = some u := fun {p u} hp hc => by
    rw [World.cell?_setCell_other _ _ _ _ (by intro e; exact hp (by rw [← e])), World.cell?_setCell_other _ _ _ _ (by intro e; exact hp (by rw [← e])), World.cell?_setCell_other _ _ _ _ (by intro e; exact hp (by rw [← e]))]; exact hc
  have row : ∀ j, j ≠ k * 3 → j ≠ k * 3 + 1 → j ≠ k * 3 + 2 → (((W.setCell ⟨gd, k * 3, none⟩ (.int .i64 d.a)).setCell ⟨gd, k * 3 + 1, none⟩ (.int .i64 d.b)).setCell ⟨gd, k * 3 + 2, none⟩ (.int .i64 d.cost)).cell? ⟨gd, j, none⟩ = W.cell? ⟨gd, j, none⟩ := fun j a1 a2 a3 => by
    rw [World.cell?_setCell_other _ _ _ _ (by intro e; injection e with _ e; exact a3 e.symm), World.cell?_setCell_other _ _ _ _ (by intro e; injection e with _ e; exact a2 e.symm), World.cell?_setCell_other _ _ _ _ (by intro e; injection e with _ e; exact a1 e.symm)]
  have hgw : w.heap.size ≤ gd := q0
  refine ⟨((h.bel.setCell hgw _).setCell hgw _).setCell hgw _, by simp only [World.size_setCell]; exact h.lt, far (by show ob ≠ gd; omega) h.c0, far (by show ob ≠ gd; omega) h.c1, far (by show ob ≠ gd; omega) h.c2, far (by show ob ≠ gd; omega) h.c3, far (by show ob ≠ gd; omega) h.c4, far (by show ob ≠ gd; omega) h.c5,
    fun o => by rw [World.frozen?_setCell, World.frozen?_setCell, World.frozen?_setCell]; exact h.fz o, q0, q1, q2, q3, by simp [h.len], h.cap, fun i hi => ?_, fun o => by rw [World.frozen?_setCell, World.frozen?_setCell, World.frozen?_setCell]; exact h.df o, ?_, ?_⟩
  · have hi' : i < l.length := by simpa using hi
    have e : atD (l.set k d) i = if i = k then d else atD l i := by
      unfold atD
      simp only [List.getD, List.getElem?_set]
      by_cases e : k = i
      · subst e; rw [if_pos rfl, if_pos hk, if_pos rfl]; rfl
      · rw [if_neg e, if_neg (fun q => e q.symm)]
    by_cases q : i = k
    · subst q
      rw [e, if_pos rfl]
      refine ⟨?_, ?_, ?_⟩
      · rw [World.cell?_setCell_other _ _ _ _ (by intro e; injection e with _ e; omega), World.cell?_setCell_other _ _ _ _ (by intro e; injection e with _ e; omega)]
        exact World.cell?_setCell_same _ _ _ d0
      · rw [World.cell?_setCell_other _ _ _ _ (by intro e; injection e with _ e; omega)]
        exact World.cell?_setCell_same _ _ _ ((World.cell?_setCell_other _ _ _ _ (by intro e; injection e with _ e; omega)).trans d1)
      · exact World.cell?_setCell_same _ _ _ ((World.cell?_setCell_other _ _ _ _ (by intro e; injection e with _ e; omega)).trans ((World.cell?_setCell_other _ _ _ _ (by intro e; injection e with _ e; omega)).trans d2))
    · rw [e, if_neg q, row _ (by omega) (by omega) (by omega), row _ (by omega) (by omega) (by omega), row _ (by omega) (by omega) (by omega)]
      exact h.d i hi'
  · exact own_set (own_set (own_set h.os fun g hg => by injection hg with hg; subst hg; show gs ≠ gd; omega) fun g hg => by injection hg with hg; subst hg; show gs ≠ gd; omega) fun g hg => by injection hg with hg; subst hg; show gs ≠ gd; omega
  · exact own_set (own_set (own_set h.op fun g hg => by injection hg with hg; subst hg; show gp ≠ gd; omega) fun g hg => by injection hg with hg; subst hg; show gp ≠ gd; omega) fun g hg => by injection hg with hg; subst hg; show gp ≠ gd; omega
/-- The walker's own form: the doors set first, then the box, then the door's block. -/
theorem DSt.first {T1 : TypeId} {C : Array Value} {O2 : Obj} (hob : ob = wc.heap.size) (hC : C = #[.int .i64 b.n, .slice (some ⟨gd, 0, none⟩) b.doors.length cd, .slice (some ⟨gs, 0, none⟩) b.seen.length cs, .int .i64 b.look, .int .i64 b.eats, .slice (some ⟨gp, 0, none⟩) b.places.length cp])
    (h : OwnTrap b w gd cd gs cs gp cp wc) {k : Nat} (hk : k < b.doors.length) (d : BD) :
    DSt w b (b.doors.set k d) ob gd cd gs cs gp cp b.look b.eats (((((wc.setCell ⟨gd, k * 3, none⟩ (.int .i64 d.a)).setCell ⟨gd, k * 3 + 1, none⟩ (.int .i64 d.b)).setCell ⟨gd, k * 3 + 2, none⟩ (.int .i64 d.cost)).alloc (.cells C T1)).alloc O2) := by
  have lgd : gd < wc.heap.size := own_lt h.od rfl
  have h0 := (DSt.new (T1 := T1) hob hC h).door hk d
  rw [World.setCell_alloc_past _ _ _ _ lgd, World.setCell_alloc_past _ _ _ _ (by simpa using lgd), World.setCell_alloc_past _ _ _ _ (by simpa using lgd)] at h0
  exact h0.go ((Bel.refl _).alloc _)
theorem DSt.costs (h : DSt w b l ob gd cd gs cs gp cp lk et W) (lk' et' : Int) : DSt w b l ob gd cd gs cs gp cp lk' et' ((W.setCell ⟨ob, 3, none⟩ (.int .i64 lk')).setCell ⟨ob, 4, none⟩ (.int .i64 et')) := by
  have q1 := h.hgs
  have q2 := h.hgp
  have q3 := h.hob
  have q0 := h.hgd
  have far : ∀ {p u}, p ≠ ⟨ob, 3, none⟩ → p ≠ ⟨ob, 4, none⟩ → W.cell? p = some u → ((W.setCell ⟨ob, 3, none⟩ (.int .i64 lk')).setCell ⟨ob, 4, none⟩ (.int .i64 et')).cell? p = some u := fun {p u} a1 a2 hc => by
    rw [World.cell?_setCell_other _ _ _ _ (fun e => a2 e.symm), World.cell?_setCell_other _ _ _ _ (fun e => a1 e.symm)]; exact hc
  have ne : ∀ {c j i : Nat}, c ≠ ob ∨ j ≠ i → (⟨c, j, none⟩ : Addr) ≠ ⟨ob, i, none⟩ := fun {c j i} hn e => by injection e with e1 e2; omega
  have hgw : w.heap.size ≤ ob := by omega
  refine ⟨(h.bel.setCell hgw _).setCell hgw _, by simp only [World.size_setCell]; exact h.lt, far (ne (by omega)) (ne (by omega)) h.c0, far (ne (by omega)) (ne (by omega)) h.c1, far (ne (by omega)) (ne (by omega)) h.c2,
    (World.cell?_setCell_other _ _ _ _ (ne (c := ob) (j := 4) (i := 3) (by omega))).trans (World.cell?_setCell_same _ _ _ h.c3), World.cell?_setCell_same _ _ _ ((World.cell?_setCell_other _ _ _ _ (ne (c := ob) (j := 3) (i := 4) (by omega))).trans h.c4), far (ne (by omega)) (ne (by omega)) h.c5,
    fun o => by rw [World.frozen?_setCell, World.frozen?_setCell]; exact h.fz o, q0, q1, q2, q3, h.len, h.cap, fun i hi => ⟨far (ne (by omega)) (ne (by omega)) (h.d i hi).1, far (ne (by omega)) (ne (by omega)) (h.d i hi).2.1, far (ne (by omega)) (ne (by omega)) (h.d i hi).2.2⟩, fun o => by rw [World.frozen?_setCell, World.frozen?_setCell]; exact h.df o, ?_, ?_⟩
  · exact own_set (own_set h.os fun g hg => by injection hg with hg; subst hg; show gs ≠ ob; omega) fun g hg => by injection hg with hg; subst hg; show gs ≠ ob; omega
  · exact own_set (own_set h.op fun g hg => by injection hg with hg; subst hg; show gp ≠ ob; omega) fun g hg => by injection hg with hg; subst hg; show gp ≠ ob; omega
theorem DSt.trap (h : DSt w b l ob gd cd gs cs gp cp lk et W) (h1 : b.doors.length ≤ 1000) (h2 : b.seen.length ≤ 1000) (h3 : b.places.length ≤ 1000) :
    BTrapAt W (.agg #[.int .i64 b.n, .slice (some ⟨gd, 0, none⟩) b.doors.length cd, .slice (some ⟨gs, 0, none⟩) b.seen.length cs, .int .i64 lk, .int .i64 et, .slice (some ⟨gp, 0, none⟩) b.places.length cp]) { b with doors := l, look := lk, eats := et } := by
  refine ⟨_, _, _, rfl, ?_, ownInts (l := b.seen) (by omega) h.os, ownInts (l := b.places) (by omega) h.op⟩
  have hl := h.len
  have hcap := h.cap
  exact ⟨_, cd, gd, 0, by rw [← hl], fun _ => rfl, ⟨by show l.length ≤ _; omega, by show l.length ≤ _; omega⟩, fun i hi => by simpa using h.d i hi⟩
end Go.Proofs.YtogiidkofddhaaaDoor

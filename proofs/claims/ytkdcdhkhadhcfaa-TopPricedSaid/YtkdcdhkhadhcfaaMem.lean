/-
  Memory: what may have turned between two worlds; how slices, slices of slices and structs read.
-/
import Derived.Test.YtkdcdhkhadhcfaaMix
import Derived.WalkSpells
import Derived.Lib.Hide
import Derived.IntWalk
import Derived.WalkLawsBesides
namespace Go.Proofs.Ytkdcdhkhadhcfaa
open Go Go.RowKit

/-- All that was there is as it was. -/
def Bel (w w' : World) : Prop := Below w.heap.size w w'
theorem Bel.refl (w : World) : Bel w w := Below.refl _ _
theorem Bel.trans {a b c : World} (h : Bel a b) (k : Bel b c) : Bel a c := Below.trans h (Below.mono k h.size)
theorem Bel.drew {a w : World} (h : Bel a w) : Bel a w.drew := Below.drew h
theorem Bel.drewN {a w : World} (h : Bel a w) (n : Nat) : Bel a (w.drewN n) := ⟨h.os, h.tape, h.output, h.size, h.block⟩
theorem Bel.alloc {a w : World} (h : Bel a w) (o : Obj) : Bel a (w.alloc o) := Below.alloc h h.size o
theorem Bel.setCell {a w : World} (h : Bel a w) {p : Addr} (hp : a.heap.size ≤ p.block) (u : Value) : Bel a (w.setCell p u) := Below.setCell h hp u
theorem Bel.szle {a w : World} (h : Bel a w) : a.heap.size ≤ w.heap.size := h.size
theorem Bel.cells {w w' : World} (h : Bel w w') : ∀ p : Addr, p.block < w.heap.size → w'.cell? p = w.cell? p := fun _ hp => Below.cell h hp
theorem Bel.frozens {w w' : World} (h : Bel w w') : ∀ p : Addr, p.block < w.heap.size → w'.frozen? p = w.frozen? p := fun _ hp => Below.frozen h hp
theorem Bel.cell {w w' : World} (h : Bel w w') {p : Addr} {v : Value} (hp : w.cell? p = some v) : w'.cell? p = some v := by
  rw [h.cells p (World.block_lt_of_cell? _ _ hp)]; exact hp
theorem Bel.below {w w' : World} (h : Bel w w') : Below w.heap.size w w' := h

theorem cell_lt {w : World} {a : Addr} {v : Value} (h : w.cell? a = some v) : a.block < w.heap.size := World.block_lt_of_cell? _ _ h

theorem rb {a b : Bool} (h : b = a) : Ending.returned (.bool a) = Ending.returned (.bool b) := by rw [h]
theorem ri {k : IntKind} {a b : Int} (h : b = a) : Ending.returned (.int k a) = Ending.returned (.int k b) := by rw [h]

section
variable {P : Program} {Q : Exit → Act → World → Prop}
theorem wp_region_mixB {id : Nat} {a : Act} {w : World} {l : List Oper} (p : Plan) (hm : P.follows .mixedOrders = true)
    (hB : (Region.noSelect l.toArray && p.ok .any l.toArray l.length (Array.replicate l.length false)) = true)
    (h : Bel w w.drew → wpMix P l.toArray (Bel w) (quietQ Q) (p.fill l) a w.drew) : (Code.region id l.toArray true).wp P Q a w :=
  wp_region_mix p (Bel w) hm hB (Bel.drew (Bel.refl w)) (h (Bel.drew (Bel.refl w)))
def Drew (w w' : World) : Prop := ∃ n, w' = w.drewN n
theorem wp_region_mixD {id : Nat} {a : Act} {w : World} {l : List Oper} (p : Plan) (hm : P.follows .mixedOrders = true)
    (hB : (Region.noSelect l.toArray && p.ok .any l.toArray l.length (Array.replicate l.length false)) = true)
    (h : Drew w w.drew → wpMix P l.toArray (Drew w) (quietQ Q) (p.fill l) a w.drew) : (Code.region id l.toArray true).wp P Q a w :=
  wp_region_mix p (Drew w) hm hB ⟨1, rfl⟩ (h ⟨1, rfl⟩)
theorem wp_region_mixC {id : Nat} {a : Act} {w : World} {l : List Oper} (p : Plan) (C : World → Prop) (hm : P.follows .mixedOrders = true)
    (hB : (Region.noSelect l.toArray && p.ok .any l.toArray l.length (Array.replicate l.length false)) = true)
    (hC : C w.drew) (h : C w.drew → wpMix P l.toArray C (quietQ Q) (p.fill l) a w.drew) : (Code.region id l.toArray true).wp P Q a w :=
  wp_region_mix p C hm hB hC (h hC)
theorem wp_region_mixTC {id : Nat} {a : Act} {w : World} {l : List Oper} (p : Plan) (C : World → Prop) (hm : P.follows .mixedOrders = true)
    (hB : (Region.noSelect l.toArray && (Region.sinkB .any l.toArray (l.length - 1) && (Region.chainB .any l.toArray (l.length - 1) && (decide (0 < l.length) && p.okT .any l.toArray (l.length - 1) (l.length - 1) (Array.replicate l.length false))))) = true)
    (hC : C w.drew) (h : C w.drew → wpMix P l.toArray C (tailQ P l.toArray (l.getD (l.length - 1) default) Q) (p.fill l) a w.drew) : (Code.region id l.toArray true).wp P Q a w :=
  wp_region_mixT p C hm hB hC (h hC)
theorem wp_region_mixTB {id : Nat} {a : Act} {w : World} {l : List Oper} (p : Plan) (hm : P.follows .mixedOrders = true)
    (hB : (Region.noSelect l.toArray && (Region.sinkB .any l.toArray (l.length - 1) && (Region.chainB .any l.toArray (l.length - 1) && (decide (0 < l.length) && p.okT .any l.toArray (l.length - 1) (l.length - 1) (Array.replicate l.length false))))) = true)
    (h : Bel w w.drew → wpMix P l.toArray (Bel w) (tailQ P l.toArray (l.getD (l.length - 1) default) Q) (p.fill l) a w.drew) : (Code.region id l.toArray true).wp P Q a w :=
  wp_region_mixT p (Bel w) hm hB (Bel.drew (Bel.refl w)) (h (Bel.drew (Bel.refl w)))
theorem wp_region_mixTD {id : Nat} {a : Act} {w : World} {l : List Oper} (p : Plan) (hm : P.follows .mixedOrders = true)
    (hB : (Region.noSelect l.toArray && (Region.sinkB .any l.toArray (l.length - 1) && (Region.chainB .any l.toArray (l.length - 1) && (decide (0 < l.length) && p.okT .any l.toArray (l.length - 1) (l.length - 1) (Array.replicate l.length false))))) = true)
    (h : Drew w w.drew → wpMix P l.toArray (Drew w) (tailQ P l.toArray (l.getD (l.length - 1) default) Q) (p.fill l) a w.drew) : (Code.region id l.toArray true).wp P Q a w :=
  wp_region_mixT p (Drew w) hm hB ⟨1, rfl⟩ (h ⟨1, rfl⟩)
end
/-- Only the cells from lo to hi of block b may have turned. -/
structure Only (b lo hi : Nat) (w w' : World) : Prop where
  os : w'.os = w.os
  tape : w'.tape = w.tape
  output : w'.output = w.output
  size : w'.heap.size = w.heap.size
  block : ∀ k, k ≠ b → w'.heap[k]? = w.heap[k]?
  cell : ∀ o, (o < lo ∨ hi ≤ o) → w'.cell? ⟨b, o, none⟩ = w.cell? ⟨b, o, none⟩
  frozen : ∀ a, w'.frozen? a = w.frozen? a
  shape : ∀ cs t fr, w.heap[b]? = some (.cells cs t fr) → ∃ cs', w'.heap[b]? = some (.cells cs' t fr) ∧ cs'.size = cs.size
theorem Only.refl (b lo hi : Nat) (w : World) : Only b lo hi w w := ⟨rfl, rfl, rfl, rfl, fun _ _ => rfl, fun _ _ => rfl, fun _ => rfl, fun cs _ _ h => ⟨cs, h, rfl⟩⟩
theorem Only.trans {b lo hi : Nat} {x y z : World} (h : Only b lo hi x y) (k : Only b lo hi y z) : Only b lo hi x z :=
  ⟨k.os.trans h.os, k.tape.trans h.tape, k.output.trans h.output, k.size.trans h.size, fun i hi => (k.block i hi).trans (h.block i hi),
    fun o ho => (k.cell o ho).trans (h.cell o ho), fun a => (k.frozen a).trans (h.frozen a), fun cs t fr q => by
      obtain ⟨c1, h1, h2⟩ := h.shape cs t fr q
      obtain ⟨c2, h3, h4⟩ := k.shape c1 t fr h1
      exact ⟨c2, h3, h4.trans h2⟩⟩
theorem Only.drew {b lo hi : Nat} {x y : World} (h : Only b lo hi x y) : Only b lo hi x y.drew := ⟨h.os, h.tape, h.output, h.size, h.block, h.cell, h.frozen, h.shape⟩
theorem Only.drewN {b lo hi : Nat} {x y : World} (h : Only b lo hi x y) (n : Nat) : Only b lo hi x (y.drewN n) := ⟨h.os, h.tape, h.output, h.size, h.block, h.cell, h.frozen, h.shape⟩
theorem Only.setCell {b lo hi : Nat} {x y : World} (h : Only b lo hi x y) {o : Nat} (h1 : lo ≤ o) (h2 : o < hi) (v : Value) : Only b lo hi x (y.setCell ⟨b, o, none⟩ v) :=
  h.trans ⟨rfl, rfl, rfl, by simp [World.setCell], fun k hk => Below.heap_setCell _ _ _ _ hk,
    fun j hj => World.cell?_setCell_other _ _ _ _ (by intro e; injection e with e1 e2; omega), fun a => World.frozen?_setCell .., fun cs t fr q => ⟨cs.setIfInBounds o v, by simp [World.setCell, Array.getElem?_modify, q], by simp⟩⟩
theorem Only.bel {b lo hi : Nat} {a w w' : World} (h : Only b lo hi w w') (k : Bel a w) (hb : a.heap.size ≤ b) : Bel a w' :=
  Below.trans k ⟨h.os, h.tape, h.output, by rw [h.size]; exact Nat.le_refl _, fun i hi => h.block i (by omega)⟩
theorem Only.cellAt {b lo hi : Nat} {w w' : World} (h : Only b lo hi w w') {a : Addr} (ha : a.block ≠ b) : w'.cell? a = w.cell? a :=
  World.cell?_of_block (h.block _ ha)

/-- Of what was there, only the cells from lo to hi of block b may have turned; there may be new blocks. -/
structure Turn (b lo hi : Nat) (w w' : World) : Prop where
  os : w'.os = w.os
  tape : w'.tape = w.tape
  output : w'.output = w.output
  size : w.heap.size ≤ w'.heap.size
  block : ∀ k, k < w.heap.size → k ≠ b → w'.heap[k]? = w.heap[k]?
  cell : ∀ o, b < w.heap.size → (o < lo ∨ hi ≤ o) → w'.cell? ⟨b, o, none⟩ = w.cell? ⟨b, o, none⟩
  frozen : ∀ a : Addr, a.block < w.heap.size → w'.frozen? a = w.frozen? a
  shape : b < w.heap.size → ∀ cs t fr, w.heap[b]? = some (.cells cs t fr) → ∃ cs', w'.heap[b]? = some (.cells cs' t fr) ∧ cs'.size = cs.size
theorem Only.turn {b lo hi : Nat} {w w' : World} (h : Only b lo hi w w') : Turn b lo hi w w' :=
  ⟨h.os, h.tape, h.output, by rw [h.size]; exact Nat.le_refl _, fun k _ hk => h.block k hk, fun o _ ho => h.cell o ho, fun a _ => h.frozen a, fun _ => h.shape⟩
theorem Bel.turn {w w' : World} (b lo hi : Nat) (h : Bel w w') : Turn b lo hi w w' :=
  ⟨h.os, h.tape, h.output, h.szle, fun k hk _ => h.below.block k hk, fun o hb _ => h.cells _ hb, fun _ ha => h.frozens _ ha, fun hb cs _ _ q => ⟨cs, by rw [h.below.block b hb]; exact q, rfl⟩⟩
theorem Turn.refl (b lo hi : Nat) (w : World) : Turn b lo hi w w := (Only.refl b lo hi w).turn
theorem Turn.trans {b lo hi : Nat} {x y z : World} (h : Turn b lo hi x y) (k : Turn b lo hi y z) : Turn b lo hi x z :=
  ⟨k.os.trans h.os, k.tape.trans h.tape, k.output.trans h.output, Nat.le_trans h.size k.size,
    fun i hi hb => (k.block i (Nat.lt_of_lt_of_le hi h.size) hb).trans (h.block i hi hb),
    fun o hb ho => (k.cell o (Nat.lt_of_lt_of_le hb h.size) ho).trans (h.cell o hb ho),
    fun a ha => (k.frozen a (Nat.lt_of_lt_of_le ha h.size)).trans (h.frozen a ha), fun hb cs t fr q => by
      obtain ⟨c1, h1, h2⟩ := h.shape hb cs t fr q
      obtain ⟨c2, h3, h4⟩ := k.shape (Nat.lt_of_lt_of_le hb h.size) c1 t fr h1
      exact ⟨c2, h3, h4.trans h2⟩⟩
theorem Turn.drew {b lo hi : Nat} {x y : World} (h : Turn b lo hi x y) : Turn b lo hi x y.drew := ⟨h.os, h.tape, h.output, h.size, h.block, h.cell, h.frozen, h.shape⟩
theorem Turn.alloc {b lo hi : Nat} {x y : World} (h : Turn b lo hi x y) (o : Obj) : Turn b lo hi x (y.alloc o) :=
  h.trans (Bel.turn b lo hi (Bel.alloc (Bel.refl y) o))
theorem Turn.bel {b lo hi : Nat} {a w w' : World} (h : Turn b lo hi w w') (k : Bel a w) (hb : a.heap.size ≤ b) : Bel a w' :=
  Below.trans k ⟨h.os, h.tape, h.output, h.size, fun i hi => h.block i (Nat.lt_of_lt_of_le hi k.szle) (by omega)⟩
/-- A cell of another block. -/
theorem Turn.other {b lo hi : Nat} {w w' : World} (h : Turn b lo hi w w') {p : Addr} {v : Value} (hp : p.block ≠ b) (hv : w.cell? p = some v) : w'.cell? p = some v := by
  rw [World.cell?_of_block (h.block p.block (cell_lt hv) hp)]; exact hv
theorem Turn.others {b lo hi : Nat} {w w' : World} (h : Turn b lo hi w w') : ∀ p : Addr, p.block < w.heap.size → p.block ≠ b → w'.cell? p = w.cell? p :=
  fun p hp hb => World.cell?_of_block (h.block p.block hp hb)

/-- A matrix of 21 rows and columns in block b from off on. -/
def MatAt (w : World) (b off : Nat) (M : Nat → Nat → Int) : Prop :=
  ∀ i, i < 21 → ∀ k, k < 21 → w.cell? ⟨b, off + i * 21 + k, none⟩ = some (.int .i64 (M i k))
def setM (M : Nat → Nat → Int) (i k : Nat) (x : Int) : Nat → Nat → Int := fun a c => if a = i ∧ c = k then x else M a c
theorem MatAt.setCell {w : World} {b off : Nat} {M : Nat → Nat → Int} (h : MatAt w b off M) {i k : Nat} (hi : i < 21) (hk : k < 21) (x : Int) :
    MatAt (w.setCell ⟨b, off + i * 21 + k, none⟩ (.int .i64 x)) b off (setM M i k x) := by
  intro a ha c hc
  unfold setM
  by_cases e : a = i ∧ c = k
  · rw [if_pos e, e.1, e.2]
    exact World.cell?_setCell_same _ _ _ (h i hi k hk)
  · rw [if_neg e, World.cell?_setCell_other _ _ _ _ (by intro q; injection q with q1 q2; omega)]
    exact h a ha c hc
theorem MatAt.of_eq {w w' : World} {b off : Nat} {M : Nat → Nat → Int} (h : MatAt w b off M) (e : ∀ o, w'.cell? ⟨b, o, none⟩ = w.cell? ⟨b, o, none⟩) : MatAt w' b off M :=
  fun i hi k hk => by rw [e]; exact h i hi k hk
theorem MatAt.bel {w w' : World} {b off : Nat} {M : Nat → Nat → Int} (h : MatAt w b off M) (k : Bel w w') : MatAt w' b off M :=
  fun i hi c hc => k.cell (h i hi c hc)
theorem MatAt.lt {w : World} {b off : Nat} {M : Nat → Nat → Int} (h : MatAt w b off M) : b < w.heap.size := cell_lt (h 0 (by omega) 0 (by omega))
end Go.Proofs.Ytkdcdhkhadhcfaa

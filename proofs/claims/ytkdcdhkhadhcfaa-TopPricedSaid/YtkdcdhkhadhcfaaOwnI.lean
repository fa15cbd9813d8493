/-
  rows of the call's own: lists of numbers that a call makes by append.
-/
import Derived.Test.YtkdcdhkhadhcfaaRef1
import Derived.Test.YtkdcdhkhadhcfaaAppend
import Derived.Test.YtkdcdhkhadhcfaaAppend2
import Derived.OwnWalk
namespace Go.Proofs.Ytkdcdhkhadhcfaa
open Go Go.RowKit
set_option maxHeartbeats 1000000
set_option maxRecDepth 100000
theorem mkInts : (Try.prog.info? 26).map (fun i => (i.zero, i.size, i.bytes)) = some (some (.slice none 0 0), 1, 24) := by kernel_rfl
theorem mkInt : (Try.prog.info? 3).map (fun i => (i.zero, i.size, i.bytes)) = some (some (.int .i64 0), 1, 8) := by kernel_rfl
theorem Bel.grown {a w w' : World} {r : Option Nat} (h : Bel a w) (hg : w.grownBy w' r) (hr : ∀ k, r = some k → a.heap.size ≤ k) : Bel a w' :=
  ⟨hg.os.trans h.os, hg.tape.trans h.tape, hg.output.trans h.output, Nat.le_trans h.size hg.size, fun k hk => by
    rw [hg.block k (Nat.lt_of_lt_of_le hk h.size) (fun q => by have := hr k q.symm; omega)]; exact h.block k hk⟩
theorem ownsRow_bel {w w' : World} {e : TypeId} {s n : Nat} {v : Value} {xs : List Value} (h : w.ownsRow 0 e s v n xs) (k : Bel w w') : w'.ownsRow 0 e s v n xs := by
  obtain ⟨h1, h2⟩ := h
  refine ⟨h1, ?_⟩
  rcases h2 with h2 | ⟨g, cap, cur, hv, hg, hh, r⟩
  · exact Or.inl h2
  · exact Or.inr ⟨g, cap, cur, hv, hg, by rw [k.below.block g (lt_of_block hh)]; exact hh, r⟩
theorem row_facts {w : World} {p : Nat} {cs : Array Value} {T : TypeId} (h : w.heap[p]? = some (.cells cs T (0, 0))) : (∀ j, w.cell? ⟨p, j, none⟩ = cs[j]?) ∧ ∀ o, w.frozen? ⟨p, o, none⟩ = false :=
  ⟨fun j => cell_of_row w p j cs _ _ h, fun o => by simp [World.frozen?, h]⟩
theorem new_row {w : World} {o : Obj} {g : Nat} (h : g = w.heap.size) : (w.alloc o).heap[g]? = some o := by subst h; exact heap_alloc_new ..
theorem old_row {w : World} {o : Obj} {r : Nat} (h : r < w.heap.size) : (w.alloc o).heap[r]? = w.heap[r]? := Below.heap_alloc w o r h
theorem ownInts {w : World} {x : Value} {l : List Int} (hl : l.length ≤ 140737488355328) (hx : w.ownsRow 0 3 1 x l.length (l.map (Value.int .i64))) : IntsAt w x l := by
  rcases hx.2 with ⟨rfl, h0⟩ | ⟨g, cap, cur, rfl, _, hg, hnc, hcm, hcs, htake⟩
  · have : l = [] := by cases l with
      | nil => rfl
      | cons a l => simp at h0
    subst this
    exact IntsAt.nil w
  · refine ⟨some ⟨g, 0, none⟩, cap, g, 0, rfl, fun _ => rfl, ⟨hl, hnc⟩, fun j hj => ?_⟩
    have := World.ownsRow.cellAt (h := hx) j (by omega)
    rw [Nat.zero_add, this]
    unfold at0
    simp [List.getD, hj]
/-- A list that the call makes. -/
structure IntSt (l : List Int) (w0 : World) (V : Value) (wr : World) : Prop where
  own : wr.ownsRow 0 3 1 V l.length (l.map (Value.int .i64))
  far : ∀ g, V.ownBlock = some g → w0.heap.size ≤ g
  bel : Bel w0 wr
theorem IntSt.start (w0 : World) : IntSt [] w0 (.slice none 0 0) w0 := ⟨World.ownsRow_nil w0 0 _ 1, fun g h => by simp [Value.ownBlock] at h, Bel.refl _⟩
theorem IntSt.keep {l : List Int} {w0 wr wx : World} {V : Value} (h : IntSt l w0 V wr) (k : Bel wr wx) : IntSt l w0 V wx := ⟨ownsRow_bel h.own k, h.far, h.bel.trans k⟩
theorem IntSt.next {l : List Int} {w0 wa w' : World} {V V' : Value} {x : Int} (h : IntSt l w0 V wa)
    (ho : w'.ownsRow 0 3 1 V' (l.length + 1) (l.map (Value.int .i64) ++ [.int .i64 x])) (hg : wa.grownBy w' V.ownBlock) (hv : V'.ownBlock = V.ownBlock ∨ V'.ownBlock = some wa.heap.size) :
    IntSt (l ++ [x]) w0 V' w' := by
  refine ⟨by simpa using ho, fun g q => ?_, h.bel.grown hg h.far⟩
  rcases hv with e | e
  · exact h.far g (by rw [← e]; exact q)
  · rw [e] at q; injection q with q; have := h.bel.szle; omega
theorem ownsRow_lt {w : World} {e : TypeId} {s n : Nat} {v : Value} {xs : List Value} (h : w.ownsRow 0 e s v n xs) {g : Nat} (hg : v.ownBlock = some g) : g < w.heap.size := by
  rcases h.2 with ⟨rfl, _⟩ | ⟨g2, cap, cur, rfl, _, hh, _⟩
  · simp [Value.ownBlock] at hg
  · simp [Value.ownBlock] at hg
    rw [← hg]; exact lt_of_block hh
theorem IntSt.ints {l : List Int} {w0 wr : World} {V : Value} (h : IntSt l w0 V wr) (hl : l.length ≤ 140737488355328) : IntsAt wr V l := ownInts hl h.own
theorem IntSt.len {l : List Int} {w0 wr : World} {V : Value} (h : IntSt l w0 V wr) : ∃ a c, V = .slice a l.length c := by
  rcases h.own.2 with ⟨rfl, e⟩ | ⟨g, cap, cur, rfl, _⟩
  · exact ⟨none, 0, by rw [e]⟩
  · exact ⟨some ⟨g, 0, none⟩, cap, rfl⟩
end Go.Proofs.Ytkdcdhkhadhcfaa

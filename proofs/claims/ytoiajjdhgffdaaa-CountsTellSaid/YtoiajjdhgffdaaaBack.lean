/-
  slices.Backward over a slice of ints: the iterator's contract.
-/
import Derived.RangeFuncNested
import Derived.RangeFuncBound
import Derived.RangeFuncCalls
import Derived.RangeFuncLeaves
import Derived.RangeFuncBox
import Derived.Shelf.Abstract
import Derived.Shelf.RegionOpen
import Derived.WalkKit
import Derived.OwnWalkIn
import Derived.TacticsInMore
import Derived.LoopNIn
import Derived.LoopIn
import Derived.Test.YtoiajjdhgffdaaaCheck
namespace Go.Proofs.Ytoiajjdhgffdaaa
open Go Go.RowKit Go.Shelf
attribute [local go_sem] Oper.semAt_some
set_option maxHeartbeats 4000000
set_option maxRecDepth 100000
theorem Bel.keeps {W W' : World} (h : Bel W W') : KeepsOthers W W' := ⟨h.szle, fun k _ hk _ => (h.below.block k (Array.getElem?_eq_some_iff.1 hk).1).trans hk⟩
/-- What a round keeps: what lay below n₀, and the iterator's box. -/
def KpB (n₀ Bs : Nat) (W W' : World) : Prop := Below n₀ W W' ∧ W'.cell? ⟨Bs, 0, none⟩ = W.cell? ⟨Bs, 0, none⟩
theorem KpB.t {n₀ Bs : Nat} {A B C : World} (h : KpB n₀ Bs A B) (k : KpB n₀ Bs B C) : KpB n₀ Bs A C := ⟨h.1.trans k.1, k.2.trans h.2⟩
theorem KpB.b {n₀ Bs : Nat} {w : World} (hn : n₀ ≤ w.heap.size) (hBs : Bs < w.heap.size) (W : World) (l : Nat) (o o' : Obj) (hl : w.heap.size ≤ l) (h : W.heap[l]? = some o) (h1 : o.isCells = false) (h2 : o.isWalk = false) : KpB n₀ Bs W (W.putObj l o') :=
  ⟨belowK_b hn W l o o' hl h h1 h2, World.cell?_of_block (World.putObj_heap_other (by show Bs ≠ l; omega))⟩
/-- From the last to the first: the first k of them. -/
def down (n : Nat) : Nat → List (Fin n)
  | 0 => []
  | k + 1 => if h : k < n then down n k ++ [⟨n - 1 - k, by omega⟩] else down n k
theorem down_succ {n k : Nat} (h : k < n) : down n (k + 1) = down n k ++ [⟨n - 1 - k, by omega⟩] := by show (if h : k < n then _ else _) = _; rw [dif_pos h]
theorem down_len {n : Nat} : ∀ k, k ≤ n → (down n k).length = k
  | 0, _ => rfl
  | k + 1, h => by rw [down_succ (by omega), List.length_append, down_len k (by omega)]; rfl
theorem Back1_in (F : Fence) (n : Nat) (hf : F.fn 109) (hro : F.round = none) (hn : 1 ≤ n) (l Bs n₀ : Nat) (a : Option Addr) (cap b off : Nat) (ln : List Int) (ha : 0 < ln.length → a = some ⟨b, off, none⟩) (h40 : ln.length ≤ 40)
    (hb : 0 < ln.length → b < n₀) (J Jx : List (Fin ln.length) → World → Prop)
    (hY : ∀ pre x W, J pre W → pre.length < ln.length → YieldAt F (n - 1) Try.prog l #[.int .i64 ((x.val : Nat) : Int), .int .i64 (at0 ln x.val)] W fun e W' =>
      (e = .returned (.bool true) ∧ J (pre ++ [x]) W' ∧ KpB n₀ Bs W W') ∨ (e = .returned (.bool false) ∧ Jx (pre ++ [x]) W'))
    (W : World) (hBs : W.cell? ⟨Bs, 0, none⟩ = some (.slice a ln.length cap)) (hc : ∀ j, j < ln.length → W.cell? ⟨b, off + j, none⟩ = some (.int .i64 (at0 ln j))) (h0 : J [] W) :
    CallsIn F n Try.prog 109 #[.func (.yield l) #[] #[], .pointer (some ⟨Bs, 0, none⟩)] W fun e W' => (∃ v, e = .returned v) ∧
      ((∃ ys, ys = down ln.length ln.length ∧ J ys W') ∨ (∃ pre, (∃ k, k ≤ ln.length ∧ pre = down ln.length k) ∧ Jx pre W')) := by
  have hix := idxInts (c := cap) ha
  refine callsIn_of_wp Try.func109 rfl hf ?_ hro
  simp only [Try.ntmps109, List.size_toArray, List.length_cons, List.length_nil, Nat.reduceAdd, Nat.reduceSub, Array.replicate_succ, Array.replicate_zero, List.push_toArray, List.append_toArray, List.nil_append, List.cons_append]
  gi_wp2
  gi_loopw [3] (fun i wr => ∃ k : Nat, k ≤ ln.length ∧ i = .int .i64 ((ln.length : Int) - 1 - k) ∧ J (down ln.length k) wr ∧ KpB n₀ Bs W wr)
    (fun i _ => (intOf i + 1).toNat)
  case atStart => exact ⟨0, Nat.zero_le _, by simp, h0, Below.refl _ _, rfl⟩
  case round =>
    obtain ⟨k, hk, rfl, hJs, hnx⟩ := hrel
    by_cases hlt : k < ln.length
    · have hbx := hnx.2.trans hBs
      have hcx := (hnx.1.cell (p := ⟨b, off + (ln.length - 1 - k), none⟩) (hb (by omega))).trans (hc (ln.length - 1 - k) (by omega))
      obtain ⟨fn, tmps, assign, body, hy, hR⟩ := hY _ ⟨ln.length - 1 - k, by omega⟩ wr hJs (by rw [down_len k hk]; exact hlt)
      dsimp only at hy
      obtain ⟨m, hm⟩ : ∃ m, m = ln.length - 1 - k := ⟨_, rfl⟩
      have hmi : (ln.length : Int) - 1 - k = (m : Int) := by omega
      have hm2 : m < ln.length := by omega
      have hm3 : (m : Int) < (ln.length : Int) := by omega
      rw [← hm] at hcx hy
      rw [hmi]
      have HM := Lib.hid hm
      have HHC := Lib.hid hc
      have HMI := Lib.hid hmi
      clear hm hc hmi
      gi_wp2
      refine hR.mono ?_
      rintro e W3 (⟨rfl, hJ3, hk3⟩ | ⟨rfl, hJx3⟩)
      · gi_wp2
        go_roundw
        case rel => exact ⟨k + 1, by omega, by have := HMI.out; congr 1; omega, by rw [down_succ hlt]; exact hJ3, hnx.t hk3⟩
        case measure => have := HMI.out; simp [intOf]
      · gi_wp2
        refine bodyPost_ret (results_none rfl _ _ _) rfl ?_
        exact ⟨⟨_, rfl⟩, .inr ⟨_, ⟨k + 1, by omega, (down_succ hlt).symm⟩, hJx3⟩⟩
    · obtain rfl : k = ln.length := by omega
      have hmi : (ln.length : Int) - 1 - (ln.length : Int) = -1 := by omega
      rw [hmi]
      gi_wp2
      go_end0
      exact ⟨⟨_, rfl⟩, .inl ⟨_, rfl, hJs⟩⟩
theorem Back_in (F : Fence) (n : Nat) (hf : F.fn 104) (hro : F.round = none) (a : Option Addr) (len cap : Nat) (w : World) :
    CallsIn F n Try.prog 104 #[.slice a len cap] w fun e w' => e = .returned (.func (.func 109) #[] #[.pointer (some ⟨w.heap.size, 0, none⟩)]) ∧ w' = w.alloc (.cells #[.slice a len cap] 42) := by
  refine callsIn_of_wp Try.func104 rfl hf ?_ hro
  simp only [Try.ntmps104, List.size_toArray, List.length_cons, List.length_nil, Nat.reduceAdd, Nat.reduceSub, Array.replicate_succ, Array.replicate_zero, List.push_toArray, List.append_toArray, List.nil_append, List.cons_append]
  gi_wp2
  go_ret
  exact ⟨rfl, rfl⟩
theorem Back_stops (F : Fence) (n : Nat) (hf : F.fn 109) (hro : F.round = none) (hn : 1 ≤ n) (Bs n₀ : Nat) (a : Option Addr) (cap b off : Nat) (ln : List Int) (ha : 0 < ln.length → a = some ⟨b, off, none⟩) (h40 : ln.length ≤ 40)
    (hb : 0 < ln.length → b < n₀) (w : World) (hBs : Bs < w.heap.size) (hn₀ : n₀ ≤ w.heap.size) (hc : w.cell? ⟨Bs, 0, none⟩ = some (.slice a ln.length cap)) (hcs : ∀ j, j < ln.length → w.cell? ⟨b, off + j, none⟩ = some (.int .i64 (at0 ln j))) :
    SeqStopsK F n Try.prog 109 #[.pointer (some ⟨Bs, 0, none⟩)] (fun x : Fin ln.length => #[Value.int .i64 ((x.val : Nat) : Int), Value.int .i64 (at0 ln x.val)]) (KpB n₀ Bs) (fun ys => ys = down ln.length ln.length)
      (fun pre => ∃ k, k ≤ ln.length ∧ pre = down ln.length k) ln.length w := fun l J Jx W hW _ _ hY h0 => by
  have hc' := (hW.cell (p := ⟨Bs, 0, none⟩) hBs).trans hc
  exact Back1_in F n hf hro hn l Bs n₀ a cap b off ln ha h40 hb J Jx hY W hc' (fun j hj => (hW.cell (p := ⟨b, off + j, none⟩) (by have := hb (by omega); show b < _; omega)).trans (hcs j hj)) h0
end Go.Proofs.Ytoiajjdhgffdaaa

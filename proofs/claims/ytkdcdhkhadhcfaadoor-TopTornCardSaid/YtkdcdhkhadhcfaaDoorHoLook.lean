/-
  mesh: a choice looks at one more.
-/
import Derived.Test.YtkdcdhkhadhcfaaDoorHoLast
import Derived.Test.YtkdcdhkhadhcfaaDoorHoChk
namespace Go.Proofs.YtkdcdhkhadhcfaaDoor
set_option linter.unusedVariables false
open Go Go.RowKit Go.Shelf
set_option maxHeartbeats 8000000
set_option maxRecDepth 100000
theorem look_take (cb : Nat) (a a0 : Option Addr) (l c l0 c0 : Nat) (k k0 : Int) (s : Bool) (w : World) (h0 : w.cell? ⟨cb, 0, none⟩ = some (.slice a0 l0 c0)) (h1 : w.cell? ⟨cb, 1, none⟩ = some (.int .i64 k0)) (h2 : w.cell? ⟨cb, 2, none⟩ = some (.bool s))
    (hf : ∀ o, w.frozen? ⟨cb, o, none⟩ = false) (hs : s = false ∨ k < k0) :
    Calls Tryd.prog 93 #[.pointer (some ⟨cb, 0, none⟩), .slice a l c, .int .i64 k] w fun e w' => (∃ v, e = .returned v) ∧ w' = ((w.setCell ⟨cb, 0, none⟩ (.slice a l c)).setCell ⟨cb, 1, none⟩ (.int .i64 k)).setCell ⟨cb, 2, none⟩ (.bool true) := by
  have f0 := hf 0
  have f1 := hf 1
  have f2 := hf 2
  clear hf
  cases s with
  | false =>
    clear hs
    go_enter Tryd.func93, Tryd.ntmps93
    go_wp2
    go_end0
    exact ⟨⟨_, rfl⟩, rfl⟩
  | true =>
    have hk : k < k0 := by rcases hs with h | h; cases h; exact h
    clear hs
    go_enter Tryd.func93, Tryd.ntmps93
    go_wp2
    go_end0
    exact ⟨⟨_, rfl⟩, rfl⟩
theorem look_skip (cb : Nat) (a a0 : Option Addr) (l c l0 c0 : Nat) (k k0 : Int) (w : World) (h0 : w.cell? ⟨cb, 0, none⟩ = some (.slice a0 l0 c0)) (h1 : w.cell? ⟨cb, 1, none⟩ = some (.int .i64 k0)) (h2 : w.cell? ⟨cb, 2, none⟩ = some (.bool true)) (hs : k0 ≤ k) :
    Calls Tryd.prog 93 #[.pointer (some ⟨cb, 0, none⟩), .slice a l c, .int .i64 k] w fun e w' => (∃ v, e = .returned v) ∧ w' = w := by
  go_enter Tryd.func93, Tryd.ntmps93
  go_wp2
  go_end0
  exact ⟨⟨_, rfl⟩, rfl⟩
end Go.Proofs.YtkdcdhkhadhcfaaDoor

/-
  counts: Judge.
-/
import Derived.Test.YtkdcdhkhadhcfaaOpen2
namespace Go.Proofs.Ytkdcdhkhadhcfaa
open Go Go.RowKit
set_option maxHeartbeats 1000000
set_option maxRecDepth 100000
/-- A number and an error. -/
def IntPost (er r : Int) (w : World) (e : Ending) (w' : World) : Prop :=
  e = .returned (.tuple #[.int .i64 (if er = 0 then r else 0), .int .i64 er]) ∧ Bel w w'
theorem IntPost.err {er r : Int} {w w' : World} (h : er ≠ 0) (hb : Bel w w') : IntPost er r w (.returned (.tuple #[.int .i64 0, .int .i64 er])) w' := by
  unfold IntPost; rw [if_neg h]; exact ⟨rfl, hb⟩
theorem IntPost.ok {er r x : Int} {w w' : World} (h : er = 0) (hx : r = x) (hb : Bel w w') : IntPost er r w (.returned (.tuple #[.int .i64 x, .int .i64 0])) w' := by
  unfold IntPost; rw [if_pos h, h, hx]; exact ⟨rfl, hb⟩
def judgeR (lo hi low high : Int) : Int := if low ≤ lo ∧ hi ≤ high then 1 else if high < lo ∨ hi < low then 2 else 3
end Go.Proofs.Ytkdcdhkhadhcfaa

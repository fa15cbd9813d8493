/-
  law: CountsEnough: Enough of more fish is not earlier; at its Low as many can be in the last chamber, at its High as many surely are, and not before: the call returns true for every trap and numbers, and changes nothing that was there
-/
import Derived.Test.YtoiajjdhgffdaaaEnslt
import Derived.Test.YtoiajjdhgffdaaaEnseq
import Derived.Test.YtoiajjdhgffdaaaEnsgt
namespace Go.Proofs.Ytoiajjdhgffdaaa
open Go Go.RowKit
theorem CountsEnough_any (t : CT) (v : Value) (one other : Int) (w : World) (hv : TrapAt w v t) : Calls Try.prog 5 #[v, .int .i64 one, .int .i64 other] w fun e w' => e = .returned (.bool true) ∧ Bel w w' := by
  by_cases h1 : one < other
  · exact CountsEnough_lt t v one other w hv h1
  · by_cases h2 : one = other
    · exact CountsEnough_eq t v one other w hv h2
    · exact CountsEnough_gt t v one other w hv (by omega)
end Go.Proofs.Ytoiajjdhgffdaaa

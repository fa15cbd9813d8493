/-
  NARROWER THAN 'FOR EVERY INPUT', by the rows' own cells (each row's printed sentence says how): BeastsPath: laid · BeastsBack: laid · BeastsEach: laid · BeastsKnown: laid · BeastsScript: laid · BeastsLeast: laid · BeastsTrapped: laid · BeastsBlind: laid · BeastsCosts: laid · BeastsTimes: laid · BeastsRun: laid · BeastsAfter: laid.
  DERIVED. THE GIVEN ROWS OF THIS SEAT. 12 by the template 'for every input the law returns true; each argument reads behind the call as it read before'; 0 by the template 'total and deterministic' (their statements: YtogiidkofddhaaaDoorTotals.lean).
  GIVEN WITH THE SEED: the statements are not yours to turn. If you find one false, say at which input.
  Laid BY PROGRAM, IN A SANDBOX (cutbox-rows.mjs): the forced cells as the released guide's own fill.sh prints them over the translation 878073d3d3b3eca3… (all of the seat's roots in one cut). By AI agents, Wed Nov 11 2026. No macro, syntax, notation, axiom, sorry.
-/
import Derived.Test.YtogiidkofddhaaaDoorChecked
import GoSem.Claim
import GoSem.ClaimJoined
import GoSem.ClaimMapViews
import Derived.JoinedTies
import Derived.KernelRfl
namespace Go.Proofs.YtogiidkofddhaaaDoor
/- THE CELL 'sum', in the pinned program and in every row, IS THE sha256 OF THE DUMP (.gsa) THAT YtogiidkofddhaaaDoorProg.lean LOADS. Nothing in Lean hashes anything: it is a label: what it is worth is what the hold of that sum in a sandbox is worth. -/
noncomputable def Tryd.pinned : Pinned := { name := "ytogiidkofddhaaadoor", sum := "878073d3d3b3eca3d7be9047e6590e90691d0f177b1b4e5b791ef03871b36db5", checked := Tryd.checked }
namespace Rows
def none {H : Type} : Left H := { results := [], args := [] }

/- WHAT THE LISTED PACKAGE-LEVEL VARIABLES READ AS WHEN THE CALL BEGINS. Each datum BY PROGRAM (the guide's laid-datum.mjs) off the statement by which the dump's own 'gosem.cut.vars' lays the variable. In a bare row this is a premise. The card (YtogiidkofddhaaaDoorCards.lean) ties it to the program's text. -/
def laid_almadraba_beasts_far {H : Type} : DataW H := .agg [.lit (.int .i64 1073741824), .lit (.int .i64 1073741824)]

/-- 'almadrabalaw06.BeastsPath': WHATEVER THE INPUT: true; the input reads as it did. -/
def beastsPathSpec : ChangeSpec := { name := "beastsPath", fn := fun _ => fun
  | [d1, d2] => { results := [.lit (.bool true)], args := [d1, d2] }
  | _ => none }
def beastsPathRow : OpenClaim := { program := "ytogiidkofddhaaadoor", sum := "878073d3d3b3eca3d7be9047e6590e90691d0f177b1b4e5b791ef03871b36db5", func := "almadraba/almadrabalaw06.BeastsPath", spec := "beastsPath", unfollowed := true, recurses := true, named := ["almadraba/beasts.far"], apart := false, laid := [("almadraba/beasts.far", laid_almadraba_beasts_far)] }
def BeastsPathSaid : Prop := beastsPathRow.holds Tryd.pinned (OpenSpec.ofChange beastsPathSpec)

/-- ITS FALSE NEIGHBOUR: 'it returns false'. Refute it at one input. -/
def beastsPathWrong : ChangeSpec := { name := "beastsPath", fn := fun _ => fun
  | [d1, d2] => { results := [.lit (.bool false)], args := [d1, d2] }
  | _ => none }
def BeastsPathWrongFalsely : Prop := beastsPathRow.holds Tryd.pinned (OpenSpec.ofChange beastsPathWrong)

/-- 'almadrabalaw06.BeastsBack': WHATEVER THE INPUT: true; the input reads as it did. -/
def beastsBackSpec : ChangeSpec := { name := "beastsBack", fn := fun _ => fun
  | [d1, d2, d3] => { results := [.lit (.bool true)], args := [d1, d2, d3] }
  | _ => none }
def beastsBackRow : OpenClaim := { program := "ytogiidkofddhaaadoor", sum := "878073d3d3b3eca3d7be9047e6590e90691d0f177b1b4e5b791ef03871b36db5", func := "almadraba/almadrabalaw06.BeastsBack", spec := "beastsBack", unfollowed := true, recurses := true, named := ["almadraba/beasts.far"], apart := false, laid := [("almadraba/beasts.far", laid_almadraba_beasts_far)] }
def BeastsBackSaid : Prop := beastsBackRow.holds Tryd.pinned (OpenSpec.ofChange beastsBackSpec)

/-- ITS FALSE NEIGHBOUR: 'it returns false'. Refute it at one input. -/
def beastsBackWrong : ChangeSpec := { name := "beastsBack", fn := fun _ => fun
  | [d1, d2, d3] => { results := [.lit (.bool false)], args := [d1, d2, d3] }
  | _ => none }
def BeastsBackWrongFalsely : Prop := beastsBackRow.holds Tryd.pinned (OpenSpec.ofChange beastsBackWrong)

/-- 'almadrabalaw06.BeastsEach': WHATEVER THE INPUT: true; the input reads as it did. -/
def beastsEachSpec : ChangeSpec := { name := "beastsEach", fn := fun _ => fun
  | [d1, d2] => { results := [.lit (.bool true)], args := [d1, d2] }
  | _ => none }
def beastsEachRow : OpenClaim := { program := "ytogiidkofddhaaadoor", sum := "878073d3d3b3eca3d7be9047e6590e90691d0f177b1b4e5b791ef03871b36db5", func := "almadraba/almadrabalaw06.BeastsEach", spec := "beastsEach", unfollowed := true, recurses := true, named := ["almadraba/beasts.far"], apart := false, laid := [("almadraba/beasts.far", laid_almadraba_beasts_far)] }
def BeastsEachSaid : Prop := beastsEachRow.holds Tryd.pinned (OpenSpec.ofChange beastsEachSpec)

/-- ITS FALSE NEIGHBOUR: 'it returns false'. Refute it at one input. -/
def beastsEachWrong : ChangeSpec := { name := "beastsEach", fn := fun _ => fun
  | [d1, d2] => { results := [.lit (.bool false)], args := [d1, d2] }
  | _ => none }
def BeastsEachWrongFalsely : Prop := beastsEachRow.holds Tryd.pinned (OpenSpec.ofChange beastsEachWrong)

/-- 'almadrabalaw06.BeastsKnown': WHATEVER THE INPUT: true; the input reads as it did. -/
def beastsKnownSpec : ChangeSpec := { name := "beastsKnown", fn := fun _ => fun
  | [d1, d2] => { results := [.lit (.bool true)], args := [d1, d2] }
  | _ => none }
def beastsKnownRow : OpenClaim := { program := "ytogiidkofddhaaadoor", sum := "878073d3d3b3eca3d7be9047e6590e90691d0f177b1b4e5b791ef03871b36db5", func := "almadraba/almadrabalaw06.BeastsKnown", spec := "beastsKnown", unfollowed := true, recurses := true, named := ["almadraba/beasts.far"], apart := false, laid := [("almadraba/beasts.far", laid_almadraba_beasts_far)] }
def BeastsKnownSaid : Prop := beastsKnownRow.holds Tryd.pinned (OpenSpec.ofChange beastsKnownSpec)

/-- ITS FALSE NEIGHBOUR: 'it returns false'. Refute it at one input. -/
def beastsKnownWrong : ChangeSpec := { name := "beastsKnown", fn := fun _ => fun
  | [d1, d2] => { results := [.lit (.bool false)], args := [d1, d2] }
  | _ => none }
def BeastsKnownWrongFalsely : Prop := beastsKnownRow.holds Tryd.pinned (OpenSpec.ofChange beastsKnownWrong)

/-- 'almadrabalaw06.BeastsScript': WHATEVER THE INPUT: true; the input reads as it did. -/
def beastsScriptSpec : ChangeSpec := { name := "beastsScript", fn := fun _ => fun
  | [d] => { results := [.lit (.bool true)], args := [d] }
  | _ => none }
def beastsScriptRow : OpenClaim := { program := "ytogiidkofddhaaadoor", sum := "878073d3d3b3eca3d7be9047e6590e90691d0f177b1b4e5b791ef03871b36db5", func := "almadraba/almadrabalaw06.BeastsScript", spec := "beastsScript", unfollowed := true, recurses := true, named := ["almadraba/beasts.far"], apart := false, laid := [("almadraba/beasts.far", laid_almadraba_beasts_far)] }
def BeastsScriptSaid : Prop := beastsScriptRow.holds Tryd.pinned (OpenSpec.ofChange beastsScriptSpec)

/-- ITS FALSE NEIGHBOUR: 'it returns false'. Refute it at one input. -/
def beastsScriptWrong : ChangeSpec := { name := "beastsScript", fn := fun _ => fun
  | [d] => { results := [.lit (.bool false)], args := [d] }
  | _ => none }
def BeastsScriptWrongFalsely : Prop := beastsScriptRow.holds Tryd.pinned (OpenSpec.ofChange beastsScriptWrong)

/-- 'almadrabalaw06.BeastsLeast': WHATEVER THE INPUT: true; the input reads as it did. -/
def beastsLeastSpec : ChangeSpec := { name := "beastsLeast", fn := fun _ => fun
  | [d1, d2] => { results := [.lit (.bool true)], args := [d1, d2] }
  | _ => none }
def beastsLeastRow : OpenClaim := { program := "ytogiidkofddhaaadoor", sum := "878073d3d3b3eca3d7be9047e6590e90691d0f177b1b4e5b791ef03871b36db5", func := "almadraba/almadrabalaw06.BeastsLeast", spec := "beastsLeast", unfollowed := true, recurses := true, named := ["almadraba/beasts.far"], apart := false, laid := [("almadraba/beasts.far", laid_almadraba_beasts_far)] }
def BeastsLeastSaid : Prop := beastsLeastRow.holds Tryd.pinned (OpenSpec.ofChange beastsLeastSpec)

/-- ITS FALSE NEIGHBOUR: 'it returns false'. Refute it at one input. -/
def beastsLeastWrong : ChangeSpec := { name := "beastsLeast", fn := fun _ => fun
  | [d1, d2] => { results := [.lit (.bool false)], args := [d1, d2] }
  | _ => none }
def BeastsLeastWrongFalsely : Prop := beastsLeastRow.holds Tryd.pinned (OpenSpec.ofChange beastsLeastWrong)

/-- 'almadrabalaw06.BeastsTrapped': WHATEVER THE INPUT: true; the input reads as it did. -/
def beastsTrappedSpec : ChangeSpec := { name := "beastsTrapped", fn := fun _ => fun
  | [d1, d2, d3] => { results := [.lit (.bool true)], args := [d1, d2, d3] }
  | _ => none }
def beastsTrappedRow : OpenClaim := { program := "ytogiidkofddhaaadoor", sum := "878073d3d3b3eca3d7be9047e6590e90691d0f177b1b4e5b791ef03871b36db5", func := "almadraba/almadrabalaw06.BeastsTrapped", spec := "beastsTrapped", unfollowed := true, recurses := true, named := ["almadraba/beasts.far"], apart := false, laid := [("almadraba/beasts.far", laid_almadraba_beasts_far)] }
def BeastsTrappedSaid : Prop := beastsTrappedRow.holds Tryd.pinned (OpenSpec.ofChange beastsTrappedSpec)

/-- ITS FALSE NEIGHBOUR: 'it returns false'. Refute it at one input. -/
def beastsTrappedWrong : ChangeSpec := { name := "beastsTrapped", fn := fun _ => fun
  | [d1, d2, d3] => { results := [.lit (.bool false)], args := [d1, d2, d3] }
  | _ => none }
def BeastsTrappedWrongFalsely : Prop := beastsTrappedRow.holds Tryd.pinned (OpenSpec.ofChange beastsTrappedWrong)

/-- 'almadrabalaw06.BeastsBlind': WHATEVER THE INPUT: true; the input reads as it did. -/
def beastsBlindSpec : ChangeSpec := { name := "beastsBlind", fn := fun _ => fun
  | [d1, d2] => { results := [.lit (.bool true)], args := [d1, d2] }
  | _ => none }
def beastsBlindRow : OpenClaim := { program := "ytogiidkofddhaaadoor", sum := "878073d3d3b3eca3d7be9047e6590e90691d0f177b1b4e5b791ef03871b36db5", func := "almadraba/almadrabalaw06.BeastsBlind", spec := "beastsBlind", unfollowed := true, recurses := true, named := ["almadraba/beasts.far"], apart := false, laid := [("almadraba/beasts.far", laid_almadraba_beasts_far)] }
def BeastsBlindSaid : Prop := beastsBlindRow.holds Tryd.pinned (OpenSpec.ofChange beastsBlindSpec)

/-- ITS FALSE NEIGHBOUR: 'it returns false'. Refute it at one input. -/
def beastsBlindWrong : ChangeSpec := { name := "beastsBlind", fn := fun _ => fun
  | [d1, d2] => { results := [.lit (.bool false)], args := [d1, d2] }
  | _ => none }
def BeastsBlindWrongFalsely : Prop := beastsBlindRow.holds Tryd.pinned (OpenSpec.ofChange beastsBlindWrong)

/-- 'almadrabalaw06.BeastsCosts': WHATEVER THE INPUT: true; the input reads as it did. -/
def beastsCostsSpec : ChangeSpec := { name := "beastsCosts", fn := fun _ => fun
  | [d1, d2] => { results := [.lit (.bool true)], args := [d1, d2] }
  | _ => none }
def beastsCostsRow : OpenClaim := { program := "ytogiidkofddhaaadoor", sum := "878073d3d3b3eca3d7be9047e6590e90691d0f177b1b4e5b791ef03871b36db5", func := "almadraba/almadrabalaw06.BeastsCosts", spec := "beastsCosts", unfollowed := true, recurses := true, named := ["almadraba/beasts.far"], apart := false, laid := [("almadraba/beasts.far", laid_almadraba_beasts_far)] }
def BeastsCostsSaid : Prop := beastsCostsRow.holds Tryd.pinned (OpenSpec.ofChange beastsCostsSpec)

/-- ITS FALSE NEIGHBOUR: 'it returns false'. Refute it at one input. -/
def beastsCostsWrong : ChangeSpec := { name := "beastsCosts", fn := fun _ => fun
  | [d1, d2] => { results := [.lit (.bool false)], args := [d1, d2] }
  | _ => none }
def BeastsCostsWrongFalsely : Prop := beastsCostsRow.holds Tryd.pinned (OpenSpec.ofChange beastsCostsWrong)

/-- 'almadrabalaw06.BeastsTimes': WHATEVER THE INPUT: true; the input reads as it did. -/
def beastsTimesSpec : ChangeSpec := { name := "beastsTimes", fn := fun _ => fun
  | [d1, d2, d3] => { results := [.lit (.bool true)], args := [d1, d2, d3] }
  | _ => none }
def beastsTimesRow : OpenClaim := { program := "ytogiidkofddhaaadoor", sum := "878073d3d3b3eca3d7be9047e6590e90691d0f177b1b4e5b791ef03871b36db5", func := "almadraba/almadrabalaw06.BeastsTimes", spec := "beastsTimes", unfollowed := true, recurses := true, named := ["almadraba/beasts.far"], apart := false, laid := [("almadraba/beasts.far", laid_almadraba_beasts_far)] }
def BeastsTimesSaid : Prop := beastsTimesRow.holds Tryd.pinned (OpenSpec.ofChange beastsTimesSpec)

/-- ITS FALSE NEIGHBOUR: 'it returns false'. Refute it at one input. -/
def beastsTimesWrong : ChangeSpec := { name := "beastsTimes", fn := fun _ => fun
  | [d1, d2, d3] => { results := [.lit (.bool false)], args := [d1, d2, d3] }
  | _ => none }
def BeastsTimesWrongFalsely : Prop := beastsTimesRow.holds Tryd.pinned (OpenSpec.ofChange beastsTimesWrong)

/-- 'almadrabalaw06.BeastsRun': WHATEVER THE INPUT: true; the input reads as it did. -/
def beastsRunSpec : ChangeSpec := { name := "beastsRun", fn := fun _ => fun
  | [d1, d2] => { results := [.lit (.bool true)], args := [d1, d2] }
  | _ => none }
def beastsRunRow : OpenClaim := { program := "ytogiidkofddhaaadoor", sum := "878073d3d3b3eca3d7be9047e6590e90691d0f177b1b4e5b791ef03871b36db5", func := "almadraba/almadrabalaw06.BeastsRun", spec := "beastsRun", unfollowed := true, recurses := true, named := ["almadraba/beasts.far"], apart := false, laid := [("almadraba/beasts.far", laid_almadraba_beasts_far)] }
def BeastsRunSaid : Prop := beastsRunRow.holds Tryd.pinned (OpenSpec.ofChange beastsRunSpec)

/-- ITS FALSE NEIGHBOUR: 'it returns false'. Refute it at one input. -/
def beastsRunWrong : ChangeSpec := { name := "beastsRun", fn := fun _ => fun
  | [d1, d2] => { results := [.lit (.bool false)], args := [d1, d2] }
  | _ => none }
def BeastsRunWrongFalsely : Prop := beastsRunRow.holds Tryd.pinned (OpenSpec.ofChange beastsRunWrong)

/-- 'almadrabalaw06.BeastsAfter': WHATEVER THE INPUT: true; the input reads as it did. -/
def beastsAfterSpec : ChangeSpec := { name := "beastsAfter", fn := fun _ => fun
  | [d1, d2] => { results := [.lit (.bool true)], args := [d1, d2] }
  | _ => none }
def beastsAfterRow : OpenClaim := { program := "ytogiidkofddhaaadoor", sum := "878073d3d3b3eca3d7be9047e6590e90691d0f177b1b4e5b791ef03871b36db5", func := "almadraba/almadrabalaw06.BeastsAfter", spec := "beastsAfter", unfollowed := true, recurses := true, named := ["almadraba/beasts.far"], apart := false, laid := [("almadraba/beasts.far", laid_almadraba_beasts_far)] }
def BeastsAfterSaid : Prop := beastsAfterRow.holds Tryd.pinned (OpenSpec.ofChange beastsAfterSpec)

/-- ITS FALSE NEIGHBOUR: 'it returns false'. Refute it at one input. -/
def beastsAfterWrong : ChangeSpec := { name := "beastsAfter", fn := fun _ => fun
  | [d1, d2] => { results := [.lit (.bool false)], args := [d1, d2] }
  | _ => none }
def BeastsAfterWrongFalsely : Prop := beastsAfterRow.holds Tryd.pinned (OpenSpec.ofChange beastsAfterWrong)

/- THE SECOND FORM. 'bulk': how many values and letters a reading holds, each counted each time it is reached (what is shared counts as often as it is met; a slice's spare places count too). A statement '..UptoSaid' is the law's where the arguments, and the package variables that the reading takes, are together of bulk at most 1048576: NARROWER than '..Said'. Prove '..Said' where nothing that the law and all that it calls make is longer than what came in: it says more and counts as full. Else prove '..UptoSaid'. A law counts once. -/
mutual
def uptoBulk {H : Type} : DataW H → Nat
  | .lit (.string bytes) => bytes.length + 1
  | .lit _ => 1
  | .nil => 1
  | .ptr d => uptoBulk d + 1
  | .slice elems spare => uptoBulkAll elems + uptoBulkAll spare + 1
  | .agg parts => uptoBulkAll parts + 1
  | .iface _ d => uptoBulk d + 1
  | .map entries => uptoBulkEntries entries + 1
  | .held _ => 1
def uptoBulkAll {H : Type} : List (DataW H) → Nat
  | [] => 0
  | d :: r => uptoBulk d + uptoBulkAll r
def uptoBulkEntries {H : Type} : List (Lit × DataW H) → Nat
  | [] => 0
  | x :: r => uptoBulkEntry x + uptoBulkEntries r
def uptoBulkEntry {H : Type} : Lit × DataW H → Nat
  | (.string bytes, d) => bytes.length + uptoBulk d + 1
  | (_, d) => uptoBulk d + 1
 end
def uptoSmall : (H : Type) → List (DataW H) → Bool := fun _ ds => decide (uptoBulkAll ds ≤ 1048576)
def OpenSpec.upto (s : _root_.Go.ChangeSpec) : _root_.Go.OpenSpec := { _root_.Go.OpenSpec.ofChange s with cond := some uptoSmall }

/-- 'almadrabalaw06.BeastsPath', WHERE WHAT IT READS IS OF BULK AT MOST 1048576: true; the input reads as it did. -/
def beastsPathUptoRow : OpenClaim := { program := "ytogiidkofddhaaadoor", sum := "878073d3d3b3eca3d7be9047e6590e90691d0f177b1b4e5b791ef03871b36db5", func := "almadraba/almadrabalaw06.BeastsPath", spec := "beastsPath", unfollowed := true, recurses := true, named := ["almadraba/beasts.far"], apart := false, laid := [("almadraba/beasts.far", laid_almadraba_beasts_far)], narrowed := true }
def BeastsPathUptoSaid : Prop := beastsPathUptoRow.holds Tryd.pinned (OpenSpec.upto beastsPathSpec)

/-- 'almadrabalaw06.BeastsBack', WHERE WHAT IT READS IS OF BULK AT MOST 1048576: true; the input reads as it did. -/
def beastsBackUptoRow : OpenClaim := { program := "ytogiidkofddhaaadoor", sum := "878073d3d3b3eca3d7be9047e6590e90691d0f177b1b4e5b791ef03871b36db5", func := "almadraba/almadrabalaw06.BeastsBack", spec := "beastsBack", unfollowed := true, recurses := true, named := ["almadraba/beasts.far"], apart := false, laid := [("almadraba/beasts.far", laid_almadraba_beasts_far)], narrowed := true }
def BeastsBackUptoSaid : Prop := beastsBackUptoRow.holds Tryd.pinned (OpenSpec.upto beastsBackSpec)

/-- 'almadrabalaw06.BeastsEach', WHERE WHAT IT READS IS OF BULK AT MOST 1048576: true; the input reads as it did. -/
def beastsEachUptoRow : OpenClaim := { program := "ytogiidkofddhaaadoor", sum := "878073d3d3b3eca3d7be9047e6590e90691d0f177b1b4e5b791ef03871b36db5", func := "almadraba/almadrabalaw06.BeastsEach", spec := "beastsEach", unfollowed := true, recurses := true, named := ["almadraba/beasts.far"], apart := false, laid := [("almadraba/beasts.far", laid_almadraba_beasts_far)], narrowed := true }
def BeastsEachUptoSaid : Prop := beastsEachUptoRow.holds Tryd.pinned (OpenSpec.upto beastsEachSpec)

/-- 'almadrabalaw06.BeastsKnown', WHERE WHAT IT READS IS OF BULK AT MOST 1048576: true; the input reads as it did. -/
def beastsKnownUptoRow : OpenClaim := { program := "ytogiidkofddhaaadoor", sum := "878073d3d3b3eca3d7be9047e6590e90691d0f177b1b4e5b791ef03871b36db5", func := "almadraba/almadrabalaw06.BeastsKnown", spec := "beastsKnown", unfollowed := true, recurses := true, named := ["almadraba/beasts.far"], apart := false, laid := [("almadraba/beasts.far", laid_almadraba_beasts_far)], narrowed := true }
def BeastsKnownUptoSaid : Prop := beastsKnownUptoRow.holds Tryd.pinned (OpenSpec.upto beastsKnownSpec)

/-- 'almadrabalaw06.BeastsScript', WHERE WHAT IT READS IS OF BULK AT MOST 1048576: true; the input reads as it did. -/
def beastsScriptUptoRow : OpenClaim := { program := "ytogiidkofddhaaadoor", sum := "878073d3d3b3eca3d7be9047e6590e90691d0f177b1b4e5b791ef03871b36db5", func := "almadraba/almadrabalaw06.BeastsScript", spec := "beastsScript", unfollowed := true, recurses := true, named := ["almadraba/beasts.far"], apart := false, laid := [("almadraba/beasts.far", laid_almadraba_beasts_far)], narrowed := true }
def BeastsScriptUptoSaid : Prop := beastsScriptUptoRow.holds Tryd.pinned (OpenSpec.upto beastsScriptSpec)

/-- 'almadrabalaw06.BeastsLeast', WHERE WHAT IT READS IS OF BULK AT MOST 1048576: true; the input reads as it did. -/
def beastsLeastUptoRow : OpenClaim := { program := "ytogiidkofddhaaadoor", sum := "878073d3d3b3eca3d7be9047e6590e90691d0f177b1b4e5b791ef03871b36db5", func := "almadraba/almadrabalaw06.BeastsLeast", spec := "beastsLeast", unfollowed := true, recurses := true, named := ["almadraba/beasts.far"], apart := false, laid := [("almadraba/beasts.far", laid_almadraba_beasts_far)], narrowed := true }
def BeastsLeastUptoSaid : Prop := beastsLeastUptoRow.holds Tryd.pinned (OpenSpec.upto beastsLeastSpec)

/-- 'almadrabalaw06.BeastsTrapped', WHERE WHAT IT READS IS OF BULK AT MOST 1048576: true; the input reads as it did. -/
def beastsTrappedUptoRow : OpenClaim := { program := "ytogiidkofddhaaadoor", sum := "878073d3d3b3eca3d7be9047e6590e90691d0f177b1b4e5b791ef03871b36db5", func := "almadraba/almadrabalaw06.BeastsTrapped", spec := "beastsTrapped", unfollowed := true, recurses := true, named := ["almadraba/beasts.far"], apart := false, laid := [("almadraba/beasts.far", laid_almadraba_beasts_far)], narrowed := true }
def BeastsTrappedUptoSaid : Prop := beastsTrappedUptoRow.holds Tryd.pinned (OpenSpec.upto beastsTrappedSpec)

/-- 'almadrabalaw06.BeastsBlind', WHERE WHAT IT READS IS OF BULK AT MOST 1048576: true; the input reads as it did. -/
def beastsBlindUptoRow : OpenClaim := { program := "ytogiidkofddhaaadoor", sum := "878073d3d3b3eca3d7be9047e6590e90691d0f177b1b4e5b791ef03871b36db5", func := "almadraba/almadrabalaw06.BeastsBlind", spec := "beastsBlind", unfollowed := true, recurses := true, named := ["almadraba/beasts.far"], apart := false, laid := [("almadraba/beasts.far", laid_almadraba_beasts_far)], narrowed := true }
def BeastsBlindUptoSaid : Prop := beastsBlindUptoRow.holds Tryd.pinned (OpenSpec.upto beastsBlindSpec)

/-- 'almadrabalaw06.BeastsCosts', WHERE WHAT IT READS IS OF BULK AT MOST 1048576: true; the input reads as it did. -/
def beastsCostsUptoRow : OpenClaim := { program := "ytogiidkofddhaaadoor", sum := "878073d3d3b3eca3d7be9047e6590e90691d0f177b1b4e5b791ef03871b36db5", func := "almadraba/almadrabalaw06.BeastsCosts", spec := "beastsCosts", unfollowed := true, recurses := true, named := ["almadraba/beasts.far"], apart := false, laid := [("almadraba/beasts.far", laid_almadraba_beasts_far)], narrowed := true }
def BeastsCostsUptoSaid : Prop := beastsCostsUptoRow.holds Tryd.pinned (OpenSpec.upto beastsCostsSpec)

/-- 'almadrabalaw06.BeastsTimes', WHERE WHAT IT READS IS OF BULK AT MOST 1048576: true; the input reads as it did. -/
def beastsTimesUptoRow : OpenClaim := { program := "ytogiidkofddhaaadoor", sum := "878073d3d3b3eca3d7be9047e6590e90691d0f177b1b4e5b791ef03871b36db5", func := "almadraba/almadrabalaw06.BeastsTimes", spec := "beastsTimes", unfollowed := true, recurses := true, named := ["almadraba/beasts.far"], apart := false, laid := [("almadraba/beasts.far", laid_almadraba_beasts_far)], narrowed := true }
def BeastsTimesUptoSaid : Prop := beastsTimesUptoRow.holds Tryd.pinned (OpenSpec.upto beastsTimesSpec)

/-- 'almadrabalaw06.BeastsRun', WHERE WHAT IT READS IS OF BULK AT MOST 1048576: true; the input reads as it did. -/
def beastsRunUptoRow : OpenClaim := { program := "ytogiidkofddhaaadoor", sum := "878073d3d3b3eca3d7be9047e6590e90691d0f177b1b4e5b791ef03871b36db5", func := "almadraba/almadrabalaw06.BeastsRun", spec := "beastsRun", unfollowed := true, recurses := true, named := ["almadraba/beasts.far"], apart := false, laid := [("almadraba/beasts.far", laid_almadraba_beasts_far)], narrowed := true }
def BeastsRunUptoSaid : Prop := beastsRunUptoRow.holds Tryd.pinned (OpenSpec.upto beastsRunSpec)

/-- 'almadrabalaw06.BeastsAfter', WHERE WHAT IT READS IS OF BULK AT MOST 1048576: true; the input reads as it did. -/
def beastsAfterUptoRow : OpenClaim := { program := "ytogiidkofddhaaadoor", sum := "878073d3d3b3eca3d7be9047e6590e90691d0f177b1b4e5b791ef03871b36db5", func := "almadraba/almadrabalaw06.BeastsAfter", spec := "beastsAfter", unfollowed := true, recurses := true, named := ["almadraba/beasts.far"], apart := false, laid := [("almadraba/beasts.far", laid_almadraba_beasts_far)], narrowed := true }
def BeastsAfterUptoSaid : Prop := beastsAfterUptoRow.holds Tryd.pinned (OpenSpec.upto beastsAfterSpec)

end Rows
end Go.Proofs.YtogiidkofddhaaaDoor

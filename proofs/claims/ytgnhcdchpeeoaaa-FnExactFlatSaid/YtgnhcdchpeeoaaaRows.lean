/-
  No cell of these rows narrows 'for every input' (looked for: loops, veiled, ifaces, maps, wideKeys, modest, calm, conditions, laid).
  DERIVED. THE GIVEN ROWS OF THIS SEAT. 11 by the template 'for every input the law returns true; each argument reads behind the call as it read before'; 0 by the template 'total and deterministic' (their statements: YtgnhcdchpeeoaaaTotals.lean).
  GIVEN WITH THE SEED: the statements are not yours to turn. If you find one false, say at which input.
  Laid BY PROGRAM, IN A SANDBOX (cutbox-rows.mjs): the forced cells as the released guide's own fill.sh prints them over the translation be858308e41231da… (all of the seat's roots in one cut). By AI agents, Wed Nov 11 2026. No macro, syntax, notation, axiom, sorry.
-/
import Derived.Test.YtgnhcdchpeeoaaaChecked
import GoSem.Claim
import GoSem.ClaimJoined
import GoSem.ClaimMapViews
import Derived.JoinedTies
import Derived.KernelRfl
namespace Go.Proofs.Ytgnhcdchpeeoaaa
/- THE CELL 'sum', in the pinned program and in every row, IS THE sha256 OF THE DUMP (.gsa) THAT YtgnhcdchpeeoaaaProg.lean LOADS. Nothing in Lean hashes anything: it is a label: what it is worth is what the hold of that sum in a sandbox is worth. -/
noncomputable def Try.pinned : Pinned := { name := "ytgnhcdchpeeoaaa", sum := "be858308e41231da4cba96d17222b7102006ea4ef4641868c6c86e81f5b04089", checked := Try.checked }
namespace Rows
def none {H : Type} : Left H := { results := [], args := [] }

/-- 'laws.FnExactHull': WHATEVER THE INPUT: true; the input reads as it did. -/
def fnExactHullSpec : ChangeSpec := { name := "fnExactHull", fn := fun _ => fun
  | [d] => { results := [.lit (.bool true)], args := [d] }
  | _ => none }
def fnExactHullRow : OpenClaim := { program := "ytgnhcdchpeeoaaa", sum := "be858308e41231da4cba96d17222b7102006ea4ef4641868c6c86e81f5b04089", func := "loop.example/g00056/laws.FnExactHull", spec := "fnExactHull", inPlace := ["internal/reflectlite.ValueOf", "internal/reflectlite.Swapper", "(internal/reflectlite.Value).Len"], unfollowed := true, recurses := true, plainKeys := false, apart := false }
def FnExactHullSaid : Prop := fnExactHullRow.holds Try.pinned (OpenSpec.ofChange fnExactHullSpec)

/-- ITS FALSE NEIGHBOUR: 'it returns false'. Refute it at one input. -/
def fnExactHullWrong : ChangeSpec := { name := "fnExactHull", fn := fun _ => fun
  | [d] => { results := [.lit (.bool false)], args := [d] }
  | _ => none }
def FnExactHullWrongFalsely : Prop := fnExactHullRow.holds Try.pinned (OpenSpec.ofChange fnExactHullWrong)

/-- 'laws.FnCross': WHATEVER THE INPUT: true; the input reads as it did. -/
def fnCrossSpec : ChangeSpec := { name := "fnCross", fn := fun _ => fun
  | [d] => { results := [.lit (.bool true)], args := [d] }
  | _ => none }
def fnCrossRow : OpenClaim := { program := "ytgnhcdchpeeoaaa", sum := "be858308e41231da4cba96d17222b7102006ea4ef4641868c6c86e81f5b04089", func := "loop.example/g00056/laws.FnCross", spec := "fnCross", inPlace := ["internal/reflectlite.ValueOf", "internal/reflectlite.Swapper", "(internal/reflectlite.Value).Len"], unfollowed := true, recurses := true, plainKeys := false, apart := false }
def FnCrossSaid : Prop := fnCrossRow.holds Try.pinned (OpenSpec.ofChange fnCrossSpec)

/-- ITS FALSE NEIGHBOUR: 'it returns false'. Refute it at one input. -/
def fnCrossWrong : ChangeSpec := { name := "fnCross", fn := fun _ => fun
  | [d] => { results := [.lit (.bool false)], args := [d] }
  | _ => none }
def FnCrossWrongFalsely : Prop := fnCrossRow.holds Try.pinned (OpenSpec.ofChange fnCrossWrong)

/-- 'laws.FnExactZoneOf': WHATEVER THE INPUT: true; the input reads as it did. -/
def fnExactZoneOfSpec : ChangeSpec := { name := "fnExactZoneOf", fn := fun _ => fun
  | [d] => { results := [.lit (.bool true)], args := [d] }
  | _ => none }
def fnExactZoneOfRow : OpenClaim := { program := "ytgnhcdchpeeoaaa", sum := "be858308e41231da4cba96d17222b7102006ea4ef4641868c6c86e81f5b04089", func := "loop.example/g00056/laws.FnExactZoneOf", spec := "fnExactZoneOf", inPlace := ["internal/reflectlite.ValueOf", "internal/reflectlite.Swapper", "(internal/reflectlite.Value).Len"], unfollowed := true, recurses := true, plainKeys := false, apart := false }
def FnExactZoneOfSaid : Prop := fnExactZoneOfRow.holds Try.pinned (OpenSpec.ofChange fnExactZoneOfSpec)

/-- ITS FALSE NEIGHBOUR: 'it returns false'. Refute it at one input. -/
def fnExactZoneOfWrong : ChangeSpec := { name := "fnExactZoneOf", fn := fun _ => fun
  | [d] => { results := [.lit (.bool false)], args := [d] }
  | _ => none }
def FnExactZoneOfWrongFalsely : Prop := fnExactZoneOfRow.holds Try.pinned (OpenSpec.ofChange fnExactZoneOfWrong)

/-- 'laws.FnExactCross': WHATEVER THE INPUT: true; the input reads as it did. -/
def fnExactCrossSpec : ChangeSpec := { name := "fnExactCross", fn := fun _ => fun
  | [d1, d2, d3, d4] => { results := [.lit (.bool true)], args := [d1, d2, d3, d4] }
  | _ => none }
def fnExactCrossRow : OpenClaim := { program := "ytgnhcdchpeeoaaa", sum := "be858308e41231da4cba96d17222b7102006ea4ef4641868c6c86e81f5b04089", func := "loop.example/g00056/laws.FnExactCross", spec := "fnExactCross", inPlace := ["internal/reflectlite.ValueOf", "internal/reflectlite.Swapper", "(internal/reflectlite.Value).Len"], unfollowed := true, recurses := true, plainKeys := false, apart := false }
def FnExactCrossSaid : Prop := fnExactCrossRow.holds Try.pinned (OpenSpec.ofChange fnExactCrossSpec)

/-- ITS FALSE NEIGHBOUR: 'it returns false'. Refute it at one input. -/
def fnExactCrossWrong : ChangeSpec := { name := "fnExactCross", fn := fun _ => fun
  | [d1, d2, d3, d4] => { results := [.lit (.bool false)], args := [d1, d2, d3, d4] }
  | _ => none }
def FnExactCrossWrongFalsely : Prop := fnExactCrossRow.holds Try.pinned (OpenSpec.ofChange fnExactCrossWrong)

/-- 'laws.FnExactPolygonCode': WHATEVER THE INPUT: true; the input reads as it did. -/
def fnExactPolygonCodeSpec : ChangeSpec := { name := "fnExactPolygonCode", fn := fun _ => fun
  | [d] => { results := [.lit (.bool true)], args := [d] }
  | _ => none }
def fnExactPolygonCodeRow : OpenClaim := { program := "ytgnhcdchpeeoaaa", sum := "be858308e41231da4cba96d17222b7102006ea4ef4641868c6c86e81f5b04089", func := "loop.example/g00056/laws.FnExactPolygonCode", spec := "fnExactPolygonCode", inPlace := ["internal/reflectlite.ValueOf", "internal/reflectlite.Swapper", "(internal/reflectlite.Value).Len"], unfollowed := true, recurses := true, plainKeys := false, apart := false }
def FnExactPolygonCodeSaid : Prop := fnExactPolygonCodeRow.holds Try.pinned (OpenSpec.ofChange fnExactPolygonCodeSpec)

/-- ITS FALSE NEIGHBOUR: 'it returns false'. Refute it at one input. -/
def fnExactPolygonCodeWrong : ChangeSpec := { name := "fnExactPolygonCode", fn := fun _ => fun
  | [d] => { results := [.lit (.bool false)], args := [d] }
  | _ => none }
def FnExactPolygonCodeWrongFalsely : Prop := fnExactPolygonCodeRow.holds Try.pinned (OpenSpec.ofChange fnExactPolygonCodeWrong)

/-- 'laws.FnExactArea2': WHATEVER THE INPUT: true; the input reads as it did. -/
def fnExactArea2Spec : ChangeSpec := { name := "fnExactArea2", fn := fun _ => fun
  | [d] => { results := [.lit (.bool true)], args := [d] }
  | _ => none }
def fnExactArea2Row : OpenClaim := { program := "ytgnhcdchpeeoaaa", sum := "be858308e41231da4cba96d17222b7102006ea4ef4641868c6c86e81f5b04089", func := "loop.example/g00056/laws.FnExactArea2", spec := "fnExactArea2", inPlace := ["internal/reflectlite.ValueOf", "internal/reflectlite.Swapper", "(internal/reflectlite.Value).Len"], unfollowed := true, recurses := true, plainKeys := false, apart := false }
def FnExactArea2Said : Prop := fnExactArea2Row.holds Try.pinned (OpenSpec.ofChange fnExactArea2Spec)

/-- ITS FALSE NEIGHBOUR: 'it returns false'. Refute it at one input. -/
def fnExactArea2Wrong : ChangeSpec := { name := "fnExactArea2", fn := fun _ => fun
  | [d] => { results := [.lit (.bool false)], args := [d] }
  | _ => none }
def FnExactArea2WrongFalsely : Prop := fnExactArea2Row.holds Try.pinned (OpenSpec.ofChange fnExactArea2Wrong)

/-- 'laws.FnExactBent': WHATEVER THE INPUT: true; the input reads as it did. -/
def fnExactBentSpec : ChangeSpec := { name := "fnExactBent", fn := fun _ => fun
  | [d1, d2] => { results := [.lit (.bool true)], args := [d1, d2] }
  | _ => none }
def fnExactBentRow : OpenClaim := { program := "ytgnhcdchpeeoaaa", sum := "be858308e41231da4cba96d17222b7102006ea4ef4641868c6c86e81f5b04089", func := "loop.example/g00056/laws.FnExactBent", spec := "fnExactBent", inPlace := ["internal/reflectlite.ValueOf", "internal/reflectlite.Swapper", "(internal/reflectlite.Value).Len"], unfollowed := true, recurses := true, plainKeys := false, apart := false }
def FnExactBentSaid : Prop := fnExactBentRow.holds Try.pinned (OpenSpec.ofChange fnExactBentSpec)

/-- ITS FALSE NEIGHBOUR: 'it returns false'. Refute it at one input. -/
def fnExactBentWrong : ChangeSpec := { name := "fnExactBent", fn := fun _ => fun
  | [d1, d2] => { results := [.lit (.bool false)], args := [d1, d2] }
  | _ => none }
def FnExactBentWrongFalsely : Prop := fnExactBentRow.holds Try.pinned (OpenSpec.ofChange fnExactBentWrong)

/-- 'laws.FnExactWithin': WHATEVER THE INPUT: true; the input reads as it did. -/
def fnExactWithinSpec : ChangeSpec := { name := "fnExactWithin", fn := fun _ => fun
  | [d1, d2] => { results := [.lit (.bool true)], args := [d1, d2] }
  | _ => none }
def fnExactWithinRow : OpenClaim := { program := "ytgnhcdchpeeoaaa", sum := "be858308e41231da4cba96d17222b7102006ea4ef4641868c6c86e81f5b04089", func := "loop.example/g00056/laws.FnExactWithin", spec := "fnExactWithin", inPlace := ["internal/reflectlite.ValueOf", "internal/reflectlite.Swapper", "(internal/reflectlite.Value).Len"], unfollowed := true, recurses := true, plainKeys := false, apart := false }
def FnExactWithinSaid : Prop := fnExactWithinRow.holds Try.pinned (OpenSpec.ofChange fnExactWithinSpec)

/-- ITS FALSE NEIGHBOUR: 'it returns false'. Refute it at one input. -/
def fnExactWithinWrong : ChangeSpec := { name := "fnExactWithin", fn := fun _ => fun
  | [d1, d2] => { results := [.lit (.bool false)], args := [d1, d2] }
  | _ => none }
def FnExactWithinWrongFalsely : Prop := fnExactWithinRow.holds Try.pinned (OpenSpec.ofChange fnExactWithinWrong)

/-- 'laws.FnExactFlat': WHATEVER THE INPUT: true; the input reads as it did. -/
def fnExactFlatSpec : ChangeSpec := { name := "fnExactFlat", fn := fun _ => fun
  | [d] => { results := [.lit (.bool true)], args := [d] }
  | _ => none }
def fnExactFlatRow : OpenClaim := { program := "ytgnhcdchpeeoaaa", sum := "be858308e41231da4cba96d17222b7102006ea4ef4641868c6c86e81f5b04089", func := "loop.example/g00056/laws.FnExactFlat", spec := "fnExactFlat", inPlace := ["internal/reflectlite.ValueOf", "internal/reflectlite.Swapper", "(internal/reflectlite.Value).Len"], unfollowed := true, recurses := true, plainKeys := false, apart := false }
def FnExactFlatSaid : Prop := fnExactFlatRow.holds Try.pinned (OpenSpec.ofChange fnExactFlatSpec)

/-- ITS FALSE NEIGHBOUR: 'it returns false'. Refute it at one input. -/
def fnExactFlatWrong : ChangeSpec := { name := "fnExactFlat", fn := fun _ => fun
  | [d] => { results := [.lit (.bool false)], args := [d] }
  | _ => none }
def FnExactFlatWrongFalsely : Prop := fnExactFlatRow.holds Try.pinned (OpenSpec.ofChange fnExactFlatWrong)

/-- 'laws.FnZone': WHATEVER THE INPUT: true; the input reads as it did. -/
def fnZoneSpec : ChangeSpec := { name := "fnZone", fn := fun _ => fun
  | [d1, d2] => { results := [.lit (.bool true)], args := [d1, d2] }
  | _ => none }
def fnZoneRow : OpenClaim := { program := "ytgnhcdchpeeoaaa", sum := "be858308e41231da4cba96d17222b7102006ea4ef4641868c6c86e81f5b04089", func := "loop.example/g00056/laws.FnZone", spec := "fnZone", inPlace := ["internal/reflectlite.ValueOf", "internal/reflectlite.Swapper", "(internal/reflectlite.Value).Len"], unfollowed := true, recurses := true, plainKeys := false, apart := false }
def FnZoneSaid : Prop := fnZoneRow.holds Try.pinned (OpenSpec.ofChange fnZoneSpec)

/-- ITS FALSE NEIGHBOUR: 'it returns false'. Refute it at one input. -/
def fnZoneWrong : ChangeSpec := { name := "fnZone", fn := fun _ => fun
  | [d1, d2] => { results := [.lit (.bool false)], args := [d1, d2] }
  | _ => none }
def FnZoneWrongFalsely : Prop := fnZoneRow.holds Try.pinned (OpenSpec.ofChange fnZoneWrong)

/-- 'laws.FnPolygon': WHATEVER THE INPUT: true; the input reads as it did. -/
def fnPolygonSpec : ChangeSpec := { name := "fnPolygon", fn := fun _ => fun
  | [d1, d2] => { results := [.lit (.bool true)], args := [d1, d2] }
  | _ => none }
def fnPolygonRow : OpenClaim := { program := "ytgnhcdchpeeoaaa", sum := "be858308e41231da4cba96d17222b7102006ea4ef4641868c6c86e81f5b04089", func := "loop.example/g00056/laws.FnPolygon", spec := "fnPolygon", inPlace := ["internal/reflectlite.ValueOf", "internal/reflectlite.Swapper", "(internal/reflectlite.Value).Len"], unfollowed := true, recurses := true, plainKeys := false, apart := false }
def FnPolygonSaid : Prop := fnPolygonRow.holds Try.pinned (OpenSpec.ofChange fnPolygonSpec)

/-- ITS FALSE NEIGHBOUR: 'it returns false'. Refute it at one input. -/
def fnPolygonWrong : ChangeSpec := { name := "fnPolygon", fn := fun _ => fun
  | [d1, d2] => { results := [.lit (.bool false)], args := [d1, d2] }
  | _ => none }
def FnPolygonWrongFalsely : Prop := fnPolygonRow.holds Try.pinned (OpenSpec.ofChange fnPolygonWrong)

/- THE SECOND FORM. 'bulk': how many values and letters a reading holds, each counted each time it is reached (what is shared counts as often as it is met; a slice's spare places count too). A statement '..UptoSaid' is the law's where the arguments, and the package variables that the reading takes, are together of bulk at most 1048576: NARROWER than '..Said'. Prove '..Said' where nothing that the law and all that it calls make is longer than what came in: it says more and counts as full. Else prove '..UptoSaid'. A law counts once. -/
mutual
def uptoBulk {H : Type} : DataW H → Nat
  | .lit (.string bytes) => bytes.length + 1
  | .lit _ => 1
  | .nil => 1
  | .ptr d => uptoBulk d + 1
  | .slice elems spare => uptoBulkAll elems + uptoBulkAll spare + 1
  | .agg parts => uptoBulkAll parts + 1
  | .iface _ d => uptoBulk d + 1
  | .map entries => uptoBulkEntries entries + 1
  | .held _ => 1
def uptoBulkAll {H : Type} : List (DataW H) → Nat
  | [] => 0
  | d :: r => uptoBulk d + uptoBulkAll r
def uptoBulkEntries {H : Type} : List (Lit × DataW H) → Nat
  | [] => 0
  | x :: r => uptoBulkEntry x + uptoBulkEntries r
def uptoBulkEntry {H : Type} : Lit × DataW H → Nat
  | (.string bytes, d) => bytes.length + uptoBulk d + 1
  | (_, d) => uptoBulk d + 1
 end
def uptoSmall : (H : Type) → List (DataW H) → Bool := fun _ ds => decide (uptoBulkAll ds ≤ 1048576)
def OpenSpec.upto (s : _root_.Go.ChangeSpec) : _root_.Go.OpenSpec := { _root_.Go.OpenSpec.ofChange s with cond := some uptoSmall }

/-- 'laws.FnExactHull', WHERE WHAT IT READS IS OF BULK AT MOST 1048576: true; the input reads as it did. -/
def fnExactHullUptoRow : OpenClaim := { program := "ytgnhcdchpeeoaaa", sum := "be858308e41231da4cba96d17222b7102006ea4ef4641868c6c86e81f5b04089", func := "loop.example/g00056/laws.FnExactHull", spec := "fnExactHull", inPlace := ["internal/reflectlite.ValueOf", "internal/reflectlite.Swapper", "(internal/reflectlite.Value).Len"], unfollowed := true, recurses := true, plainKeys := false, apart := false, narrowed := true }
def FnExactHullUptoSaid : Prop := fnExactHullUptoRow.holds Try.pinned (OpenSpec.upto fnExactHullSpec)

/-- 'laws.FnCross', WHERE WHAT IT READS IS OF BULK AT MOST 1048576: true; the input reads as it did. -/
def fnCrossUptoRow : OpenClaim := { program := "ytgnhcdchpeeoaaa", sum := "be858308e41231da4cba96d17222b7102006ea4ef4641868c6c86e81f5b04089", func := "loop.example/g00056/laws.FnCross", spec := "fnCross", inPlace := ["internal/reflectlite.ValueOf", "internal/reflectlite.Swapper", "(internal/reflectlite.Value).Len"], unfollowed := true, recurses := true, plainKeys := false, apart := false, narrowed := true }
def FnCrossUptoSaid : Prop := fnCrossUptoRow.holds Try.pinned (OpenSpec.upto fnCrossSpec)

/-- 'laws.FnExactZoneOf', WHERE WHAT IT READS IS OF BULK AT MOST 1048576: true; the input reads as it did. -/
def fnExactZoneOfUptoRow : OpenClaim := { program := "ytgnhcdchpeeoaaa", sum := "be858308e41231da4cba96d17222b7102006ea4ef4641868c6c86e81f5b04089", func := "loop.example/g00056/laws.FnExactZoneOf", spec := "fnExactZoneOf", inPlace := ["internal/reflectlite.ValueOf", "internal/reflectlite.Swapper", "(internal/reflectlite.Value).Len"], unfollowed := true, recurses := true, plainKeys := false, apart := false, narrowed := true }
def FnExactZoneOfUptoSaid : Prop := fnExactZoneOfUptoRow.holds Try.pinned (OpenSpec.upto fnExactZoneOfSpec)

/-- 'laws.FnExactCross', WHERE WHAT IT READS IS OF BULK AT MOST 1048576: true; the input reads as it did. -/
def fnExactCrossUptoRow : OpenClaim := { program := "ytgnhcdchpeeoaaa", sum := "be858308e41231da4cba96d17222b7102006ea4ef4641868c6c86e81f5b04089", func := "loop.example/g00056/laws.FnExactCross", spec := "fnExactCross", inPlace := ["internal/reflectlite.ValueOf", "internal/reflectlite.Swapper", "(internal/reflectlite.Value).Len"], unfollowed := true, recurses := true, plainKeys := false, apart := false, narrowed := true }
def FnExactCrossUptoSaid : Prop := fnExactCrossUptoRow.holds Try.pinned (OpenSpec.upto fnExactCrossSpec)

/-- 'laws.FnExactPolygonCode', WHERE WHAT IT READS IS OF BULK AT MOST 1048576: true; the input reads as it did. -/
def fnExactPolygonCodeUptoRow : OpenClaim := { program := "ytgnhcdchpeeoaaa", sum := "be858308e41231da4cba96d17222b7102006ea4ef4641868c6c86e81f5b04089", func := "loop.example/g00056/laws.FnExactPolygonCode", spec := "fnExactPolygonCode", inPlace := ["internal/reflectlite.ValueOf", "internal/reflectlite.Swapper", "(internal/reflectlite.Value).Len"], unfollowed := true, recurses := true, plainKeys := false, apart := false, narrowed := true }
def FnExactPolygonCodeUptoSaid : Prop := fnExactPolygonCodeUptoRow.holds Try.pinned (OpenSpec.upto fnExactPolygonCodeSpec)

/-- 'laws.FnExactArea2', WHERE WHAT IT READS IS OF BULK AT MOST 1048576: true; the input reads as it did. -/
def fnExactArea2UptoRow : OpenClaim := { program := "ytgnhcdchpeeoaaa", sum := "be858308e41231da4cba96d17222b7102006ea4ef4641868c6c86e81f5b04089", func := "loop.example/g00056/laws.FnExactArea2", spec := "fnExactArea2", inPlace := ["internal/reflectlite.ValueOf", "internal/reflectlite.Swapper", "(internal/reflectlite.Value).Len"], unfollowed := true, recurses := true, plainKeys := false, apart := false, narrowed := true }
def FnExactArea2UptoSaid : Prop := fnExactArea2UptoRow.holds Try.pinned (OpenSpec.upto fnExactArea2Spec)

/-- 'laws.FnExactBent', WHERE WHAT IT READS IS OF BULK AT MOST 1048576: true; the input reads as it did. -/
def fnExactBentUptoRow : OpenClaim := { program := "ytgnhcdchpeeoaaa", sum := "be858308e41231da4cba96d17222b7102006ea4ef4641868c6c86e81f5b04089", func := "loop.example/g00056/laws.FnExactBent", spec := "fnExactBent", inPlace := ["internal/reflectlite.ValueOf", "internal/reflectlite.Swapper", "(internal/reflectlite.Value).Len"], unfollowed := true, recurses := true, plainKeys := false, apart := false, narrowed := true }
def FnExactBentUptoSaid : Prop := fnExactBentUptoRow.holds Try.pinned (OpenSpec.upto fnExactBentSpec)

/-- 'laws.FnExactWithin', WHERE WHAT IT READS IS OF BULK AT MOST 1048576: true; the input reads as it did. -/
def fnExactWithinUptoRow : OpenClaim := { program := "ytgnhcdchpeeoaaa", sum := "be858308e41231da4cba96d17222b7102006ea4ef4641868c6c86e81f5b04089", func := "loop.example/g00056/laws.FnExactWithin", spec := "fnExactWithin", inPlace := ["internal/reflectlite.ValueOf", "internal/reflectlite.Swapper", "(internal/reflectlite.Value).Len"], unfollowed := true, recurses := true, plainKeys := false, apart := false, narrowed := true }
def FnExactWithinUptoSaid : Prop := fnExactWithinUptoRow.holds Try.pinned (OpenSpec.upto fnExactWithinSpec)

/-- 'laws.FnExactFlat', WHERE WHAT IT READS IS OF BULK AT MOST 1048576: true; the input reads as it did. -/
def fnExactFlatUptoRow : OpenClaim := { program := "ytgnhcdchpeeoaaa", sum := "be858308e41231da4cba96d17222b7102006ea4ef4641868c6c86e81f5b04089", func := "loop.example/g00056/laws.FnExactFlat", spec := "fnExactFlat", inPlace := ["internal/reflectlite.ValueOf", "internal/reflectlite.Swapper", "(internal/reflectlite.Value).Len"], unfollowed := true, recurses := true, plainKeys := false, apart := false, narrowed := true }
def FnExactFlatUptoSaid : Prop := fnExactFlatUptoRow.holds Try.pinned (OpenSpec.upto fnExactFlatSpec)

/-- 'laws.FnZone', WHERE WHAT IT READS IS OF BULK AT MOST 1048576: true; the input reads as it did. -/
def fnZoneUptoRow : OpenClaim := { program := "ytgnhcdchpeeoaaa", sum := "be858308e41231da4cba96d17222b7102006ea4ef4641868c6c86e81f5b04089", func := "loop.example/g00056/laws.FnZone", spec := "fnZone", inPlace := ["internal/reflectlite.ValueOf", "internal/reflectlite.Swapper", "(internal/reflectlite.Value).Len"], unfollowed := true, recurses := true, plainKeys := false, apart := false, narrowed := true }
def FnZoneUptoSaid : Prop := fnZoneUptoRow.holds Try.pinned (OpenSpec.upto fnZoneSpec)

/-- 'laws.FnPolygon', WHERE WHAT IT READS IS OF BULK AT MOST 1048576: true; the input reads as it did. -/
def fnPolygonUptoRow : OpenClaim := { program := "ytgnhcdchpeeoaaa", sum := "be858308e41231da4cba96d17222b7102006ea4ef4641868c6c86e81f5b04089", func := "loop.example/g00056/laws.FnPolygon", spec := "fnPolygon", inPlace := ["internal/reflectlite.ValueOf", "internal/reflectlite.Swapper", "(internal/reflectlite.Value).Len"], unfollowed := true, recurses := true, plainKeys := false, apart := false, narrowed := true }
def FnPolygonUptoSaid : Prop := fnPolygonUptoRow.holds Try.pinned (OpenSpec.upto fnPolygonSpec)

end Rows
end Go.Proofs.Ytgnhcdchpeeoaaa

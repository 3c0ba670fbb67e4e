/- The plane in plain numbers: what two segments have in common, without memory. No conditions. -/
import Derived.RowKit
set_option linter.unusedVariables false
namespace Go.Proofs.Ytgnhcdchpeeoaaa.Plane
def InAt (x : Int) : Prop := -100000 ≤ x ∧ x ≤ 100000
instance (x : Int) : Decidable (InAt x) := by unfold InAt; infer_instance
def side (ax ay bx by' cx cy : Int) : Int := (bx - ax) * (cy - ay) - (by' - ay) * (cx - ax)
def onB (ax ay bx by' x y : Int) : Bool := decide (side ax ay bx by' x y = 0 ∧ min ax bx ≤ x ∧ x ≤ max ax bx ∧ min ay by' ≤ y ∧ y ≤ max ay by')
def spot3 (x y d : Int) : Int × Int × Int := (x.tdiv (Int.gcd (Int.gcd x y) d), y.tdiv (Int.gcd (Int.gcd x y) d), d.tdiv (Int.gcd (Int.gcd x y) d))
def crossN (ax ay dx dy num mum den : Int) : List (Int × Int × Int) := if num < 0 ∨ num > den ∨ mum < 0 ∨ mum > den then [] else [spot3 (ax * den + num * dx) (ay * den + num * dy) den]
def lessP (p q : Int × Int) : Bool := decide (p.1 < q.1 ∨ p.1 = q.1 ∧ p.2 < q.2)
def putP (l : List (Int × Int)) (p : Int × Int) : List (Int × Int) := if p ∈ l then l else l ++ [p]
def endsL (ax ay bx by' cx cy dx dy : Int) : List (Int × Int) :=
  let l1 := if onB cx cy dx dy ax ay then putP [] (ax, ay) else []
  let l2 := if onB cx cy dx dy bx by' then putP l1 (bx, by') else l1
  let l3 := if onB ax ay bx by' cx cy then putP l2 (cx, cy) else l2
  if onB ax ay bx by' dx dy then putP l3 (dx, dy) else l3
def loP (p : Int × Int) (l : List (Int × Int)) : Int × Int := l.foldl (fun m q => if lessP q m then q else m) p
def hiP (p : Int × Int) (l : List (Int × Int)) : Int × Int := l.foldl (fun m q => if lessP m q then q else m) p
def endsP : List (Int × Int) → List (Int × Int × Int)
  | [] => []
  | [p] => [(p.1, p.2, 1)]
  | p :: l => [((loP p l).1, (loP p l).2, 1), ((hiP p l).1, (hiP p l).2, 1)]
def crossP (ax ay bx by' cx cy dx dy : Int) : List (Int × Int × Int) :=
  let den := (bx - ax) * (dy - cy) - (by' - ay) * (dx - cx)
  let num := (cx - ax) * (dy - cy) - (cy - ay) * (dx - cx)
  let mum := (cx - ax) * (by' - ay) - (cy - ay) * (bx - ax)
  if den < 0 then crossN ax ay (bx - ax) (by' - ay) (-num) (-mum) (-den)
  else if 0 < den then crossN ax ay (bx - ax) (by' - ay) num mum den
  else endsP (endsL ax ay bx by' cx cy dx dy)
end Go.Proofs.Ytgnhcdchpeeoaaa.Plane

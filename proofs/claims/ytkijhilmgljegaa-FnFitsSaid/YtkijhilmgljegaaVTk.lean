/- What a world that only grew keeps: a block, a row, what lies below. No conditions. -/
import Derived.Test.YtkijhilmgljegaaVTa
namespace Go.Proofs.Ytkijhilmgljegaa.Kp
open Go.RowKit Go.Proofs.YtkijhilmgljegaaW.PrintWords Go.Proofs.YtkijhilmgljegaaW.PrintLast Go.Proofs.YtkijhilmgljegaaW.PrintMore
class Grows (w w' : World) : Prop where
  b : Below w.heap.size w w'
instance (w : World) : Grows w w := ⟨Below.refl _ _⟩
instance (w w' : World) (o : Obj) [h : Grows w w'] : Grows w (w'.alloc o) := ⟨below_alloc h.b o⟩
instance (w w' : World) (n : Nat) [h : Grows w w'] : Grows w (w'.drewN n) := ⟨pw_below_drewN h.b n⟩
instance (w w' : World) [h : Grows w w'] : Grows w w'.drew := ⟨below_drew1 h.b⟩
theorem kpB {w w' : World} [h : Grows w w'] {g : Nat} {o : Obj} (x : w.heap[g]? = some o) : w'.heap[g]? = some o := (h.b.block g (blk_lt x)).trans x
theorem kpR {w w' : World} [h : Grows w w'] {α : Type} {d : Kd α} {e base : Nat} {ok : Nat → Prop} {v : Value} {xs : List α} (x : Kd.R d e w base ok v xs) : Kd.R d e w' base ok v xs := Kd.R_below x h.b
theorem a {p : Prop} (h : p) : Aside0 p := ⟨h⟩
theorem d {p : Prop} [Decidable p] (h : decide p = true := by first | (with_reducible assumption) | assumption) : p := of_decide_eq_true h
theorem s0 {α : Type} {xs : List α} {i : Nat} {a : α} : xs.toArray.setIfInBounds i a = (xs.set i a).toArray := by simp
theorem s1 {α : Type} {x : α} {xs : List α} {a : α} : (x :: xs).set 0 a = a :: xs := rfl
theorem s2 {α : Type} {x : α} {xs : List α} {n : Nat} {a : α} : (x :: xs).set (n + 1) a = x :: xs.set n a := rfl
theorem kpL {u w w' : World} [h : Grows w w'] (x : Below u.heap.size u w) : Below u.heap.size u w' := below_step x h.b
end Go.Proofs.Ytkijhilmgljegaa.Kp

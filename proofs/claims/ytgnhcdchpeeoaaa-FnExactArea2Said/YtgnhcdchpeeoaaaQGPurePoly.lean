/- A polygon's code in plain numbers, without memory. No conditions. -/
import Derived.Test.YtgnhcdchpeeoaaaQGPurePlane
set_option linter.unusedVariables false
namespace Go.Proofs.Ytgnhcdchpeeoaaa.Plane
def okP (p : Int × Int) : Bool := decide (InAt p.1 ∧ InAt p.2)
def first (n : Nat) (f : Nat → Bool) : Option Nat := (List.range n).find? f
theorem first_some {n i : Nat} {f : Nat → Bool} (h : ∀ j, j < i → f j = false) (hi : i < n) (hf : f i = true) : first n f = some i := by
  unfold first
  rw [List.find?_range_eq_some]
  exact ⟨hf, by simpa using hi, fun j hj => by simp [h j hj]⟩
theorem first_none {n : Nat} {f : Nat → Bool} (h : ∀ j, j < n → f j = false) : first n f = none := by
  unfold first
  rw [List.find?_range_eq_none]
  intro j hj; simp [h j hj]
theorem first_is {n i : Nat} {f : Nat → Bool} (h : first n f = some i) : i < n ∧ f i = true ∧ ∀ j, j < i → f j = false := by
  unfold first at h
  rw [List.find?_range_eq_some] at h
  exact ⟨by simpa using h.2.1, h.1, fun j hj => by simpa using h.2.2 j hj⟩
theorem first_no {n : Nat} {f : Nat → Bool} (h : first n f = none) : ∀ j, j < n → f j = false := by
  unfold first at h
  rw [List.find?_range_eq_none] at h
  intro j hj; simpa using h j hj
def at0 (l : List (Int × Int)) (i : Nat) : Int × Int := l.getD i (0, 0)
def crossAt (l : List (Int × Int)) (i j : Nat) : List (Int × Int × Int) :=
  crossP (at0 l i).1 (at0 l i).2 (at0 l ((i + 1) % l.length)).1 (at0 l ((i + 1) % l.length)).2 (at0 l j).1 (at0 l j).2 (at0 l ((j + 1) % l.length)).1 (at0 l ((j + 1) % l.length)).2
def nextTo (n i j : Nat) : Bool := decide ((i + 1) % n = j ∨ (j + 1) % n = i)
def badPair (l : List (Int × Int)) (i j : Nat) : Bool :=
  decide (i ≠ j) && (if nextTo l.length i j then decide (1 < (crossAt l i j).length) else decide (0 < (crossAt l i j).length))
def badRow (l : List (Int × Int)) (i : Nat) : Bool := (first l.length (badPair l i)).isSome
def twice (l : List (Int × Int)) (i : Nat) : Bool := decide (at0 l i ∈ l.take i)
def polyP (l : List (Int × Int)) : Int × Int :=
  if 4096 < l.length then (2, 0) else if 200 < l.length then (10, 0) else
  match first l.length (fun i => !okP (at0 l i)) with
  | some i => (1, i)
  | none => if l.length < 3 then (3, 0) else
    match first l.length (twice l) with
    | some i => (7, i)
    | none => match first l.length (badRow l) with
      | some i => (13, i)
      | none => (0, 0)
theorem badRow_yes {l : List (Int × Int)} {i j : Nat} (hj : j < l.length) (h : badPair l i j = true) : badRow l i = true := by
  unfold badRow
  cases hh : first l.length (badPair l i) with
  | some k => rfl
  | none => exact absurd (first_no hh j hj) (by simp [h])
theorem badRow_no {l : List (Int × Int)} {i : Nat} (h : ∀ j, j < l.length → badPair l i j = false) : badRow l i = false := by
  unfold badRow; rw [first_none h]; rfl
theorem polyP_bad {l : List (Int × Int)} {k : Nat} (hl : l.length ≤ 200) (hk : k < l.length) (h : ∀ j, j < k → okP (at0 l j) = true) (hf : okP (at0 l k) = false) : polyP l = (1, (k : Int)) := by
  unfold polyP
  rw [if_neg (by omega), if_neg (by omega), first_some (i := k) (fun j hj => by simp [h j hj]) hk (by simp [hf])]
theorem polyP_form {l : List (Int × Int)} (hl : l.length ≤ 200) (h : ∀ j, j < l.length → okP (at0 l j) = true) (h3 : l.length < 3) : polyP l = (3, 0) := by
  unfold polyP
  rw [if_neg (by omega), if_neg (by omega), first_none (fun j hj => by simp [h j hj])]
  simp only [if_pos h3]
theorem polyP_twice {l : List (Int × Int)} {k : Nat} (hl : l.length ≤ 200) (h : ∀ j, j < l.length → okP (at0 l j) = true) (h3 : ¬ l.length < 3) (hk : k < l.length) (h2 : ∀ j, j < k → twice l j = false) (hf : twice l k = true) : polyP l = (7, (k : Int)) := by
  unfold polyP
  rw [if_neg (by omega), if_neg (by omega), first_none (fun j hj => by simp [h j hj])]
  simp only [if_neg h3, first_some h2 hk hf]
theorem polyP_state {l : List (Int × Int)} {k : Nat} (hl : l.length ≤ 200) (h : ∀ j, j < l.length → okP (at0 l j) = true) (h3 : ¬ l.length < 3) (h2 : ∀ j, j < l.length → twice l j = false) (hk : k < l.length) (h4 : ∀ j, j < k → badRow l j = false) (hf : badRow l k = true) : polyP l = (13, (k : Int)) := by
  unfold polyP
  rw [if_neg (by omega), if_neg (by omega), first_none (fun j hj => by simp [h j hj])]
  simp only [if_neg h3, first_none h2, first_some h4 hk hf]
theorem polyP_fine {l : List (Int × Int)} (hl : l.length ≤ 200) (h : ∀ j, j < l.length → okP (at0 l j) = true) (h3 : ¬ l.length < 3) (h2 : ∀ j, j < l.length → twice l j = false) (h4 : ∀ j, j < l.length → badRow l j = false) : polyP l = (0, 0) := by
  unfold polyP
  rw [if_neg (by omega), if_neg (by omega), first_none (fun j hj => by simp [h j hj])]
  simp only [if_neg h3, first_none h2, first_none h4]
theorem take_next (l : List (Int × Int)) (k : Nat) (hk : k < l.length) : l.take (k + 1) = l.take k ++ [at0 l k] := by
  rw [List.take_succ_eq_append_getElem hk]; unfold at0; rw [← List.getElem_eq_getD (h := hk)]
end Go.Proofs.Ytgnhcdchpeeoaaa.Plane

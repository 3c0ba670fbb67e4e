/- What impl.bySize tells: the numbers of a list's elements, in the order of the elements, equal ones in the order of their numbers. -/
import Derived.Test.YtkijhilmgljegaaQTSym
namespace Go.Proofs.Ytkijhilmgljegaa.BySize
open Go.Sort
def key (l : List Int) (x : Nat) : Int := l.getD (x % l.length) 0
def ltK (l : List Int) (x y : Nat) : Bool := decide (key l x < key l y)
def num (l : List Int) (x : Nat) : Int := ((x % l.length : Nat) : Int)
def bySizeP (l : List Int) : List Int := (Sym.stable (ltK l) (Array.range l.length)).toList.map (num l)
def initL (n k : Nat) : List Int := (List.range n).map fun t => if t < k then (t : Int) else 0
theorem initL_zero (n : Nat) : initL n 0 = List.replicate n 0 := by
  apply List.ext_getElem?
  intro i
  by_cases h : i < n <;> simp [initL, h]
theorem initL_len (n k : Nat) : (initL n k).length = n := by simp [initL]
theorem initL_set (n k : Nat) (h : k < n) : (initL n k).set k (k : Int) = initL n (k + 1) := by
  apply List.ext_getElem?
  intro i
  by_cases hi : i < n
  · by_cases e : k = i
    · subst e; simp [initL, h]
    · rw [List.getElem?_set_ne e]
      simp only [initL, List.getElem?_map, List.getElem?_range hi, Option.map_some]
      congr 1
      by_cases h1 : i < k
      · rw [if_pos h1, if_pos (by omega)]
      · rw [if_neg h1, if_neg (by omega)]
  · rw [List.getElem?_eq_none (by simp [initL]; omega), List.getElem?_eq_none (by simp [initL]; omega)]
theorem initL_all (l : List Int) : initL l.length l.length = (Array.range l.length).toList.map (num l) := by
  apply List.ext_getElem?
  intro i
  by_cases hi : i < l.length
  · simp [initL, hi, num, Nat.mod_eq_of_lt hi]
  · simp [initL, hi]
end Go.Proofs.Ytkijhilmgljegaa.BySize

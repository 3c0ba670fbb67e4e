/- What impl.Blocked comes to, behind its pairs: a growing set of holes, and the shafts that fit to it. No conditions. -/
import Derived.IntWalk
import Derived.Test.YtkijhilmgljegaaVTa
namespace Go.Proofs.Ytkijhilmgljegaa.BlockedP
open Go.RowKit Go.Proofs.YtkijhilmgljegaaW.PrintWords
def gap (l0 l1 : List Int) (h s : Nat) : Int := wrap64 (l0.getD h 0 - l1.getD s 0)
def fitAt (l0 l1 : List Int) (a b : Int) (ins : List Bool) (s h : Nat) : Bool := ins.getD h false && (decide (a ≤ gap l0 l1 h s) && decide (gap l0 l1 h s ≤ b))
def fits (l0 l1 : List Int) (a b : Int) (ins : List Bool) (s : Nat) : Bool := (List.range ins.length).any (fitAt l0 l1 a b ins s)
def outAll (ins : List Bool) (ps : List (Nat × Nat)) : List Bool := ps.foldl (fun i p => i.set p.1 false) ins
def mateF (ps : List (Nat × Nat)) : Nat → Option Nat := ps.foldl (fun m p s => if s = p.2 then some p.1 else m s) (fun _ => none)
def grow1 (l0 l1 : List Int) (a b : Int) (m : Nat → Option Nat) (st : List Bool × Bool) (s : Nat) : List Bool × Bool :=
  match m s with
  | some h => if (!st.1.getD h false && fits l0 l1 a b st.1 s) = true then (st.1.set h true, true) else st
  | none => st
def growR (l0 l1 : List Int) (a b : Int) (m : Nat → Option Nat) (st : List Bool × Bool) (i n : Nat) : List Bool × Bool := (List.range' i n).foldl (grow1 l0 l1 a b m) st
def growL (l0 l1 : List Int) (a b : Int) (m : Nat → Option Nat) : Nat → List Bool → List Bool
  | 0, ins => ins
  | f + 1, ins => if (growR l0 l1 a b m (ins, false) 0 l1.length).2 = true then growL l0 l1 a b m f (growR l0 l1 a b m (ins, false) 0 l1.length).1 else (growR l0 l1 a b m (ins, false) 0 l1.length).1
def told (p : Nat → Bool) (n : Nat) : List Int := ((List.range n).filter p).map fun t : Nat => (t : Int)
def endP (l0 l1 : List Int) (a b : Int) (ps : List (Nat × Nat)) : List Bool := growL l0 l1 a b (mateF ps) (l0.length + 1) (outAll (List.replicate l0.length true) ps)
def aP (l0 l1 : List Int) (a b : Int) (ps : List (Nat × Nat)) : List Int := told (fun t => (endP l0 l1 a b ps).getD t false) l0.length
def bP (l0 l1 : List Int) (a b : Int) (ps : List (Nat × Nat)) : List Int := told (fits l0 l1 a b (endP l0 l1 a b ps)) l1.length
def cnt (ins : List Bool) : Nat := ins.count false
theorem len_outAll : ∀ (ps : List (Nat × Nat)) (ins : List Bool), (outAll ins ps).length = ins.length
  | [], _ => rfl
  | p :: ps, ins => by show (outAll (ins.set p.1 false) ps).length = _; rw [len_outAll ps]; simp
theorem outAll_snoc (ins : List Bool) (ps : List (Nat × Nat)) (p : Nat × Nat) : outAll ins (ps ++ [p]) = (outAll ins ps).set p.1 false := by simp [outAll]
theorem mateF_snoc (ps : List (Nat × Nat)) (p : Nat × Nat) (s : Nat) : mateF (ps ++ [p]) s = if s = p.2 then some p.1 else mateF ps s := by simp [mateF]
theorem mateF_mem : ∀ (ps : List (Nat × Nat)) (s h : Nat), mateF ps s = some h → (h, s) ∈ ps := by
  intro ps
  rw [← List.reverse_reverse ps]
  induction ps.reverse with
  | nil => intro s h e; simp [mateF] at e
  | cons p r ih =>
    intro s h e
    rw [List.reverse_cons, mateF_snoc] at e
    rw [List.reverse_cons, List.mem_append]
    split at e
    · rename_i c
      injection e with e
      right; subst e c; simp
    · exact .inl (ih s h e)
theorem len_grow1 (l0 l1 : List Int) (a b : Int) (m : Nat → Option Nat) (st : List Bool × Bool) (s : Nat) : (grow1 l0 l1 a b m st s).1.length = st.1.length := by
  unfold grow1; split
  · split
    · simp
    · rfl
  · rfl
theorem growR_zero (l0 l1 : List Int) (a b : Int) (m : Nat → Option Nat) (st : List Bool × Bool) (i : Nat) : growR l0 l1 a b m st i 0 = st := rfl
theorem growR_succ (l0 l1 : List Int) (a b : Int) (m : Nat → Option Nat) (st : List Bool × Bool) (i n : Nat) : growR l0 l1 a b m st i (n + 1) = growR l0 l1 a b m (grow1 l0 l1 a b m st i) (i + 1) n := rfl
theorem cnt_set (ins : List Bool) (h : Nat) (hl : h < ins.length) (e : ins.getD h false = false) : cnt (ins.set h true) + 1 = cnt ins := by
  induction ins generalizing h with
  | nil => simp at hl
  | cons x r ih =>
    cases h with
    | zero =>
      simp at e; subst e
      simp [cnt]
    | succ h =>
      have := ih h (by simpa using hl) (by simpa using e)
      simp only [cnt, List.set_cons_succ, List.count_cons] at this ⊢
      omega
theorem cnt_le (ins : List Bool) : cnt ins ≤ ins.length := List.count_le_length
theorem cnt_grow1 (l0 l1 : List Int) (a b : Int) (m : Nat → Option Nat) (st : List Bool × Bool) (s : Nat) (hm : ∀ s h, m s = some h → h < st.1.length) :
    cnt (grow1 l0 l1 a b m st s).1 ≤ cnt st.1 ∧ ((grow1 l0 l1 a b m st s).2 = true → st.2 = true ∨ cnt (grow1 l0 l1 a b m st s).1 < cnt st.1) := by
  unfold grow1; split
  · rename_i h e
    split
    · rename_i c
      simp only [Bool.and_eq_true, Bool.not_eq_true'] at c
      have := cnt_set st.1 h (hm s h e) c.1
      dsimp only
      exact ⟨by omega, fun _ => .inr (by omega)⟩
    · exact ⟨Nat.le_refl _, fun h => .inl h⟩
  · exact ⟨Nat.le_refl _, fun h => .inl h⟩
theorem told_succ (p : Nat → Bool) (n : Nat) : told p (n + 1) = if p n = true then told p n ++ [(n : Int)] else told p n := by
  unfold told
  rw [List.range_succ, List.filter_append]
  cases h : p n <;> simp [h]
theorem told_len (p : Nat → Bool) (n : Nat) : (told p n).length ≤ n := by
  unfold told; rw [List.length_map]; exact Nat.le_trans (List.length_filter_le _ _) (by simp)
theorem fits_no {l0 l1 : List Int} {a b : Int} {ins : List Bool} {s : Nat} (h : ∀ t, t < ins.length → fitAt l0 l1 a b ins s t = false) : fits l0 l1 a b ins s = false := by
  unfold fits; rw [List.any_eq_false]; intro x hx; rw [h x (by simpa using hx)]; simp
theorem fits_yes {l0 l1 : List Int} {a b : Int} {ins : List Bool} {s t : Nat} (ht : t < ins.length) (h : fitAt l0 l1 a b ins s t = true) : fits l0 l1 a b ins s = true := by
  unfold fits; rw [List.any_eq_true]; exact ⟨t, by simpa using ht, h⟩
def initB (n k : Nat) : List Bool := (List.range n).map fun t => decide (t < k)
theorem initB_zero (n : Nat) : initB n 0 = List.replicate n false := by
  apply List.ext_getElem?; intro i
  by_cases h : i < n <;> simp [initB, h]
theorem initB_all (n : Nat) : initB n n = List.replicate n true := by
  apply List.ext_getElem?; intro i
  by_cases h : i < n <;> simp [initB, h]
theorem initB_len (n k : Nat) : (initB n k).length = n := by simp [initB]
theorem initB_set (n k : Nat) (h : k < n) : (initB n k).set k true = initB n (k + 1) := by
  apply List.ext_getElem?
  intro i
  by_cases hi : i < n
  · by_cases e : k = i
    · subst e; simp [initB, h]
    · rw [List.getElem?_set_ne e]
      simp only [initB, List.getElem?_map, List.getElem?_range hi, Option.map_some]
      congr 1
      rw [decide_eq_decide]; omega
  · rw [List.getElem?_eq_none (by simp [initB]; omega), List.getElem?_eq_none (by simp [initB]; omega)]
end Go.Proofs.Ytkijhilmgljegaa.BlockedP

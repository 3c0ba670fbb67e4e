/- A part of the proof that the law AllG answers true at every input. No conditions. -/
import Derived.Test.YtgnhcdchpeeoaaaQGPurePolyG
import Derived.Test.YtgnhcdchpeeoaaaQGG11
set_option linter.unusedVariables false
namespace Go.Proofs.Ytgnhcdchpeeoaaa.PG
open Go.RowKit Go.Proofs.YtgnhcdchpeeoaaaW.PrintWords Go.Proofs.YtgnhcdchpeeoaaaW.PrintLast Go.Proofs.YtgnhcdchpeeoaaaW.PrintMore Plane
theorem polyP_zero {l : List (Int × Int)} (h : (polyP l).1 = 0) : l.length ≤ 200 ∧ 3 ≤ l.length ∧ ∀ j, j < l.length → okP (at0 l j) = true := by
  unfold polyP at h
  by_cases h1 : 4096 < l.length
  · rw [if_pos h1] at h; exact absurd h (by decide)
  rw [if_neg h1] at h
  by_cases h2 : 200 < l.length
  · rw [if_pos h2] at h; exact absurd h (by decide)
  rw [if_neg h2] at h
  cases hf : first l.length (fun i => !okP (at0 l i)) with
  | some i => rw [hf] at h; simp at h
  | none =>
    rw [hf] at h
    by_cases h3 : l.length < 3
    · simp only [if_pos h3] at h; exact absurd h (by decide)
    · exact ⟨by omega, by omega, fun j hj => by simpa using first_no hf j hj⟩
def aStep (l : List (Int × Int)) (acc : Int) (i : Nat) : Int :=
  wrap64 (acc + wrap64 (wrap64 ((at0 l i).1 * (at0 l ((i + 1) % l.length)).2) - wrap64 ((at0 l i).2 * (at0 l ((i + 1) % l.length)).1)))
def aFrom (l : List (Int × Int)) : Nat → Nat → Int → Int
  | 0, _, acc => acc
  | m + 1, i, acc => aFrom l m (i + 1) (aStep l acc i)
theorem sArea_l0 (l : List (Int × Int)) (hl : l.length ≤ 200) : ∀ (m i : Nat) (acc : Int), m = l.length - i → i ≤ l.length → Ev (fun k => spec_l03Area2.l0 k (l.map pS) acc (i : Int)) (aFrom l m i acc)
  | 0, i, acc, hm, hi => by
    refine Ev.step (fun k => by rw [spec_l03Area2.l0]) ?_
    rw [List.length_map]
    exact ev_ifF (by omega) (Ev.now _)
  | m + 1, i, acc, hm, hi => by
    refine Ev.step (fun k => by rw [spec_l03Area2.l0]) ?_
    have m1 := Nat.mod_lt (i + 1) (show 0 < l.length by omega)
    rw [List.length_map, succ64 (i := i) (by omega), modI, rdP l i (by omega), rdP l _ m1]
    refine ev_ifT (by omega) (ev_ifT (by omega) (ev_ifF (by omega) (ev_ifT (by omega) (ev_ifT (by omega) ?_))))
    exact sArea_l0 l hl m (i + 1) _ (by omega) (by omega)
theorem iArea_l0 (l : List (Int × Int)) (hl : l.length ≤ 200) : ∀ (m i : Nat) (acc : Int), m = l.length - i → i ≤ l.length → Ev (fun k => impl_Area2.l0 k (l.map pS) acc (l.map pS) (l.length : Int) (i : Int)) (aFrom l m i acc, 0)
  | 0, i, acc, hm, hi => by
    refine Ev.step (fun k => by rw [impl_Area2.l0]) ?_
    exact ev_ifF (by omega) (Ev.now _)
  | m + 1, i, acc, hm, hi => by
    refine Ev.step (fun k => by rw [impl_Area2.l0]) ?_
    have m1 := Nat.mod_lt (i + 1) (show 0 < l.length by omega)
    rw [List.length_map, succ64 (i := i) (by omega), modI, rdP l i (by omega), rdP l _ m1]
    refine ev_ifT (by omega) (ev_ifT (by omega) (ev_ifT (by omega) (ev_ifF (by omega) (ev_ifT (by omega) (ev_ifT (by omega) ?_)))))
    exact iArea_l0 l hl m (i + 1) _ (by omega) (by omega)
def areaP (l : List (Int × Int)) : Int × Int := if 4096 < l.length then (0, 2) else if (polyP l).1 = 0 then (aFrom l l.length 0 0, 0) else (0, 1)
theorem sPolygon (l : List (Int × Int)) : Ev (fun k => spec_l03Polygon.f k (l.map pS)) ((polyP l).1 == 0) := by
  unfold spec_l03Polygon.f; exact Ev.bind (specPoly l) (Ev.now _)
theorem sArea (l : List (Int × Int)) : Ev (fun k => spec_Area2.f k (l.map pS)) (areaP l) := by
  unfold spec_Area2.f areaP
  rw [List.length_map]
  by_cases h1 : 4096 < l.length
  · rw [if_pos h1]; exact ev_ifT (by omega) (Ev.now _)
  rw [if_neg h1]
  refine ev_ifF (by omega) (Ev.bind (sPolygon l) ?_)
  by_cases h2 : (polyP l).1 = 0
  · rw [if_pos h2]
    refine ev_ifT (beq_iff_eq.2 h2) ?_
    have := polyP_zero h2
    refine Ev.bind (show Ev (fun k => spec_l03Area2.f k (l.map pS)) (aFrom l l.length 0 0) from sArea_l0 l (by omega) l.length 0 0 (by omega) (by omega)) (Ev.now _)
  · rw [if_neg h2]; exact ev_ifF (fun h => h2 (beq_iff_eq.1 h)) (Ev.now _)
theorem iArea (l : List (Int × Int)) : Ev (fun k => impl_Area2.f k (l.map pS)) (areaP l) := by
  unfold impl_Area2.f areaP
  rw [List.length_map]
  by_cases h1 : 4096 < l.length
  · rw [if_pos h1]; exact ev_ifT (by omega) (Ev.now _)
  rw [if_neg h1]
  refine ev_ifF (by omega) (ev_bindS (implPoly l) ?_)
  by_cases h2 : (polyP l).1 = 0
  · rw [if_pos h2]
    refine ev_ifT h2 ?_
    have := polyP_zero h2
    exact iArea_l0 l (by omega) l.length 0 0 (by omega) (by omega)
  · rw [if_neg h2]; exact ev_ifF h2 (Ev.now _)
theorem area_all (l : List (Int × Int)) (hl : l.length ≤ 9223372036854775807) : Ev (fun k => laws_FnExactArea2.f k (l.map qS)) true := by
  unfold laws_FnExactArea2.f
  rw [szPointS l hl]
  by_cases h1 : 1048576 < l.length
  · rw [if_pos h1]; exact ev_bindS rfl (ev_ifT (by decide) (Ev.now _))
  rw [if_neg h1]
  have tp := toPointS l (by omega)
  refine ev_bindS rfl (ev_ifF (by omega) (Ev.bind tp (Ev.bind (sArea l) (Ev.bind tp (Ev.bind (iArea l) (ev_ifT rfl ?_))))))
  refine Ev.step (fun k => by rw [laws_FnExactArea2.j0]) (ev_ifF (by simp) (Ev.bind tp (Ev.bind (eqPointS (l.map pS) (by rw [List.length_map]; omega)) (ev_ifT rfl (Ev.now _)))))
theorem FnExactArea2_row (l0 : List (Int × Int)) (hl : l0.length * 16 ≤ 140737488351232) (_ : ∀ x ∈ l0, (Lit.int .i64 x.1).wf = true ∧ (Lit.int .i64 x.2).wf = true) : ∃ k, laws_FnExactArea2.f k (l0.map qS) = some true :=
  (area_all l0 (by omega)).rounds
end Go.Proofs.Ytgnhcdchpeeoaaa.PG

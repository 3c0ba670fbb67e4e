/- A part of the proof that the law AllG answers true at every input. No conditions. -/
import Derived.Test.YtgnhcdchpeeoaaaQGPureFnExactArea2
import Derived.Test.YtgnhcdchpeeoaaaQGG12
set_option linter.unusedVariables false
namespace Go.Proofs.Ytgnhcdchpeeoaaa.PG
open Go.RowKit Go.Proofs.YtgnhcdchpeeoaaaW.PrintWords Go.Proofs.YtgnhcdchpeeoaaaW.PrintLast Go.Proofs.YtgnhcdchpeeoaaaW.PrintMore Plane
def wFlip (a b x : Int × Int) : Bool := (decide (a.2 > x.2) != decide (b.2 > x.2)) && (decide (side a.1 a.2 b.1 b.2 x.1 x.2 > 0) == decide (b.2 > a.2))
def wFrom (l : List (Int × Int)) (x : Int × Int) : Nat → Nat → Bool → Int
  | 0, _, c => if c then 1 else -1
  | m + 1, i, c => if onB (at0 l i).1 (at0 l i).2 (at0 l ((i + 1) % l.length)).1 (at0 l ((i + 1) % l.length)).2 x.1 x.2 = true then 0
    else wFrom l x m (i + 1) (if wFlip (at0 l i) (at0 l ((i + 1) % l.length)) x = true then !c else c)
section
variable {l : List (Int × Int)} {x : Int × Int} (hl : l.length ≤ 200) (hok : ∀ j, j < l.length → okP (at0 l j) = true) (hx : InP x)
include hl hok hx
theorem sWithin_l0 : ∀ (m i : Nat) (c : Bool), m = l.length - i → i ≤ l.length → Ev (fun k => spec_l03Within.l0 k (l.map pS) c (i : Int) x.1 x.2) (wFrom l x m i c)
  | 0, i, c, hm, hi => by
    refine Ev.step (fun k => by rw [spec_l03Within.l0]) ?_
    rw [List.length_map]
    refine ev_ifF (by omega) ?_
    unfold wFrom
    cases c
    · exact ev_ifF (by decide) (Ev.now _)
    · exact ev_ifT rfl (Ev.now _)
  | m + 1, i, c, hm, hi => by
    refine Ev.step (fun k => by rw [spec_l03Within.l0]) ?_
    have m1 := Nat.mod_lt (i + 1) (show 0 < l.length by omega)
    rw [List.length_map, succ64 (i := i) (by omega), modI, rdP l i (by omega), rdP l _ m1]
    have ia := okP_in (hok i (by omega))
    have ib := okP_in (hok _ m1)
    have ih := fun c' => sWithin_l0 m (i + 1) c' (by omega) (by omega)
    unfold wFrom
    generalize at0 l i = a at *
    generalize at0 l ((i + 1) % l.length) = b at *
    refine ev_ifT (by omega) (ev_ifT (by omega) (ev_ifF (by omega) (ev_ifT (by omega) (ev_ifT (by omega) (ev_bindS (sSide_f ia ib hx) ?_)))))
    have J : ∀ o : Bool, onB a.1 a.2 b.1 b.2 x.1 x.2 = o → Ev (fun k => spec_l03Within.j1 k (l.map pS) c (i : Int) (side a.1 a.2 b.1 b.2 x.1 x.2) o x.1 x.2 a.1 a.2 b.1 b.2)
        (if onB a.1 a.2 b.1 b.2 x.1 x.2 = true then 0 else wFrom l x m (i + 1) (if wFlip a b x = true then !c else c)) := by
      intro o ho
      rw [ho]
      refine Ev.step (fun k => by rw [spec_l03Within.j1]) ?_
      rw [succ64 (i := i) (by omega)]
      cases o
      · refine ev_ifF (by decide) ?_
        rw [if_neg (by decide)]
        unfold wFlip
        by_cases c1 : (decide (a.2 > x.2) != decide (b.2 > x.2)) = true
        · refine ev_ifT c1 ?_
          rw [c1, Bool.true_and]
          by_cases c2 : (decide (side a.1 a.2 b.1 b.2 x.1 x.2 > 0) == decide (b.2 > a.2)) = true
          · rw [if_pos c2]; exact ev_ifT c2 (ih _)
          · rw [if_neg c2]; exact ev_ifF c2 (ih _)
        · refine ev_ifF c1 ?_
          rw [if_neg (fun h => c1 (Bool.and_eq_true_iff.1 h).1)]; exact ih _
      · exact ev_ifT rfl (Ev.now _)
    by_cases hs : side a.1 a.2 b.1 b.2 x.1 x.2 = 0
    · exact ev_ifT hs (ev_bindS (sOn_f hs) (J _ rfl))
    · exact ev_ifF hs (J false (Bool.eq_false_iff.2 fun h => hs (onB_side h)))
theorem iWithin_l0 : ∀ (m i : Nat) (c : Bool) (s : Int), s = (if c then 1 else -1) → m = l.length - i → i ≤ l.length → Ev (fun k => impl_Within.l0 k (l.map pS) s (l.map pS) (l.length : Int) (i : Int) x.1 x.2) (wFrom l x m i c, 0)
  | 0, i, c, s, hs, hm, hi => by
    refine Ev.step (fun k => by rw [impl_Within.l0]) ?_
    unfold wFrom
    rw [← hs]
    exact ev_ifF (by omega) (Ev.now _)
  | m + 1, i, c, s, hs, hm, hi => by
    refine Ev.step (fun k => by rw [impl_Within.l0]) ?_
    have m1 := Nat.mod_lt (i + 1) (show 0 < l.length by omega)
    rw [List.length_map, succ64 (i := i) (by omega), modI, rdP l i (by omega), rdP l _ m1]
    have ia := okP_in (hok i (by omega))
    have ib := okP_in (hok _ m1)
    have ih := fun c' s' hs' => iWithin_l0 m (i + 1) c' s' hs' (by omega) (by omega)
    unfold wFrom
    generalize at0 l i = a at *
    generalize at0 l ((i + 1) % l.length) = b at *
    refine ev_ifT (by omega) (ev_ifT (by omega) (ev_ifT (by omega) (ev_ifF (by omega) (ev_ifT (by omega) (ev_ifT (by omega) (ev_bindS (on_f ⟨ia.1, ia.2, ib.1, ib.2, hx.1, hx.2⟩) ?_))))))
    by_cases ho : onB a.1 a.2 b.1 b.2 x.1 x.2 = true
    · rw [if_pos ho]; exact ev_ifT ho (Ev.now _)
    rw [if_neg ho]
    refine ev_ifF ho ?_
    unfold wFlip
    by_cases c1 : (decide (a.2 > x.2) != decide (b.2 > x.2)) = true
    · refine ev_ifT c1 (ev_bindS (cross3_f ⟨ia.1, ia.2, ib.1, ib.2, hx.1, hx.2⟩).1 ?_)
      rw [c1, Bool.true_and]
      by_cases c2 : (decide (b.2 > a.2) == decide (side a.1 a.2 b.1 b.2 x.1 x.2 > 0)) = true
      · rw [if_pos (by rw [beq_iff_eq] at c2 ⊢; exact c2.symm)]
        refine ev_ifT c2 ?_
        exact ih (!c) _ (by rw [hs]; cases c <;> simp [wrap64])
      · rw [if_neg (fun h => c2 (by rw [beq_iff_eq] at h ⊢; exact h.symm))]; exact ev_ifF c2 (ih _ _ hs)
    · refine ev_ifF c1 ?_
      rw [if_neg (fun h => c1 (Bool.and_eq_true_iff.1 h).1)]; exact ih _ _ hs
end
def withinP (l : List (Int × Int)) (x : Int × Int) : Int × Int := if 4096 < l.length then (0, 2) else if (polyP l).1 = 0 ∧ okP x = true then (wFrom l x l.length 0 false, 0) else (0, 1)
theorem sWithin (l : List (Int × Int)) (x : Int × Int) : Ev (fun k => spec_Within.f k (l.map pS) x.1 x.2) (withinP l x) := by
  unfold spec_Within.f withinP
  rw [List.length_map]
  by_cases h1 : 4096 < l.length
  · rw [if_pos h1]; exact ev_ifT (by omega) (Ev.now _)
  rw [if_neg h1]
  refine ev_ifF (by omega) (Ev.bind (sPolygon l) ?_)
  by_cases h2 : (polyP l).1 = 0
  · refine ev_ifT (beq_iff_eq.2 h2) (ev_bindS (pointS_f x) ?_)
    have hp := polyP_zero h2
    by_cases h3 : okP x = true
    · rw [if_pos ⟨h2, h3⟩]
      refine ev_ifT h3 ?_
      refine Ev.bind (show Ev (fun k => spec_l03Within.f k (l.map pS) x.1 x.2) (wFrom l x l.length 0 false) from sWithin_l0 hp.1 hp.2.2 (okP_in h3) l.length 0 false (by omega) (by omega)) (Ev.now _)
    · rw [if_neg (fun h => h3 h.2)]; exact ev_ifF h3 (Ev.now _)
  · rw [if_neg (fun h => h2 h.1)]; exact ev_ifF (fun h => h2 (beq_iff_eq.1 h)) (Ev.now _)
theorem iWithin (l : List (Int × Int)) (x : Int × Int) : Ev (fun k => impl_Within.f k (l.map pS) x.1 x.2) (withinP l x) := by
  unfold impl_Within.f withinP
  rw [List.length_map]
  by_cases h1 : 4096 < l.length
  · rw [if_pos h1]; exact ev_ifT (by omega) (Ev.now _)
  rw [if_neg h1]
  refine ev_ifF (by omega) (ev_bindS (implPoly l) ?_)
  by_cases h2 : (polyP l).1 = 0
  · refine ev_ifT h2 (ev_bindS (pointI_f x) ?_)
    have hp := polyP_zero h2
    refine Ev.step (fun k => by rw [impl_Within.j0]) ?_
    by_cases h3 : okP x = true
    · rw [if_pos ⟨h2, h3⟩]
      refine ev_ifF (by rw [h3]; decide) ?_
      rw [List.length_map]
      exact iWithin_l0 hp.1 hp.2.2 (okP_in h3) l.length 0 false (-1) rfl (by omega) (by omega)
    · rw [if_neg (fun h => h3 h.2)]; exact ev_ifT (by rw [Bool.eq_false_iff.2 h3]; rfl) (Ev.now _)
  · rw [if_neg (fun h => h2 h.1)]
    exact ev_ifF h2 (Ev.step (fun k => by rw [impl_Within.j0]) (ev_ifT rfl (Ev.now _)))
theorem within_all (l : List (Int × Int)) (x : Int × Int) (hl : l.length ≤ 9223372036854775807) : Ev (fun k => laws_FnExactWithin.f k (l.map qS) x.1 x.2) true := by
  unfold laws_FnExactWithin.f
  rw [szPointS l hl]
  by_cases h1 : 1048576 < l.length
  · rw [if_pos h1]; exact ev_bindS rfl (ev_ifT (by decide) (Ev.now _))
  rw [if_neg h1]
  have tp := toPointS l (by omega)
  refine ev_bindS rfl (ev_ifF (by omega) (Ev.bind tp (ev_bindS (toPoint_f _ _) (Ev.bind (sWithin l x) (Ev.bind tp (ev_bindS (toPoint_f _ _) (Ev.bind (iWithin l x) (ev_ifT rfl ?_))))))))
  refine Ev.step (fun k => by rw [laws_FnExactWithin.j0]) (ev_ifF (by simp) (Ev.bind tp (Ev.bind (eqPointS (l.map pS) (by rw [List.length_map]; omega)) (ev_ifT rfl (Ev.now _)))))
theorem FnExactWithin_row (l0 : List (Int × Int)) (x1 y1 : Int) (hl : l0.length * 16 ≤ 140737488351232) (_ : ∀ x ∈ l0, (Lit.int .i64 x.1).wf = true ∧ (Lit.int .i64 x.2).wf = true) (_ : (Lit.int .i64 x1).wf = true) (_ : (Lit.int .i64 y1).wf = true) :
    ∃ k, laws_FnExactWithin.f k (l0.map qS) x1 y1 = some true :=
  (within_all l0 (x1, y1) (by omega)).rounds
end Go.Proofs.Ytgnhcdchpeeoaaa.PG

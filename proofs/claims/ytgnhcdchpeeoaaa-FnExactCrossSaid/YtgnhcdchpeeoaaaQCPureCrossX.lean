/- A part of the proof that the law FnExactCross answers true at every input. No conditions. -/
import Derived.Test.YtgnhcdchpeeoaaaQCPureCrossC
import Derived.Test.YtgnhcdchpeeoaaaQCC9
set_option linter.unusedVariables false
namespace Go.Proofs.Ytgnhcdchpeeoaaa.PC
open Go.RowKit Go.Proofs.YtgnhcdchpeeoaaaW.PrintWords Go.Proofs.YtgnhcdchpeeoaaaW.PrintLast Go.Proofs.YtgnhcdchpeeoaaaW.PrintMore Plane
theorem succ64 {i : Nat} (h : i < 9223372036854775807) : wrap64 ((i : Int) + 1) = ((i + 1 : Nat) : Int) := by rw [pw64 (by omega) (by omega)]; rfl
theorem rd3_get (xs : List S41) (i : Nat) (h : i < xs.length) : rd_T41 xs (i : Int) = xs[i] := by
  unfold rd_T41; rw [Int.toNat_natCast, List.getD_eq_getElem?_getD, List.getElem?_eq_getElem h]; rfl
theorem eqSpot_f (x : S41) : laws_eqSpot.f x.f0 x.f1 x.f2 x.f0 x.f1 x.f2 = some true := by simp [laws_eqSpot.f]
theorem eqSpotS_l0 (x : List S41) (hl : x.length ≤ 35184372088832) : ∀ (m i : Nat), m = x.length - i → Ev (fun k => laws_eqSpotS.l0 k x x (i : Int)) true
  | 0, i, hm => Ev.step (fun k => by rw [laws_eqSpotS.l0]) (ev_ifF (by omega) (Ev.now _))
  | m + 1, i, hm => by
    refine Ev.step (fun k => by rw [laws_eqSpotS.l0]) (ev_ifT (by omega) (ev_ifT (by omega) (ev_ifT (by omega) (ev_bindS (eqSpot_f _) (ev_ifT rfl ?_)))))
    rw [succ64 (by omega)]
    exact eqSpotS_l0 x hl m (i + 1) (by omega)
theorem eqSpotS (x : List S41) (hl : x.length ≤ 35184372088832) : Ev (fun k => laws_eqSpotS.f k x x) true := by
  unfold laws_eqSpotS.f; exact ev_ifT rfl (eqSpotS_l0 x hl x.length 0 (by omega))
def marks3 (a : Int) : Nat → List S41
  | 0 => []
  | m + 1 => ⟨a, a + 1, a + 1 + 1⟩ :: marks3 (a + 3) m
theorem marks3_len (a : Int) (m : Nat) : (marks3 a m).length = m := by
  induction m generalizing a with
  | zero => rfl
  | succ m ih => simp [marks3, ih]
theorem markSpotS_l0 : ∀ (m i : Nat) (x : List S41) (a : Int), m = x.length - i → i ≤ x.length → x.length ≤ 35184372088832 → 0 ≤ a → a + 3 * m ≤ 1000000000000000000 →
    Ev (fun k => laws_markSpotS.l0 k x a (i : Int)) (a + 3 * m, x.take i ++ marks3 a m)
  | 0, i, x, a, hm, hi, hl, h0, h1 => Ev.step (fun k => by rw [laws_markSpotS.l0]) (ev_ifF (by omega) (by
      rw [show a + 3 * ((0 : Nat) : Int) = a by omega, show i = x.length by omega]; simp only [marks3, List.append_nil, List.take_length]; exact Ev.now _))
  | m + 1, i, x, a, hm, hi, hl, h0, h1 => by
    have h := markSpotS_l0 m (i + 1) (x.set i ⟨a, a + 1, a + 1 + 1⟩) (a + 3) (by simp; omega) (by simp; omega) (by simp; omega) (by omega) (by omega)
    refine Ev.step (fun k => by rw [laws_markSpotS.l0]) (ev_ifT (by omega) (ev_ifT (by omega) ?_))
    refine ev_bindS rfl ?_
    refine ev_bindS rfl ?_
    simp only [Int.toNat_natCast]
    rw [succ64 (by omega), pw64 (x := a + 1) (by omega) (by omega), pw64 (x := a + 1 + 1) (by omega) (by omega), pw64 (x := a + 1 + 1 + 1) (by omega) (by omega)]
    have e : ∀ (u v : S41), ((x.set i ⟨a, u.f1, u.f2⟩).set i ⟨(rd_T41 (x.set i ⟨a, u.f1, u.f2⟩) i).f0, a + 1, v.f2⟩) = x.set i ⟨a, a + 1, v.f2⟩ := by
      intro u v; rw [List.set_set, rd3_get _ i (by simp; omega)]; simp
    have e3 : ∀ (v : S41), ((x.set i ⟨a, a + 1, v.f2⟩).set i ⟨(rd_T41 (x.set i ⟨a, a + 1, v.f2⟩) i).f0, (rd_T41 (x.set i ⟨a, a + 1, v.f2⟩) i).f1, a + 1 + 1⟩) = x.set i ⟨a, a + 1, a + 1 + 1⟩ := by
      intro v; rw [List.set_set, rd3_get _ i (by simp; omega)]; simp
    rw [e, rd3_get (x.set i _) i (by simp; omega)]
    simp only [List.getElem_set_self]
    rw [e3]
    have e2 : (x.set i ⟨a, a + 1, a + 1 + 1⟩).take (i + 1) ++ marks3 (a + 3) m = x.take i ++ marks3 a (m + 1) := by
      rw [List.take_add_one, List.take_set_of_le (Nat.le_refl i), List.getElem?_set_self (by omega), List.append_assoc]; rfl
    rw [show a + 3 * ((m + 1 : Nat) : Int) = a + 3 + 3 * m by omega, ← e2, show a + 1 + 1 + 1 = a + 3 by omega]; exact h
theorem markSpotS (x : List S41) (a : Int) (hl : x.length ≤ 35184372088832) (h0 : 0 ≤ a) (h1 : a ≤ 100000000000000000) : Ev (fun k => laws_markSpotS.f k x a) (a + 3 * x.length, marks3 a x.length) :=
  markSpotS_l0 x.length 0 x a (by omega) (by omega) hl h0 (by omega)
theorem heldSpotS_l0 : ∀ (m : Nat) (p : List S41) (a : Int), p.length + m ≤ 35184372088832 → 0 ≤ a → a + 3 * m ≤ 1000000000000000000 →
    Ev (fun k => laws_heldSpotS.l0 k (p ++ marks3 a m) a (p.length : Int)) (a + 3 * m)
  | 0, p, a, hl, h0, h1 => Ev.step (fun k => by rw [laws_heldSpotS.l0]) (ev_ifF (by simp [marks3]) (by rw [show a + 3 * ((0 : Nat) : Int) = a by omega]; exact Ev.now _))
  | m + 1, p, a, hl, h0, h1 => by
    have hr : rd_T41 (p ++ marks3 a (m + 1)) (p.length : Int) = ⟨a, a + 1, a + 1 + 1⟩ := by rw [rd3_get _ _ (by simp [marks3])]; simp [marks3]
    refine Ev.step (fun k => by rw [laws_heldSpotS.l0]) (ev_ifT (by rw [List.length_append, marks3_len]; omega) (ev_ifT (by omega) (ev_ifT (by rw [hr]) ?_)))
    rw [pw64 (x := a + 1) (by omega) (by omega), pw64 (x := a + 1 + 1) (by omega) (by omega), pw64 (x := a + 1 + 1 + 1) (by omega) (by omega)]
    refine ev_ifT (by rw [hr]) (ev_ifT (by rw [hr]) ?_)
    rw [succ64 (by omega)]
    have h := heldSpotS_l0 m (p ++ [⟨a, a + 1, a + 1 + 1⟩]) (a + 3) (by simp; omega) (by omega) (by omega)
    rw [List.append_assoc, List.length_append] at h
    rw [show a + 3 * ((m + 1 : Nat) : Int) = a + 3 + 3 * m by omega, show a + 1 + 1 + 1 = a + 3 by omega]; exact h
theorem heldSpotS (a : Int) (m : Nat) (hl : m ≤ 35184372088832) (h0 : 0 ≤ a) (h1 : a ≤ 100000000000000000) : Ev (fun k => laws_heldSpotS.f k (marks3 a m) a) (a + 3 * m) :=
  heldSpotS_l0 m [] a (by simp; omega) h0 (by omega)
instance (p : Int × Int) : Decidable (InP p) := by unfold InP; infer_instance
theorem dec_InP (p : Int × Int) : decide (InP p) = decide (p.1 ≥ -100000 ∧ p.1 ≤ 100000 ∧ p.2 ≥ -100000 ∧ p.2 ≤ 100000) := decide_eq_decide.2 (by unfold InP InAt; omega)
theorem pointI_f (p : Int × Int) : impl_pointOK.f p.1 p.2 = some (decide (InP p)) := by
  rw [dec_InP]; unfold impl_pointOK.f
  split
  · split
    · split
      · congr 1; rw [decide_eq_decide]; omega
      · congr 1; symm; rw [decide_eq_false_iff_not]; omega
    · congr 1; symm; rw [decide_eq_false_iff_not]; omega
  · congr 1; symm; rw [decide_eq_false_iff_not]; omega
theorem pointS_f (p : Int × Int) : spec_l03Point.f p.1 p.2 = some (decide (InP p)) := by
  rw [dec_InP]; unfold spec_l03Point.f
  split
  · split
    · split
      · congr 1; rw [decide_eq_decide]; omega
      · congr 1; symm; rw [decide_eq_false_iff_not]; omega
    · congr 1; symm; rw [decide_eq_false_iff_not]; omega
  · congr 1; symm; rw [decide_eq_false_iff_not]; omega
def pS (p : Int × Int) : S34 := ⟨p.1, p.2⟩
theorem rd2_get (xs : List S34) (i : Nat) (h : i < xs.length) : rd_T34 xs (i : Int) = xs[i] := by
  unfold rd_T34; rw [Int.toNat_natCast, List.getD_eq_getElem?_getD, List.getElem?_eq_getElem h]; rfl
theorem points_l0 (l : List (Int × Int)) (hl : l.length ≤ 35184372088832) : ∀ (m i : Nat), m = l.length - i → Ev (fun k => spec_l03Points.l0 k (l.map pS) (i : Int)) ((l.drop i).all fun p => decide (InP p))
  | 0, i, hm => by
    refine Ev.step (fun k => by rw [spec_l03Points.l0]) (ev_ifF (by rw [List.length_map]; omega) ?_)
    rw [List.drop_eq_nil_of_le (by omega)]; exact Ev.now _
  | m + 1, i, hm => by
    refine Ev.step (fun k => by rw [spec_l03Points.l0]) (ev_ifT (by rw [List.length_map]; omega) (ev_ifT (by omega) ?_))
    rw [List.drop_eq_getElem_cons (show i < l.length by omega), rd2_get _ i (by rw [List.length_map]; omega), succ64 (by omega), List.all_cons, List.getElem_map]
    refine ev_bindS (pointS_f l[i]) ?_
    cases hd : decide (InP l[i])
    · exact ev_ifF (by simp) (Ev.now _)
    · refine ev_ifT rfl ?_
      rw [Bool.true_and]; exact points_l0 l hl m (i + 1) (by omega)
def crossR (a b c d : Int × Int) : Int × List S41 × Int :=
  if InP a ∧ InP b ∧ InP c ∧ InP d then (((crossP a.1 a.2 b.1 b.2 c.1 c.2 d.1 d.2).length : Int), (crossP a.1 a.2 b.1 b.2 c.1 c.2 d.1 d.2).map tS, 0) else (0, [], 1)
theorem specCross (a b c d : Int × Int) : Ev (fun k => spec_Cross.f k a.1 a.2 b.1 b.2 c.1 c.2 d.1 d.2) (crossR a b c d) := by
  unfold spec_Cross.f crossR
  have h := points_l0 [a, b, c, d] (by simp) 4 0 (by simp)
  refine Ev.bind (show Ev (fun k => spec_l03Points.f k [⟨a.1, a.2⟩, ⟨b.1, b.2⟩, ⟨c.1, c.2⟩, ⟨d.1, d.2⟩]) _ from h) ?_
  by_cases hi : InP a ∧ InP b ∧ InP c ∧ InP d
  · rw [if_pos hi]
    refine ev_ifT (by simp [hi]) (Ev.bind (sCross_f hi.1 hi.2.1 hi.2.2.1 hi.2.2.2) ?_)
    rw [List.length_map]; exact Ev.now _
  · rw [if_neg hi]
    refine ev_ifF (fun h => hi ?_) (Ev.now _)
    simpa using h
theorem implCross (a b c d : Int × Int) : impl_Cross.f a.1 a.2 b.1 b.2 c.1 c.2 d.1 d.2 = some (crossR a b c d) := by
  unfold impl_Cross.f crossR
  rw [pointI_f a, pointI_f b, pointI_f c, pointI_f d]
  simp only [Option.bind_some, decide_eq_true_eq]
  by_cases ha : InP a <;> by_cases hb : InP b <;> by_cases hc : InP c <;> by_cases hd : InP d <;> simp only [ha, hb, hc, hd, and_self, and_true, and_false, if_true, if_false]
  unfold impl_crossing.f
  rw [if_pos ⟨ha.1, ha.2, hb.1, hb.2, hc.1, hc.2, hd.1, hd.2⟩]
  rfl
theorem crossR_len (a b c d : Int × Int) : (crossR a b c d).2.1.length ≤ 2 := by
  unfold crossR; split
  · rename_i h
    rw [List.length_map, crossP_eq h.1 h.2.1 h.2.2.1 h.2.2.2]
    unfold crossN alongP; dsimp only
    repeat' split
    all_goals simp
  · simp
theorem cross_all (a b c d : Int × Int) : Ev (fun k => laws_FnExactCross.f k a.1 a.2 b.1 b.2 c.1 c.2 d.1 d.2) true := by
  unfold laws_FnExactCross.f
  have sp := specCross a b c d
  have im := implCross a b c d
  have hl := crossR_len a b c d
  have eq := eqSpotS (crossR a b c d).2.1 (by omega)
  refine ev_bindS rfl (ev_bindS rfl (ev_bindS rfl (ev_bindS rfl (Ev.bind sp (ev_bindS rfl (ev_bindS rfl (ev_bindS rfl (ev_bindS rfl (ev_bindS im ?_)))))))))
  generalize crossR a b c d = r at *
  refine ev_ifT rfl (Ev.bind eq (ev_ifT rfl (Ev.step (fun k => by rw [laws_FnExactCross.j0]) (ev_ifF (by simp) ?_))))
  refine Ev.bind (markSpotS r.2.1 1 (by omega) (by omega) (by omega)) (Ev.bind (heldSpotS 1 r.2.1.length (by omega) (by omega) (by omega)) (ev_ifF (by omega) (ev_ifT rfl ?_)))
  refine ev_bindS rfl (ev_bindS rfl (ev_bindS rfl (ev_bindS rfl (ev_bindS im (ev_ifT rfl (Ev.bind eq (ev_ifT rfl (Ev.step (fun k => by rw [laws_FnExactCross.j1]) (ev_ifF (by simp) ?_)))))))))
  exact Ev.bind (heldSpotS 1 r.2.1.length (by omega) (by omega) (by omega)) (ev_ifF (by omega) (ev_ifT rfl (Ev.now _)))
end Go.Proofs.Ytgnhcdchpeeoaaa.PC

/- Plain law: the law of Fits holds of whatever is drawn. Conditions: the printed statement's. -/
import Derived.OpenShut
import Derived.Test.YtkijhilmgljegaaQTT8
import Derived.Test.YtkijhilmgljegaaQTPureGreedyT
import Derived.Test.YtkijhilmgljegaaQTPureDrawT
set_option linter.unusedVariables false
set_option linter.unusedSectionVars false
namespace Go.Proofs.Ytkijhilmgljegaa.PT
open Go.RowKit Go.Proofs.YtkijhilmgljegaaW.PrintWords Go.Proofs.YtkijhilmgljegaaW.PrintLast Go.Proofs.YtkijhilmgljegaaW.PrintMore BlockedP
theorem told_mem (p : Nat → Bool) (n : Nat) (t : Int) : t ∈ told p n ↔ ∃ s : Nat, s < n ∧ p s = true ∧ t = s := by
  unfold told
  rw [List.mem_map]
  constructor
  · rintro ⟨s, hs, e⟩
    obtain ⟨h1, h2⟩ := List.mem_filter.1 hs
    exact ⟨s, List.mem_range.1 h1, h2, e.symm⟩
  · rintro ⟨s, h1, h2, e⟩
    exact ⟨s, List.mem_filter.2 ⟨List.mem_range.2 h1, h2⟩, e.symm⟩
theorem told_inc (p : Nat → Bool) (n : Nat) : (told p n).Pairwise (· < ·) := by
  unfold told
  rw [List.pairwise_map]
  exact (List.pairwise_lt_range.filter p).imp fun h => by omega
theorem rdB_set {U : List Bool} {x y : Int} (x0 : 0 ≤ x) (x1 : x < U.length) (y0 : 0 ≤ y) : rdOf false (U.set x.toNat true) y = if y = x then true else rdOf false U y := by
  unfold rdOf
  rw [set_getD _ _ _ _ (by omega)]
  by_cases e : y = x
  · rw [if_pos e, if_pos (by rw [e])]
  · rw [if_neg e, if_neg (by omega)]
section
variable (x y : List Int) (a b : Int) (r : List S37) (hf : fine x y a b) (hr : Fin x y a b r) (hx : Mx x y a b r)
structure Tl (x y : List Int) (a b : Int) (I F : List Int) : Prop where
  ilen : I.length ≤ 200
  flen : F.length ≤ 200
  ir : ∀ i : Nat, i < I.length → 0 ≤ rd I i ∧ rd I i < x.length
  fr : ∀ i : Nat, i < F.length → 0 ≤ rd F i ∧ rd F i < y.length
  ii : ∀ i : Nat, i + 1 < I.length → rd I i < rd I (i + 1 : Nat)
  fi : ∀ i : Nat, i + 1 < F.length → rd F i < rd F (i + 1 : Nat)
  fit : ∀ i : Nat, i < I.length → ∀ s : Nat, s < y.length → adI x y a b (rd I i) s → ∃ t : Nat, t < F.length ∧ rd F t = s
include hf in
theorem l3_ok (I F : List Int) (ht : Tl x y a b I F) (U : List Bool) (hU : U.length = y.length) (hUF : ∀ t : Nat, t < F.length → rdOf false U (rd F t) = true) (i : Nat) (hi : i < I.length)
    (ih : Ev (fun k => laws_FnFits.l2 k x y a b I U ((i + 1 : Nat) : Int)) true) :
    ∀ (m s : Nat), m = y.length - s → s ≤ y.length → Ev (fun k => laws_FnFits.l3 k x y a b I U (i : Int) (s : Int)) true
  | 0, s, hm, hs => by
    have := ht.ilen
    refine Ev.step (fun k => by rw [laws_FnFits.l3]) ?_
    refine ev_ifF (show ¬ (s : Int) < (y.length : Int) by omega) ?_
    rw [succ64 (i := i) (by omega)]; exact ih
  | m + 1, s, hm, hs => by
    have h2 := hf.2.1
    have hir := ht.ir i hi
    have go := l3_ok I F ht U hU hUF i hi ih m (s + 1) (by omega) (by omega)
    refine Ev.step (fun k => by rw [laws_FnFits.l3]) ?_
    refine ev_ifT (show (s : Int) < (y.length : Int) by omega) ?_
    refine ev_ifT (show (0 : Int) ≤ (i : Int) by omega) ?_
    refine ev_ifT (show (i : Int) < (I.length : Int) by omega) ?_
    refine ev_ifT hir.1 ?_
    refine ev_ifT hir.2 ?_
    refine ev_ifT (show (0 : Int) ≤ (s : Int) by omega) ?_
    rw [succ64 (i := s) (by omega)]
    by_cases c1 : wrap64 (rd x (rd I i) - rd y s) ≥ a
    · refine ev_ifT c1 ?_
      by_cases c2 : wrap64 (rd x (rd I i) - rd y s) ≤ b
      · refine ev_ifT c2 ?_
        refine ev_ifT (show (s : Int) < (U.length : Int) by omega) ?_
        obtain ⟨t, htl, e⟩ := ht.fit i hi s (by omega) ⟨c1, c2⟩
        exact ev_ifT (by rw [← e]; exact hUF t htl) go
      · exact ev_ifF c2 go
    · exact ev_ifF c1 go
include hf in
theorem l2_ok (I F : List Int) (ht : Tl x y a b I F) (U : List Bool) (hU : U.length = y.length) (hUF : ∀ t : Nat, t < F.length → rdOf false U (rd F t) = true) :
    ∀ (m i : Nat), m = I.length - i → i ≤ I.length → Ev (fun k => laws_FnFits.l2 k x y a b I U (i : Int)) true
  | 0, i, hm, hi => by
    refine Ev.step (fun k => by rw [laws_FnFits.l2]) ?_
    exact ev_ifF (show ¬ (i : Int) < (I.length : Int) by omega) (Ev.now _)
  | m + 1, i, hm, hi => by
    have hl := ht.ilen
    have hir := ht.ir i (by omega)
    have go : Ev (fun k => laws_FnFits.j6 k x y a b I U (i : Int) false) true := by
      refine Ev.step (fun k => by rw [laws_FnFits.j6]) ?_
      refine ev_ifF (by simp) ?_
      exact l3_ok x y a b hf I F ht U hU hUF i (by omega) (l2_ok I F ht U hU hUF m (i + 1) (by omega) (by omega)) y.length 0 (by omega) (Nat.zero_le _)
    refine Ev.step (fun k => by rw [laws_FnFits.l2]) ?_
    refine ev_ifT (show (i : Int) < (I.length : Int) by omega) ?_
    refine ev_ifT (show (0 : Int) ≤ (i : Int) by omega) ?_
    refine ev_ifF (show ¬ rd I (i : Int) < 0 by omega) ?_
    refine ev_ifF (show ¬ rd I (i : Int) ≥ (x.length : Int) by omega) ?_
    by_cases c : (i : Int) > 0
    · refine ev_ifT c ?_
      have hw : wrap64 ((i : Int) - 1) = ((i - 1 : Nat) : Int) := by rw [pw64 (by omega) (by omega)]; omega
      rw [hw]
      refine ev_ifT (show (0 : Int) ≤ ((i - 1 : Nat) : Int) by omega) ?_
      refine ev_ifT (show ((i - 1 : Nat) : Int) < (I.length : Int) by omega) ?_
      have := ht.ii (i - 1) (by omega)
      rw [show i - 1 + 1 = i by omega] at this
      rw [decide_eq_false (show ¬ rd I (i : Int) ≤ rd I ((i - 1 : Nat) : Int) by omega)]
      exact go
    · exact ev_ifF c go
include hf in
theorem l1_ok (I F : List Int) (ht : Tl x y a b I F) : ∀ (m j : Nat) (U : List Bool), m = F.length - j → j ≤ F.length → U.length = y.length → (∀ t : Nat, t < j → rdOf false U (rd F t) = true) →
    Ev (fun k => laws_FnFits.l1 k x y a b I F U (j : Int)) true
  | 0, j, U, hm, hj, hU, hUF => by
    refine Ev.step (fun k => by rw [laws_FnFits.l1]) ?_
    refine ev_ifF (show ¬ (j : Int) < (F.length : Int) by omega) ?_
    exact l2_ok x y a b hf I F ht U hU (fun t h => hUF t (by omega)) I.length 0 (by omega) (Nat.zero_le _)
  | m + 1, j, U, hm, hj, hU, hUF => by
    have hl := ht.flen
    have hfr := ht.fr j (by omega)
    have go := l1_ok I F ht m (j + 1) (U.set (rd F j).toNat true) (by omega) (by omega) (by rw [List.length_set]; exact hU) (fun t h => by
      have h3 := ht.fr t (by omega)
      rw [rdB_set hfr.1 (by omega) h3.1]
      by_cases e : t = j
      · subst e; rw [if_pos rfl]
      · split
        · rfl
        · exact hUF t (by omega))
    refine Ev.step (fun k => by rw [laws_FnFits.l1]) ?_
    refine ev_ifT (show (j : Int) < (F.length : Int) by omega) ?_
    refine ev_ifT (show (0 : Int) ≤ (j : Int) by omega) ?_
    refine ev_ifF (show ¬ rd F (j : Int) < 0 by omega) ?_
    refine ev_ifF (show ¬ rd F (j : Int) ≥ (y.length : Int) by omega) ?_
    rw [succ64 (i := j) (by omega)]
    by_cases c : (j : Int) > 0
    · refine ev_ifT c ?_
      have hw : wrap64 ((j : Int) - 1) = ((j - 1 : Nat) : Int) := by rw [pw64 (by omega) (by omega)]; omega
      rw [hw]
      refine ev_ifT (show (0 : Int) ≤ ((j - 1 : Nat) : Int) by omega) ?_
      refine ev_ifT (show ((j - 1 : Nat) : Int) < (F.length : Int) by omega) ?_
      have := ht.fi (j - 1) (by omega)
      rw [show j - 1 + 1 = j by omega] at this
      refine ev_ifF (show ¬ rd F (j : Int) ≤ rd F ((j - 1 : Nat) : Int) by omega) ?_
      refine ev_ifT hfr.1 ?_
      exact ev_ifT (show rd F (j : Int) < (U.length : Int) by omega) go
    · refine ev_ifF c ?_
      refine ev_ifT hfr.1 ?_
      exact ev_ifT (show rd F (j : Int) < (U.length : Int) by omega) go
include hf hr hx in
theorem tl_ok : Tl x y a b (aP x y a b (psN r)) (bP x y a b (psN r)) := by
  have h0 := hf.1
  have h1 := hf.2.1
  have hI := isP hr
  have rr : ∀ (p : Nat → Bool) (n i : Nat), i < (told p n).length → ∃ s : Nat, s < n ∧ p s = true ∧ rd (told p n) i = s := fun p n i hi => (told_mem p n _).1 (rd_memI _ i hi)
  have inc : ∀ (p : Nat → Bool) (n i : Nat), i + 1 < (told p n).length → rd (told p n) i < rd (told p n) (i + 1 : Nat) := fun p n i hi => by
    have := List.pairwise_iff_getElem.1 (told_inc p n) i (i + 1) (by omega) hi (by omega)
    rw [rd_get _ i (by omega), rd_get _ (i + 1) hi]; exact this
  unfold aP bP
  refine ⟨Nat.le_trans (told_len _ _) h0, Nat.le_trans (told_len _ _) h1, fun i hi => ?_, fun i hi => ?_, fun i hi => inc _ _ i hi, fun i hi => inc _ _ i hi, fun i hi s hs ha => ?_⟩
  · obtain ⟨s, h1, _, e⟩ := rr _ _ i hi; omega
  · obtain ⟨s, h1, _, e⟩ := rr _ _ i hi; omega
  · obtain ⟨h, h1, h2, e⟩ := rr _ _ i hi
    have hfit : fits x y a b (endP x y a b (psN r)) s = true := by
      rw [fits_iff hI.len]
      refine ⟨h, h1, h2, ?_⟩
      unfold adj gap
      rw [e] at ha
      unfold adI at ha
      rw [rd_nat, rd_nat] at ha
      exact ha
    have hm := (told_mem (fits x y a b (endP x y a b (psN r))) y.length s).2 ⟨s, hs, hfit, rfl⟩
    obtain ⟨t, htl, e2⟩ := List.getElem_of_mem hm
    exact ⟨t, htl, by rw [rd_get _ t htl]; exact e2⟩
include hf hr hx in
theorem l0_ok (e2 : Ev (fun k => impl_Matched.f k x y a b) (r, 0)) : ∀ (m i : Nat) (A B : List Bool), m = r.length - i → i ≤ r.length → A.length = x.length → B.length = y.length →
    (∀ t (h : t < r.length), i ≤ t → rdOf false A r[t].f0 = false) → (∀ t (h : t < r.length), i ≤ t → rdOf false B r[t].f1 = false) →
    Ev (fun k => laws_FnFits.l0 k x y a b r r A B (i : Int)) true
  | 0, i, A, B, hm, hi, hA, hB, hAf, hBf => by
    have h0 := hf.1
    have h1 := hf.2.1
    have hl := hr.len
    have ht := tl_ok x y a b r hf hr hx
    have hc := counted hf hr hx
    have eb : Ev (fun k => impl_Blocked.f k x y a b) (aP x y a b (psN r), bP x y a b (psN r), 0) := by
      unfold impl_Blocked.f
      refine Ev.bind e2 (ev_ifT rfl ?_)
      exact ev_ifT (okPs_true h0 h1 hr) (Ev.now _)
    refine Ev.step (fun k => by rw [laws_FnFits.l0]) ?_
    refine ev_ifF (show ¬ (i : Int) < (r.length : Int) by omega) ?_
    refine Ev.bind eb ?_
    refine ev_ifT rfl ?_
    dsimp only
    rw [hc, show (wrap64 ((x.length : Int) - (r.length : Int)) != wrap64 ((x.length : Int) - (r.length : Int))) = false by simp]
    refine Ev.step (fun k => by rw [laws_FnFits.j3]) ?_
    refine ev_ifF (by simp) ?_
    refine ev_ifT (show (0 : Int) ≤ (y.length : Int) by omega) ?_
    refine ev_ifT (by omega) ?_
    rw [Int.toNat_natCast]
    exact l1_ok x y a b hf _ _ ht (bP x y a b (psN r)).length 0 _ (by omega) (Nat.zero_le _) (by simp) (fun t h => by omega)
  | m + 1, i, A, B, hm, hi, hA, hB, hAf, hBf => by
    have h0 := hf.1
    have h1 := hf.2.1
    have hl := hr.len
    have hil : i < r.length := by omega
    have hrg := hr.rng r[i] (List.getElem_mem hil)
    have hgp := hr.gap r[i] (List.getElem_mem hil)
    have ha := hAf i hil (Nat.le_refl _)
    have hb := hBf i hil (Nat.le_refl _)
    have hh := hr.hole
    have hs := hr.shaft
    rw [List.nodup_iff_pairwise_ne, List.pairwise_map, List.pairwise_iff_getElem] at hh hs
    have go := l0_ok e2 m (i + 1) (A.set r[i].f0.toNat true) (B.set r[i].f1.toNat true) (by omega) (by omega) (by rw [List.length_set]; exact hA) (by rw [List.length_set]; exact hB)
      (fun t htl h => by
        have h3 := hr.rng r[t] (List.getElem_mem htl)
        rw [rdB_set hrg.1 (by omega) h3.1, if_neg (Ne.symm (hh i t hil htl (by omega)))]
        exact hAf t htl (by omega))
      (fun t htl h => by
        have h3 := hr.rng r[t] (List.getElem_mem htl)
        rw [rdB_set hrg.2.2.1 (by omega) h3.2.2.1, if_neg (Ne.symm (hs i t hil htl (by omega)))]
        exact hBf t htl (by omega))
    refine Ev.step (fun k => by rw [laws_FnFits.l0]) ?_
    refine ev_ifT (show (i : Int) < (r.length : Int) by omega) ?_
    refine ev_ifT (show (0 : Int) ≤ (i : Int) by omega) ?_
    rw [rdT_get r i hil]
    refine ev_ifF (show ¬ r[i].f0 < 0 by omega) ?_
    refine ev_ifF (show ¬ r[i].f0 ≥ (x.length : Int) by omega) ?_
    refine ev_ifF (show ¬ r[i].f1 < 0 by omega) ?_
    refine ev_ifF (show ¬ r[i].f1 ≥ (y.length : Int) by omega) ?_
    refine ev_ifT hrg.1 ?_
    refine ev_ifT (show r[i].f0 < (A.length : Int) by omega) ?_
    refine ev_ifF (show ¬ rdOf false A r[i].f0 = true by rw [ha]; simp) ?_
    refine ev_ifT hrg.2.2.1 ?_
    refine ev_ifT (show r[i].f1 < (B.length : Int) by omega) ?_
    refine ev_ifF (show ¬ rdOf false B r[i].f1 = true by rw [hb]; simp) ?_
    refine ev_ifT (show (i : Int) < (r.length : Int) by omega) ?_
    rw [show (!(r[i].f0 == r[i].f0) || (!(r[i].f1 == r[i].f1))) = false by simp]
    refine Ev.step (fun k => by rw [laws_FnFits.j2]) ?_
    refine ev_ifF (by simp) ?_
    refine ev_ifT hrg.1 ?_
    refine ev_ifT hrg.2.1 ?_
    refine ev_ifT hrg.2.2.1 ?_
    refine ev_ifT hrg.2.2.2 ?_
    refine ev_ifF (Int.not_lt.2 hgp.1) ?_
    refine ev_ifF (Int.not_lt.2 hgp.2) ?_
    refine ev_ifT (show r[i].f0 < (A.length : Int) by omega) ?_
    refine ev_ifT (show r[i].f1 < (B.length : Int) by omega) ?_
    rw [succ64 (i := i) (by omega)]
    exact go
end
theorem fits_law (l : List Int) (hl : l.length ≤ 140737488351232) (hb : ∀ x ∈ l, 0 ≤ x ∧ x ≤ 255) : Ev (fun k => laws_FnFits.f k l) true := by
  unfold laws_FnFits.f
  by_cases c0 : (l.length : Int) > 1048576
  · exact ev_ifT c0 (Ev.now _)
  refine ev_ifF c0 ?_
  obtain ⟨x, y, a, b, e, hf⟩ := matesOf_okD l hl hb
  obtain ⟨r, hr, hx, e1, e2⟩ := greedy x y a b hf
  have h0 := hf.1
  have h1 := hf.2.1
  refine Ev.bind e ?_
  dsimp only
  refine Ev.bind e2 ?_
  refine Ev.bind e1 ?_
  refine ev_ifT rfl ?_
  dsimp only
  rw [show ((r.length : Int) != (r.length : Int)) = false by simp]
  refine Ev.step (fun k => by rw [laws_FnFits.j0]) ?_
  refine ev_ifF (by simp) ?_
  refine ev_ifT (show (0 : Int) ≤ (x.length : Int) by omega) ?_
  refine ev_ifT (by omega) ?_
  refine ev_ifT (show (0 : Int) ≤ (y.length : Int) by omega) ?_
  refine ev_ifT (by omega) ?_
  rw [Int.toNat_natCast, Int.toNat_natCast]
  have rep : ∀ (n : Nat) (s : Int), rdOf false (List.replicate n false) s = false := fun n s => by
    unfold rdOf
    rw [List.getD_eq_getElem?_getD, List.getElem?_replicate]
    split <;> rfl
  exact l0_ok x y a b r hf hr hx e2 r.length 0 _ _ (by omega) (Nat.zero_le _) (by simp) (by simp) (fun t h _ => rep _ _) (fun t h _ => rep _ _)
end Go.Proofs.Ytkijhilmgljegaa.PT
namespace Go.Proofs.Ytkijhilmgljegaa.Pure
open Go.RowKit Go.Proofs.Ytkijhilmgljegaa.PT Go.Proofs.YtkijhilmgljegaaW.PrintWords Go.Proofs.YtkijhilmgljegaaW.PrintLast
theorem FnFits : laws_FnFits.Pure := by
  intro l0 _ h hw
  exact (fits_law l0 (by omega) fun x hx => bounds_u8 (hw x hx)).rounds
end Go.Proofs.Ytkijhilmgljegaa.Pure

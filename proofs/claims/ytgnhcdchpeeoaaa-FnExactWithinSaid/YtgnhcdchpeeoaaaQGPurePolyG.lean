/- A part of the proof that the law AllG answers true at every input. No conditions. -/
import Derived.Test.YtgnhcdchpeeoaaaQGPureCrossG
import Derived.Test.YtgnhcdchpeeoaaaQGG10
set_option linter.unusedVariables false
namespace Go.Proofs.Ytgnhcdchpeeoaaa.PG
open Go.RowKit Go.Proofs.YtgnhcdchpeeoaaaW.PrintWords Go.Proofs.YtgnhcdchpeeoaaaW.PrintLast Go.Proofs.YtgnhcdchpeeoaaaW.PrintMore Plane
theorem succ64 {i : Nat} (h : i < 9223372036854775807) : wrap64 ((i : Int) + 1) = ((i + 1 : Nat) : Int) := by rw [pw64 (by omega) (by omega)]; rfl
def pS (p : Int × Int) : S34 := ⟨p.1, p.2⟩
def qS (p : Int × Int) : S49 := ⟨p.1, p.2⟩
theorem rdP (l : List (Int × Int)) (i : Nat) (h : i < l.length) : rd_T34 (l.map pS) (i : Int) = pS (at0 l i) := by
  unfold rd_T34 at0; rw [Int.toNat_natCast, List.getD_eq_getElem?_getD, List.getElem?_map, List.getElem?_eq_getElem h]; simp [List.getElem?_eq_getElem h]
theorem rdQ (l : List (Int × Int)) (i : Nat) (h : i < l.length) : rd_T49 (l.map qS) (i : Int) = qS (at0 l i) := by
  unfold rd_T49 at0; rw [Int.toNat_natCast, List.getD_eq_getElem?_getD, List.getElem?_map, List.getElem?_eq_getElem h]; simp [List.getElem?_eq_getElem h]
theorem modI (i n : Nat) : Int.tmod (((i + 1 : Nat) : Int)) (n : Int) = (((i + 1) % n : Nat) : Int) := by
  rw [Int.tmod_eq_emod_of_nonneg (by omega), Int.natCast_emod]
theorem rowOf {W : World} {A : Option Addr} {l : List (Int × Int)} (h : ReadsRow (fun (x : Int × Int) cs => cs = [.int .i64 x.1, .int .i64 x.2]) 2 W A l.length l) : Kd.C k49 W A (l.map qS).length (l.map qS) := by
  rw [List.length_map]
  refine ⟨List.length_map _, h.2.1, fun hn => ?_⟩
  obtain ⟨ad, e, hc⟩ := h.2.2 hn
  refine ⟨ad, e, fun j p hp => ?_⟩
  rw [List.getElem?_map, Option.map_eq_some_iff] at hp
  obtain ⟨q, hq, rfl⟩ := hp
  obtain ⟨c, h1, rfl, h3⟩ := hc j q hq
  exact ⟨_, h1, k49_mk W (qS q), h3⟩
theorem toPoint_f (a b : Int) : laws_toPoint.f a b = some (a, b) := rfl
theorem toPointS_l0 (l : List (Int × Int)) (hl : l.length ≤ 17592186044416) : ∀ (m i : Nat) (x3 : List S34), x3.length = l.length → m = l.length - i → i ≤ l.length → x3.take i = (l.map pS).take i →
    Ev (fun k => laws_toPointS.l0 k (l.map qS) x3 (i : Int)) (l.map pS)
  | 0, i, x3, h3, hm, hi, ht => by
    refine Ev.step (fun k => by rw [laws_toPointS.l0]) (ev_ifF (by rw [List.length_map]; omega) ?_)
    have e : i = l.length := by omega
    have e2 : (l.map pS).length = l.length := List.length_map _
    rw [e, ← h3, List.take_length, h3, ← e2, List.take_length] at ht
    rw [ht]; exact Ev.now _
  | m + 1, i, x3, h3, hm, hi, ht => by
    refine Ev.step (fun k => by rw [laws_toPointS.l0]) (ev_ifT (by rw [List.length_map]; omega) (ev_ifT (by omega) (ev_bindS (toPoint_f _ _) ?_)))
    refine ev_ifT (by omega) ?_
    rw [succ64 (by omega), Int.toNat_natCast, rdQ l i (by omega)]
    refine toPointS_l0 l hl m (i + 1) _ (by simp [h3]) (by omega) (by omega) ?_
    rw [List.take_add_one, List.take_add_one, List.take_set_of_le (Nat.le_refl i), ht]
    congr 1
    rw [List.getElem?_set_self (by omega), List.getElem?_map, List.getElem?_eq_getElem (show i < l.length by omega)]
    unfold at0 qS pS; simp [List.getElem?_eq_getElem (show i < l.length by omega)]
theorem toPointS (l : List (Int × Int)) (h : l.length ≤ 17592186044416) : Ev (fun k => laws_toPointS.f k (l.map qS)) (l.map pS) := by
  unfold laws_toPointS.f
  refine ev_ifT (by omega) (ev_ifT (by rw [List.length_map]; omega) ?_)
  exact toPointS_l0 l h l.length 0 _ (by simp) (by omega) (by omega) (by simp)
theorem eqPoint_f (x : S34) : laws_eqPoint.f x.f0 x.f1 x.f0 x.f1 = some true := by simp [laws_eqPoint.f]
theorem eqPointS_l0 (x : List S34) (hl : x.length ≤ 35184372088832) : ∀ (m i : Nat), m = x.length - i → Ev (fun k => laws_eqPointS.l0 k x x (i : Int)) true
  | 0, i, hm => Ev.step (fun k => by rw [laws_eqPointS.l0]) (ev_ifF (by omega) (Ev.now _))
  | m + 1, i, hm => by
    refine Ev.step (fun k => by rw [laws_eqPointS.l0]) (ev_ifT (by omega) (ev_ifT (by omega) (ev_ifT (by omega) (ev_bindS (eqPoint_f _) (ev_ifT rfl ?_)))))
    rw [succ64 (by omega)]
    exact eqPointS_l0 x hl m (i + 1) (by omega)
theorem eqPointS (x : List S34) (hl : x.length ≤ 35184372088832) : Ev (fun k => laws_eqPointS.f k x x) true := by
  unfold laws_eqPointS.f; exact ev_ifT rfl (eqPointS_l0 x hl x.length 0 (by omega))
theorem okP_in {p : Int × Int} (h : okP p = true) : InP p := by unfold okP at h; have h' := of_decide_eq_true h; exact h'
theorem pointS_f (p : Int × Int) : spec_l03Point.f p.1 p.2 = some (okP p) := by
  unfold spec_l03Point.f okP InAt
  split
  · split
    · split
      · congr 1; rw [decide_eq_decide]; omega
      · congr 1; symm; rw [decide_eq_false_iff_not]; omega
    · congr 1; symm; rw [decide_eq_false_iff_not]; omega
  · congr 1; symm; rw [decide_eq_false_iff_not]; omega
theorem pointI_f (p : Int × Int) : impl_pointOK.f p.1 p.2 = some (okP p) := by
  unfold impl_pointOK.f okP InAt
  split
  · split
    · split
      · congr 1; rw [decide_eq_decide]; omega
      · congr 1; symm; rw [decide_eq_false_iff_not]; omega
    · congr 1; symm; rw [decide_eq_false_iff_not]; omega
  · congr 1; symm; rw [decide_eq_false_iff_not]; omega
theorem mem_takeN (l : List (Int × Int)) (i : Nat) (hi : i < l.length) (x : Int × Int) : x ∈ l.take i ↔ ∃ j, j < i ∧ at0 l j = x := by
  rw [List.mem_take_iff_getElem]
  constructor
  · rintro ⟨j, hj, e⟩
    refine ⟨j, by omega, ?_⟩
    unfold at0; rw [← List.getElem_eq_getD (h := by omega)]; exact e
  · rintro ⟨j, hj, e⟩
    refine ⟨j, by omega, ?_⟩
    unfold at0 at e; rw [← List.getElem_eq_getD (h := by omega)] at e; exact e
theorem twice_yes {l : List (Int × Int)} {i j : Nat} (hi : i < l.length) (hj : j < i) (e : at0 l j = at0 l i) : twice l i = true :=
  decide_eq_true ((mem_takeN l i hi _).2 ⟨j, hj, e⟩)
theorem twice_no {l : List (Int × Int)} {i : Nat} (hi : i < l.length) (h : ∀ j, j < i → at0 l j ≠ at0 l i) : twice l i = false :=
  decide_eq_false (fun hm => by obtain ⟨j, hj, e⟩ := (mem_takeN l i hi _).1 hm; exact h j hj e)
section
variable {l : List (Int × Int)} (hl : l.length ≤ 200) (hok : ∀ j, j < l.length → okP (at0 l j) = true) (h3 : ¬ l.length < 3)
include hl hok h3
theorem sp_l4 (htw : ∀ j, j < l.length → twice l j = false) {i : Nat} (hi : i < l.length) (hno : ∀ j, j < i → badRow l j = false)
    (next : badRow l i = false → Ev (fun k => spec_PolygonCode.l3 k (l.map pS) (l.length : Int) ((i + 1 : Nat) : Int)) (polyP l)) :
    ∀ (m j : Nat), m = l.length - j → j ≤ l.length → (∀ j', j' < j → badPair l i j' = false) → Ev (fun k => spec_PolygonCode.l4 k (l.map pS) (l.length : Int) (i : Int) (j : Int)) (polyP l)
  | 0, j, hm, hj, hb => by
    refine Ev.step (fun k => by rw [spec_PolygonCode.l4]) (ev_ifF (by omega) ?_)
    rw [succ64 (by omega)]
    exact next (badRow_no fun j' hj' => hb j' (by omega))
  | m + 1, j, hm, hj, hb => by
    have hjl : j < l.length := by omega
    have ih : badPair l i j = false → Ev (fun k => spec_PolygonCode.l4 k (l.map pS) (l.length : Int) (i : Int) ((j + 1 : Nat) : Int)) (polyP l) := fun h =>
      sp_l4 htw hi hno next m (j + 1) (by omega) (by omega) fun j' hj' => by
        by_cases e : j' = j
        · subst e; exact h
        · exact hb j' (by omega)
    refine Ev.step (fun k => by rw [spec_PolygonCode.l4]) (ev_ifT (by omega) ?_)
    by_cases hij : j = i
    · refine ev_ifT (by omega) ?_
      rw [succ64 (by omega)]
      exact ih (by unfold badPair; simp [hij])
    · refine ev_ifF (by omega) ?_
      have m1 := Nat.mod_lt (i + 1) (show 0 < l.length by omega)
      have m2 := Nat.mod_lt (j + 1) (show 0 < l.length by omega)
      rw [succ64 (i := i) (by omega), succ64 (i := j) (by omega), modI, modI, rdP l i hi, rdP l j hjl, rdP l _ m1, rdP l _ m2, List.length_map]
      have g : ∀ k, k < l.length → InP (at0 l k) := fun k hk => okP_in (hok k hk)
      refine ev_ifT (by omega) (ev_ifT (by omega) (ev_ifF (by omega) (ev_ifT (by omega) (ev_ifT (by omega) (ev_ifT (by omega) (ev_ifT (by omega) (ev_ifT (by omega) (ev_ifT (by omega) (Ev.bind (sCross_f (g i hi) (g _ m1) (g j hjl) (g _ m2)) ?_)))))))))
      have hbp : badPair l i j = (decide (i ≠ j) && (if nextTo l.length i j then decide (1 < (crossAt l i j).length) else decide (0 < (crossAt l i j).length))) := rfl
      have hd : decide (i ≠ j) = true := decide_eq_true (by omega)
      rw [hd, Bool.true_and] at hbp
      have hcr : crossAt l i j = crossP (at0 l i).1 (at0 l i).2 (at0 l ((i + 1) % l.length)).1 (at0 l ((i + 1) % l.length)).2 (at0 l j).1 (at0 l j).2 (at0 l ((j + 1) % l.length)).1 (at0 l ((j + 1) % l.length)).2 := rfl
      rw [← hcr]
      have fin : ∀ (c : Bool), nextTo l.length i j = c → Ev (fun k => spec_PolygonCode.j5 k (l.map pS) (l.length : Int) (i : Int) (j : Int) ((crossAt l i j).map tS) 0 c) (polyP l) := by
        intro c hc
        rw [hc] at hbp
        refine Ev.step (fun k => by rw [spec_PolygonCode.j5]) ?_
        rw [List.length_map, succ64 (i := j) (by omega)]
        cases c
        · refine ev_ifF (by decide) ?_
          by_cases hk : 0 < (crossAt l i j).length
          · refine ev_ifT (by omega) ?_
            rw [polyP_state hl hok h3 htw hi hno (badRow_yes hjl (by rw [hbp]; simpa using hk))]; exact Ev.now _
          · exact ev_ifF (by omega) (ih (by rw [hbp]; simpa using hk))
        · refine ev_ifT rfl ?_
          by_cases hk : 1 < (crossAt l i j).length
          · refine ev_ifT (by omega) ?_
            rw [polyP_state hl hok h3 htw hi hno (badRow_yes hjl (by rw [hbp]; simpa using hk))]; exact Ev.now _
          · exact ev_ifF (by omega) (ih (by rw [hbp]; simpa using hk))
      by_cases e1 : j = (i + 1) % l.length
      · exact ev_ifT (by omega) (fin true (decide_eq_true (.inl e1.symm)))
      · refine ev_ifF (by omega) (fin _ ?_)
        rw [Bool.eq_iff_iff, beq_iff_eq]
        unfold nextTo
        rw [decide_eq_true_eq]
        omega
theorem sp_l3 (htw : ∀ j, j < l.length → twice l j = false) : ∀ (m i : Nat), m = l.length - i → i ≤ l.length → (∀ j, j < i → badRow l j = false) → Ev (fun k => spec_PolygonCode.l3 k (l.map pS) (l.length : Int) (i : Int)) (polyP l)
  | 0, i, hm, hi, hno => by
    refine Ev.step (fun k => by rw [spec_PolygonCode.l3]) (ev_ifF (by omega) ?_)
    rw [polyP_fine hl hok h3 htw (fun j hj => hno j (by omega))]; exact Ev.now _
  | m + 1, i, hm, hi, hno => by
    refine Ev.step (fun k => by rw [spec_PolygonCode.l3]) (ev_ifT (by omega) ?_)
    refine sp_l4 hl hok h3 htw (by omega) hno (fun hb => ?_) l.length 0 (by omega) (by omega) (fun j' hj' => absurd hj' (by omega))
    exact sp_l3 htw m (i + 1) (by omega) (by omega) fun j hj => by
      by_cases e : j = i
      · subst e; exact hb
      · exact hno j (by omega)
theorem sp_l2 {i : Nat} (hi : i < l.length) (hno : ∀ j, j < i → twice l j = false) (next : twice l i = false → Ev (fun k => spec_PolygonCode.l1 k (l.map pS) (l.length : Int) ((i + 1 : Nat) : Int)) (polyP l)) :
    ∀ (m j : Nat), m = i - j → j ≤ i → (∀ j', j' < j → at0 l j' ≠ at0 l i) → Ev (fun k => spec_PolygonCode.l2 k (l.map pS) (l.length : Int) (i : Int) (j : Int)) (polyP l)
  | 0, j, hm, hj, hb => by
    refine Ev.step (fun k => by rw [spec_PolygonCode.l2]) (ev_ifF (by omega) ?_)
    rw [succ64 (by omega)]
    exact next (twice_no hi fun j' hj' => hb j' (by omega))
  | m + 1, j, hm, hj, hb => by
    refine Ev.step (fun k => by rw [spec_PolygonCode.l2]) (ev_ifT (by omega) (ev_ifT (by omega) (ev_ifT (by rw [List.length_map]; omega) (ev_ifT (by omega) (ev_ifT (by rw [List.length_map]; omega) ?_)))))
    rw [rdP l i hi, rdP l j (by omega), succ64 (i := j) (by omega)]
    by_cases e : at0 l j = at0 l i
    · refine ev_ifT ((pt_eq _ _).2 e) ?_
      rw [polyP_twice hl hok h3 hi hno (twice_yes hi (by omega) e)]; exact Ev.now _
    · refine ev_ifF (fun h => e ((pt_eq _ _).1 h)) ?_
      exact sp_l2 hi hno next m (j + 1) (by omega) (by omega) fun j' hj' => by
        by_cases e' : j' = j
        · subst e'; exact e
        · exact hb j' (by omega)
theorem sp_l1 : ∀ (m i : Nat), m = l.length - i → i ≤ l.length → (∀ j, j < i → twice l j = false) → Ev (fun k => spec_PolygonCode.l1 k (l.map pS) (l.length : Int) (i : Int)) (polyP l)
  | 0, i, hm, hi, hno => by
    refine Ev.step (fun k => by rw [spec_PolygonCode.l1]) (ev_ifF (by omega) ?_)
    exact sp_l3 hl hok h3 (fun j hj => hno j (by omega)) l.length 0 (by omega) (by omega) (fun j hj => absurd hj (by omega))
  | m + 1, i, hm, hi, hno => by
    refine Ev.step (fun k => by rw [spec_PolygonCode.l1]) (ev_ifT (by omega) ?_)
    refine sp_l2 hl hok h3 (by omega) hno (fun hb => ?_) i 0 (by omega) (by omega) (fun j' hj' => absurd hj' (by omega))
    exact sp_l1 m (i + 1) (by omega) (by omega) fun j hj => by
      by_cases e : j = i
      · subst e; exact hb
      · exact hno j (by omega)
end
theorem sp_l0 {l : List (Int × Int)} (hl : l.length ≤ 200) : ∀ (m i : Nat), m = l.length - i → i ≤ l.length → (∀ j, j < i → okP (at0 l j) = true) → Ev (fun k => spec_PolygonCode.l0 k (l.map pS) (l.length : Int) (i : Int)) (polyP l)
  | 0, i, hm, hi, hok => by
    refine Ev.step (fun k => by rw [spec_PolygonCode.l0]) (ev_ifF (by omega) ?_)
    have hok' : ∀ j, j < l.length → okP (at0 l j) = true := fun j hj => hok j (by omega)
    by_cases h3 : l.length < 3
    · refine ev_ifT (by omega) ?_
      rw [polyP_form hl hok' h3]; exact Ev.now _
    · refine ev_ifF (by omega) ?_
      exact sp_l1 hl hok' h3 l.length 0 (by omega) (by omega) (fun j hj => absurd hj (by omega))
  | m + 1, i, hm, hi, hok => by
    refine Ev.step (fun k => by rw [spec_PolygonCode.l0]) (ev_ifT (by omega) (ev_ifT (by omega) (ev_ifT (by rw [List.length_map]; omega) ?_)))
    rw [rdP l i (by omega), succ64 (by omega)]
    refine ev_bindS (pointS_f (at0 l i)) ?_
    cases hf : okP (at0 l i)
    · refine ev_ifF (by decide) ?_
      rw [polyP_bad hl (by omega) hok hf]; exact Ev.now _
    · refine ev_ifT rfl ?_
      exact sp_l0 hl m (i + 1) (by omega) (by omega) fun j hj => by
        by_cases e : j = i
        · subst e; exact hf
        · exact hok j (by omega)
theorem specPoly (l : List (Int × Int)) : Ev (fun k => spec_PolygonCode.f k (l.map pS)) (polyP l) := by
  unfold spec_PolygonCode.f
  rw [List.length_map]
  by_cases h1 : 4096 < l.length
  · refine ev_ifT (by omega) ?_
    have : polyP l = (2, 0) := by unfold polyP; rw [if_pos h1]
    rw [this]; exact Ev.now _
  · refine ev_ifF (by omega) ?_
    by_cases h2 : 200 < l.length
    · refine ev_ifT (by omega) ?_
      have : polyP l = (10, 0) := by unfold polyP; rw [if_neg h1, if_pos h2]
      rw [this]; exact Ev.now _
    · exact ev_ifF (by omega) (sp_l0 (by omega) l.length 0 (by omega) (by omega) (fun j hj => absurd hj (by omega)))
theorem implPoly (l : List (Int × Int)) : impl_PolygonCode.f (l.map pS) = some (polyP l) := by
  unfold impl_PolygonCode.f
  have : (l.map pS).map (fun s => (s.f0, s.f1)) = l := by rw [List.map_map]; exact List.map_id _
  rw [this]
theorem szPointS (l : List (Int × Int)) (h : l.length ≤ 9223372036854775807) : laws_szPointS.f (l.map qS) 1048576 = if 1048576 < l.length then some (-1) else some (1048576 - (l.length : Int)) := by
  unfold laws_szPointS.f
  rw [List.length_map, pw64 (by omega) (by omega)]
  by_cases h1 : 1048576 < l.length
  · rw [if_pos (by omega), if_pos h1]
  · rw [if_neg (by omega), if_neg h1]
theorem poly_all (l : List (Int × Int)) (hl : l.length ≤ 9223372036854775807) : Ev (fun k => laws_FnExactPolygonCode.f k (l.map qS)) true := by
  unfold laws_FnExactPolygonCode.f
  rw [szPointS l hl]
  by_cases h1 : 1048576 < l.length
  · rw [if_pos h1]; exact ev_bindS rfl (ev_ifT (by decide) (Ev.now _))
  rw [if_neg h1]
  have tp := toPointS l (by omega)
  refine ev_bindS rfl (ev_ifF (by omega) (Ev.bind tp (Ev.bind (specPoly l) (Ev.bind tp (ev_bindS (implPoly l) (ev_ifT rfl ?_))))))
  refine Ev.step (fun k => by rw [laws_FnExactPolygonCode.j0]) (ev_ifF (by simp) (Ev.bind tp (Ev.bind (eqPointS (l.map pS) (by rw [List.length_map]; omega)) (ev_ifT rfl (Ev.now _)))))
end Go.Proofs.Ytgnhcdchpeeoaaa.PG

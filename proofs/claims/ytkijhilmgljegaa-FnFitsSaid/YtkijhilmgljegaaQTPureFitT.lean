/- Plain: what Matched and its reference tell, and that they are one. No conditions. -/
import Derived.Test.YtkijhilmgljegaaQTT7
import Derived.Test.YtkijhilmgljegaaQTT6
import Derived.Test.YtkijhilmgljegaaQTT3
import Derived.Test.YtkijhilmgljegaaQTBySize
set_option linter.unusedVariables false
namespace Go.Proofs.Ytkijhilmgljegaa.PT
open Go.RowKit Go.Proofs.YtkijhilmgljegaaW.PrintWords Go.Proofs.YtkijhilmgljegaaW.PrintLast Go.Proofs.YtkijhilmgljegaaW.PrintMore
theorem ev_ifT {α : Type} {c : Prop} [Decidable c] {f g : Nat → Option α} {r : α} (h : c) (e : Ev f r) : Ev (fun k => if c then f k else g k) r :=
  e.congr fun k => if_pos h
theorem ev_ifF {α : Type} {c : Prop} [Decidable c] {f g : Nat → Option α} {r : α} (h : ¬ c) (e : Ev g r) : Ev (fun k => if c then f k else g k) r :=
  e.congr fun k => if_neg h
theorem ev_bindS {α β : Type} {f : Nat → α → Option β} {o : Option α} {a : α} {r : β} (h : o = some a) (k : Ev (fun n => f n a) r) : Ev (fun n => o.bind (f n)) r :=
  k.congr fun n => by rw [h]; rfl
theorem pw64 {x : Int} (h1 : -9223372036854775808 ≤ x) (h2 : x ≤ 9223372036854775807) : wrap64 x = x := by unfold wrap64; omega
theorem rd_get (xs : List Int) (i : Nat) (h : i < xs.length) : rd xs (i : Int) = xs[i] := by
  unfold rd; rw [Int.toNat_natCast, List.getD_eq_getElem?_getD, List.getElem?_eq_getElem h]; rfl
theorem succ64 {i : Nat} (h : i < 9223372036854775807) : wrap64 ((i : Int) + 1) = ((i + 1 : Nat) : Int) := by rw [pw64 (by omega) (by omega)]; rfl
theorem rdT_get (xs : List S37) (i : Nat) (h : i < xs.length) : rd_T37 xs (i : Int) = xs[i] := by
  unfold rd_T37; rw [Int.toNat_natCast, List.getD_eq_getElem?_getD, List.getElem?_eq_getElem h]; rfl
def okS (x : Int) : Bool := decide (0 ≤ x ∧ x ≤ 100000)
theorem okS_iff (x : Int) : okS x = true ↔ 0 ≤ x ∧ x ≤ 100000 := by simp [okS]
theorem size_f (x : Int) : spec_l07Size.f x = some (okS x) := by
  unfold spec_l07Size.f okS
  split
  · congr 1; rw [decide_eq_decide]; omega
  · congr 1; symm; rw [decide_eq_false_iff_not]; omega
theorem rd_memI (xs : List Int) (i : Nat) (h : i < xs.length) : rd xs (i : Int) ∈ xs := by rw [rd_get xs i h]; exact List.getElem_mem h
theorem sizes_l0 (x : List Int) (hl : x.length ≤ 200) : ∀ (m i : Nat), m = x.length - i → i ≤ x.length → Ev (fun k => spec_l08Sizes.l0 k x (i : Int)) ((x.drop i).all okS)
  | 0, i, hm, hi => by
    refine Ev.step (fun k => by rw [spec_l08Sizes.l0]) (ev_ifF (by omega) ?_)
    rw [List.drop_eq_nil_of_le (by omega)]; exact Ev.now true
  | m + 1, i, hm, hi => by
    refine Ev.step (fun k => by rw [spec_l08Sizes.l0]) (ev_ifT (by omega) (ev_ifT (by omega) (ev_bindS (size_f _) ?_)))
    rw [List.drop_eq_getElem_cons (show i < x.length by omega), rd_get x i (by omega), List.all_cons]
    cases h : okS x[i] with
    | true =>
      refine ev_ifT rfl ?_
      rw [succ64 (by omega), Bool.true_and]
      exact sizes_l0 x hl m (i + 1) (by omega) (by omega)
    | false => exact ev_ifF (by simp) (Ev.now false)
theorem sizes (x : List Int) : Ev (fun k => spec_l08Sizes.f k x) (decide (x.length ≤ 200) && x.all okS) := by
  unfold spec_l08Sizes.f
  by_cases h : (x.length : Int) > 200
  · refine ev_ifT h ?_
    rw [decide_eq_false (by omega)]; exact Ev.now false
  · refine ev_ifF h ?_
    have := sizes_l0 x (by omega) x.length 0 (by omega) (by omega)
    rw [List.drop_zero] at this
    rw [decide_eq_true (show x.length ≤ 200 by omega), Bool.true_and]; exact this
def fine (l0 l1 : List Int) (a b : Int) : Prop := l0.length ≤ 200 ∧ l1.length ≤ 200 ∧ l0.all okS = true ∧ l1.all okS = true ∧ -100000 ≤ a ∧ a ≤ 100000 ∧ -100000 ≤ b ∧ b ≤ 100000 ∧ a ≤ b
open Classical in
noncomputable def codeP (l0 l1 : List Int) (a b : Int) : Int := if 4096 < l0.length ∨ 4096 < l1.length then 2 else if fine l0 l1 a b then 0 else 1
theorem code_two {l0 l1 : List Int} {a b : Int} (h : 4096 < l0.length ∨ 4096 < l1.length) : codeP l0 l1 a b = 2 := if_pos h
theorem code_ok {l0 l1 : List Int} {a b : Int} (h : fine l0 l1 a b) : codeP l0 l1 a b = 0 := by
  unfold codeP; rw [if_neg (by have := h.1; have := h.2.1; omega), if_pos h]
theorem code_bad {l0 l1 : List Int} {a b : Int} (h0 : ¬ (4096 < l0.length ∨ 4096 < l1.length)) (h : ¬ fine l0 l1 a b) : codeP l0 l1 a b = 1 := by
  unfold codeP; rw [if_neg h0, if_neg h]
theorem spec_code_j (l0 l1 : List Int) (a b : Int) (h0 : ¬ (4096 < l0.length ∨ 4096 < l1.length)) : Ev (fun k => spec_l08Code.j0 k l0 l1 a b false) (codeP l0 l1 a b) := by
  refine Ev.step (fun k => by rw [spec_l08Code.j0]) (ev_ifF (by simp) ?_)
  refine Ev.bind (sizes l0) ?_
  by_cases s0' : (decide (l0.length ≤ 200) && l0.all okS) = true
  · refine ev_ifT s0' (Ev.bind (sizes l1) ?_)
    have s0 : l0.length ≤ 200 ∧ l0.all okS = true := by simpa [-List.all_eq_true] using s0'
    by_cases s1' : (decide (l1.length ≤ 200) && l1.all okS) = true
    · have s1 : l1.length ≤ 200 ∧ l1.all okS = true := by simpa [-List.all_eq_true] using s1'
      refine ev_ifT s1' ?_
      by_cases c1 : a < -100000
      · refine ev_ifT c1 ?_; rw [code_bad h0 (fun h => by unfold fine at h; omega)]; exact Ev.now _
      refine ev_ifF c1 ?_
      by_cases c2 : a > 100000
      · refine ev_ifT c2 ?_; rw [code_bad h0 (fun h => by unfold fine at h; omega)]; exact Ev.now _
      refine ev_ifF c2 ?_
      by_cases c3 : b < -100000
      · refine ev_ifT c3 ?_; rw [code_bad h0 (fun h => by unfold fine at h; omega)]; exact Ev.now _
      refine ev_ifF c3 ?_
      by_cases c4 : b > 100000
      · refine ev_ifT c4 ?_; rw [code_bad h0 (fun h => by unfold fine at h; omega)]; exact Ev.now _
      refine ev_ifF c4 ?_
      by_cases c5 : a > b
      · refine ev_ifT c5 ?_; rw [code_bad h0 (fun h => by unfold fine at h; omega)]; exact Ev.now _
      refine ev_ifF c5 ?_
      rw [code_ok ⟨s0.1, s1.1, s0.2, s1.2, by omega, by omega, by omega, by omega, by omega⟩]; exact Ev.now _
    · refine ev_ifF s1' ?_
      rw [code_bad h0 (fun h => s1' (by rw [decide_eq_true h.2.1, h.2.2.2.1]; rfl))]; exact Ev.now _
  · refine ev_ifF s0' ?_
    rw [code_bad h0 (fun h => s0' (by rw [decide_eq_true h.1, h.2.2.1]; rfl))]; exact Ev.now _
theorem spec_code (l0 l1 : List Int) (a b : Int) : Ev (fun k => spec_l08Code.f k l0 l1 a b) (codeP l0 l1 a b) := by
  unfold spec_l08Code.f
  by_cases h : (l0.length : Int) > 4096
  · refine ev_ifT h (Ev.step (fun k => by rw [spec_l08Code.j0]) (ev_ifT rfl ?_))
    rw [code_two (.inl (by omega))]; exact Ev.now _
  · refine ev_ifF h ?_
    by_cases h1 : (l1.length : Int) > 4096
    · rw [decide_eq_true h1]
      refine Ev.step (fun k => by rw [spec_l08Code.j0]) (ev_ifT rfl ?_)
      rw [code_two (.inr (by omega))]; exact Ev.now _
    · rw [decide_eq_false h1]
      exact spec_code_j l0 l1 a b (by omega)
theorem mates_l0 (x : List Int) (hl : x.length ≤ 400) : ∀ (m i : Nat), m = x.length - i → i ≤ x.length → Ev (fun k => impl_matesCode.l0 k x (x.length : Int) (i : Int)) (if (x.drop i).all okS = true then 0 else 1)
  | 0, i, hm, hi => by
    refine Ev.step (fun k => by rw [impl_matesCode.l0]) (ev_ifF (by omega) ?_)
    rw [List.drop_eq_nil_of_le (by omega), if_pos (by simp)]; exact Ev.now (0 : Int)
  | m + 1, i, hm, hi => by
    refine Ev.step (fun k => by rw [impl_matesCode.l0]) (ev_ifT (by omega) (ev_ifT (by omega) (ev_ifT (by omega) ?_)))
    rw [List.drop_eq_getElem_cons (show i < x.length by omega), rd_get x i (by omega), List.all_cons]
    by_cases c1 : x[i] < 0
    · refine ev_ifT c1 ?_
      have : okS x[i] = false := by rw [← Bool.not_eq_true, okS_iff]; omega
      rw [this, Bool.false_and, if_neg (by simp)]; exact Ev.now (1 : Int)
    refine ev_ifF c1 ?_
    by_cases c2 : x[i] > 100000
    · refine ev_ifT c2 ?_
      have : okS x[i] = false := by rw [← Bool.not_eq_true, okS_iff]; omega
      rw [this, Bool.false_and, if_neg (by simp)]; exact Ev.now (1 : Int)
    refine ev_ifF c2 ?_
    have h : okS x[i] = true := by rw [okS_iff]; omega
    rw [succ64 (by omega), h, Bool.true_and]
    exact mates_l0 x hl m (i + 1) (by omega) (by omega)
theorem impl_code (l0 l1 : List Int) (a b : Int) : Ev (fun k => impl_matesCode.f k l0 l1 a b) (codeP l0 l1 a b) := by
  unfold impl_matesCode.f
  by_cases h : (l0.length : Int) > 4096
  · refine ev_ifT h (Ev.step (fun k => by rw [impl_matesCode.j0]) (ev_ifT rfl ?_))
    rw [code_two (.inl (by omega))]; exact Ev.now _
  · refine ev_ifF h ?_
    by_cases h1 : (l1.length : Int) > 4096
    · rw [decide_eq_true h1]
      refine Ev.step (fun k => by rw [impl_matesCode.j0]) (ev_ifT rfl ?_)
      rw [code_two (.inr (by omega))]; exact Ev.now _
    · rw [decide_eq_false h1]
      have h0 : ¬ (4096 < l0.length ∨ 4096 < l1.length) := by omega
      have bad : ¬ fine l0 l1 a b → Ev (fun k => impl_matesCode.j1 k l0 l1 true) (codeP l0 l1 a b) := fun hb => by
        refine Ev.step (fun k => by rw [impl_matesCode.j1]) (ev_ifT rfl ?_)
        rw [code_bad h0 hb]; exact Ev.now _
      refine Ev.step (fun k => by rw [impl_matesCode.j0]) (ev_ifF (by simp) ?_)
      by_cases c0 : (l0.length : Int) > 200
      · exact ev_ifT c0 (bad (fun h => by unfold fine at h; omega))
      refine ev_ifF c0 ?_
      by_cases c00 : (l1.length : Int) > 200
      · exact ev_ifT c00 (bad (fun h => by unfold fine at h; omega))
      refine ev_ifF c00 ?_
      by_cases c1 : a < -100000
      · exact ev_ifT c1 (bad (fun h => by unfold fine at h; omega))
      refine ev_ifF c1 ?_
      by_cases c2 : a > 100000
      · exact ev_ifT c2 (bad (fun h => by unfold fine at h; omega))
      refine ev_ifF c2 ?_
      by_cases c3 : b < -100000
      · exact ev_ifT c3 (bad (fun h => by unfold fine at h; omega))
      refine ev_ifF c3 ?_
      by_cases c4 : b > 100000
      · exact ev_ifT c4 (bad (fun h => by unfold fine at h; omega))
      refine ev_ifF c4 ?_
      by_cases c5 : a > b
      · rw [decide_eq_true c5]; exact bad (fun h => by unfold fine at h; omega)
      rw [decide_eq_false c5]
      refine Ev.step (fun k => by rw [impl_matesCode.j1]) ?_
      refine ev_ifF (by simp) ?_
      refine ev_ifT (by simp; omega) ?_
      refine ev_bindS rfl ?_
      refine ev_ifT (by simp; omega) ?_
      refine ev_bindS rfl ?_
      rw [List.nil_append]
      have := mates_l0 (l0 ++ l1) (by simp; omega) (l0 ++ l1).length 0 (by omega) (by omega)
      rw [List.drop_zero, List.all_append] at this
      by_cases s : (l0.all okS && l1.all okS) = true
      · rw [if_pos s] at this
        have s' : l0.all okS = true ∧ l1.all okS = true := by simpa [-List.all_eq_true] using s
        rw [code_ok ⟨by omega, by omega, s'.1, s'.2, by omega, by omega, by omega, by omega, by omega⟩]
        exact this
      · rw [if_neg s] at this
        rw [code_bad h0 (fun h => s (by rw [h.2.2.1, h.2.2.2.1]; rfl))]
        exact this
def lexI (l : List Int) (a b : Int) : Prop := rd l a < rd l b ∨ (rd l a = rd l b ∧ a < b)
structure Good (l : List Int) (i : Nat) (out : List Int) : Prop where
  srt : out.Pairwise (lexI l)
  prm : out.Perm ((List.range i).map fun t : Nat => (t : Int))
theorem Good.len {l : List Int} {i : Nat} {out : List Int} (h : Good l i out) : out.length = i := by rw [h.prm.length_eq]; simp
theorem Good.mem {l : List Int} {i : Nat} {out : List Int} (h : Good l i out) {x : Int} (hx : x ∈ out) : 0 ≤ x ∧ x < i := by
  have := h.prm.mem_iff.1 hx
  simp at this
  obtain ⟨t, ht, rfl⟩ := this
  omega
theorem Good.uniq {l : List Int} {i : Nat} {a b : List Int} (ha : Good l i a) (hb : Good l i b) : a = b := by
  refine List.Perm.eq_of_pairwise (le := lexI l) ?_ ha.srt hb.srt (ha.prm.trans hb.prm.symm)
  intro x y _ _ h1 h2
  unfold lexI at h1 h2
  omega
theorem Good.ins {l : List Int} {i k : Nat} {out : List Int} (h : Good l i out) (hk : k ≤ out.length) (h1 : ∀ t, t < k → rd l (rd out t) ≤ rd l i) (h2 : ∀ t, k ≤ t → t < out.length → rd l i < rd l (rd out t)) : Good l (i + 1) (out.take k ++ [(i : Int)] ++ out.drop k) := by
  have hs := h.srt
  rw [← List.take_append_drop k out, List.pairwise_append] at hs
  have g1 : ∀ x ∈ out.take k, lexI l x i := fun x hx => by
    obtain ⟨t, ht, e⟩ := List.getElem_of_mem hx
    rw [List.length_take] at ht
    have e2 : x = rd out (t : Int) := by rw [rd_get out t (by omega), ← e]; simp
    have := h1 t (by omega)
    rw [← e2] at this
    have hm := h.mem (List.mem_of_mem_take hx)
    unfold lexI; omega
  have g2 : ∀ x ∈ out.drop k, lexI l i x := fun x hx => by
    obtain ⟨t, ht, e⟩ := List.getElem_of_mem hx
    rw [List.length_drop] at ht
    have e2 : x = rd out ((k + t : Nat) : Int) := by rw [rd_get out (k + t) (by omega), ← e]; simp
    have := h2 (k + t) (by omega) (by omega)
    rw [← e2] at this
    exact .inl this
  refine ⟨?_, ?_⟩
  · rw [List.append_assoc, List.pairwise_append]
    refine ⟨hs.1, ?_, ?_⟩
    · rw [List.singleton_append, List.pairwise_cons]; exact ⟨g2, hs.2.1⟩
    · intro x hx y hy
      rcases List.mem_cons.1 hy with rfl | hy
      · exact g1 x hx
      · exact hs.2.2 x hx y hy
  · rw [List.range_succ, List.map_append, List.append_assoc]
    refine List.perm_middle.trans ?_
    show ((i : Int) :: (out.take k ++ out.drop k)).Perm _
    rw [List.take_append_drop]
    refine List.Perm.trans (List.Perm.cons _ h.prm) ?_
    exact (List.perm_append_comm (l₁ := [(i : Int)])).trans (List.Perm.refl _)
theorem ord_l1 (l : List Int) (hl : l.length ≤ 200) (i : Nat) (hi : i < l.length) (out : List Int) (hg : Good l i out) (ih : ∀ out', Good l (i + 1) out' → ∃ r, Good l l.length r ∧ Ev (fun k => spec_l08Order.l0 k l out' ((i + 1 : Nat) : Int)) r) :
    ∀ (j : Nat), j ≤ out.length → (∀ t, j ≤ t → t < out.length → rd l i < rd l (rd out t)) → ∃ r, Good l l.length r ∧ Ev (fun k => spec_l08Order.l1 k l out (i : Int) (j : Int)) r := by
  have hol := hg.len
  have ins : ∀ j : Nat, j ≤ out.length → (∀ t, t < j → rd l (rd out t) ≤ rd l i) → (∀ t, j ≤ t → t < out.length → rd l i < rd l (rd out t)) → ∃ r, Good l l.length r ∧
      Ev (fun k => (some (([] : List Int) : List Int)).bind fun y111 => (if 0 ≤ (j : Int) then (if (j : Int) ≤ (out.length : Int) then ((some (out.drop ((j : Int) : Int).toNat : List Int)).bind fun y114 => (if y111.length + y114.length < 17592186044416 then ((some (y111 ++ y114 : List Int)).bind fun y118 => ((some (out.take ((j : Int) : Int).toNat : List Int)).bind fun y121 => (if y121.length < 17592186044416 then ((some (y121 ++ [(i : Int)] : List Int)).bind fun y124 => (if y124.length + y118.length < 17592186044416 then (spec_l08Order.l0 k l (y124 ++ y118) (wrap64 ((i : Int) + 1))) else (none))) else (none)))) else (none))) else (none)) else (none))) r := fun j hj h1 h2 => by
    obtain ⟨r, hr, he⟩ := ih _ (hg.ins hj h1 h2)
    refine ⟨r, hr, ?_⟩
    refine ev_bindS rfl (ev_ifT (by omega) (ev_ifT (by omega) (ev_bindS rfl (ev_ifT (by simp; omega) (ev_bindS rfl (ev_bindS rfl (ev_ifT (by simp; omega) (ev_bindS rfl (ev_ifT (by simp; omega) ?_)))))))))
    rw [succ64 (by omega), Int.toNat_natCast, List.nil_append]
    exact he
  intro j
  induction j with
  | zero =>
    intro hj h2
    obtain ⟨r, hr, he⟩ := ins 0 (Nat.zero_le _) (fun t ht => by omega) h2
    exact ⟨r, hr, Ev.step (fun k => by rw [spec_l08Order.l1]) (ev_ifF (by simp) he)⟩
  | succ j ihj =>
    intro hj h2
    have hw : wrap64 (((j + 1 : Nat) : Int) - 1) = (j : Int) := by rw [pw64 (by omega) (by omega)]; omega
    have hm := hg.mem (rd_memI out j (by omega))
    by_cases c : rd l i < rd l (rd out j)
    · obtain ⟨r, hr, he⟩ := ihj (by omega) (fun t t1 t2 => by
        by_cases e : t = j
        · rw [e]; exact c
        · exact h2 t (by omega) t2)
      refine ⟨r, hr, Ev.step (fun k => by rw [spec_l08Order.l1, hw]) (ev_ifT (by omega) (ev_ifT (by omega) (ev_ifT (by omega) (ev_ifT (by omega) (ev_ifT (by omega) (ev_ifT hm.1 (ev_ifT (by omega) (ev_ifT c he))))))))⟩
    · obtain ⟨r, hr, he⟩ := ins (j + 1) hj (fun t ht => by
        by_cases e : t = j
        · rw [e]; omega
        · have hp := List.pairwise_iff_getElem.1 hg.srt t j (by omega) (by omega) (by omega)
          rw [← rd_get out t (by omega), ← rd_get out j (by omega)] at hp
          unfold lexI at hp; omega) h2
      refine ⟨r, hr, Ev.step (fun k => by rw [spec_l08Order.l1, hw]) (ev_ifT (by omega) (ev_ifT (by omega) (ev_ifT (by omega) (ev_ifT (by omega) (ev_ifT (by omega) (ev_ifT hm.1 (ev_ifT (by omega) (ev_ifF c he))))))))⟩
theorem ord_l0 (l : List Int) (hl : l.length ≤ 200) : ∀ (m i : Nat) (out : List Int), m = l.length - i → i ≤ l.length → Good l i out → ∃ r, Good l l.length r ∧ Ev (fun k => spec_l08Order.l0 k l out (i : Int)) r
  | 0, i, out, hm, hi, hg => by
    obtain rfl : i = l.length := by omega
    exact ⟨out, hg, Ev.step (fun k => by rw [spec_l08Order.l0]) (ev_ifF (by omega) (Ev.now _))⟩
  | m + 1, i, out, hm, hi, hg => by
    obtain ⟨r, hr, he⟩ := ord_l1 l hl i (by omega) out hg (fun out' h => ord_l0 l hl m (i + 1) out' (by omega) (by omega) h) out.length (Nat.le_refl _) (fun t t1 t2 => by omega)
    exact ⟨r, hr, Ev.step (fun k => by rw [spec_l08Order.l0]) (ev_ifT (by omega) he)⟩
def tlK (l : List Int) (x y : Nat) : Bool := decide (BySize.key l x < BySize.key l y ∨ (BySize.key l x = BySize.key l y ∧ x % l.length < y % l.length))
theorem swo_tlK (l : List Int) : Sort.SWO (tlK l) where
  irrefl x := by simp [tlK]
  trans x y z h1 h2 := by simp only [tlK, decide_eq_true_eq] at *; omega
  ntrans x y z h1 h2 := by simp only [tlK, decide_eq_false_iff_not] at *; omega
theorem bySize_good (l : List Int) : Good l l.length (BySize.bySizeP l) := by
  have hz : (Array.range l.length).size = l.length := by simp
  obtain ⟨hP, hS⟩ := Sym.stable_spec (lt := BySize.ltK l) (tl := tlK l) (swo_tlK l) (Array.range l.length) (fun i j hij hj => by
    rw [hz] at hj
    have e1 : (Array.range l.length)[j]! = j := by simp [hj]
    have e2 : (Array.range l.length)[i]! = i := by simp [show i < l.length by omega]
    rw [e1, e2]
    unfold tlK BySize.ltK
    rw [decide_eq_decide, Nat.mod_eq_of_lt hj, Nat.mod_eq_of_lt (show i < l.length by omega)]
    omega)
  rw [hz] at hP hS
  have hsz : (Sym.stable (BySize.ltK l) (Array.range l.length)).size = l.length := by rw [hP.1, hz]
  have hp := hP.2.2
  have hdef : BySize.bySizeP l = (Sym.stable (BySize.ltK l) (Array.range l.length)).toList.map (BySize.num l) := rfl
  generalize Sym.stable (BySize.ltK l) (Array.range l.length) = d at *
  have e1 : d.extract 0 l.length = d := by rw [← hsz]; exact Array.extract_size
  have e2 : (Array.range l.length).extract 0 l.length = Array.range l.length := by
    have := Array.extract_size (xs := Array.range l.length)
    rw [hz] at this; exact this
  rw [e1, e2, Array.toList_range] at hp
  rw [hdef]
  have hlt : ∀ x ∈ d.toList, x < l.length := fun x hx => by have := hp.mem_iff.1 hx; simpa using this
  have hnum : ∀ x ∈ d.toList, BySize.num l x = (x : Int) := fun x hx => by unfold BySize.num; rw [Nat.mod_eq_of_lt (hlt x hx)]
  have hm : d.toList.map (BySize.num l) = d.toList.map fun x : Nat => (x : Int) := List.map_congr_left hnum
  rw [hm]
  refine ⟨?_, hp.map _⟩
  rw [List.pairwise_map, List.pairwise_iff_getElem]
  intro i j hi hj hij
  have hi' : i < d.size := by simpa using hi
  have hj' : j < d.size := by simpa using hj
  have h1 := hS i j (Nat.zero_le _) hij (by omega)
  rw [getElem!_pos d j hj', getElem!_pos d i hi'] at h1
  have xi := hlt d[i] (by simp)
  have xj := hlt d[j] (by simp)
  unfold tlK at h1
  rw [decide_eq_false_iff_not, Nat.mod_eq_of_lt xi, Nat.mod_eq_of_lt xj] at h1
  unfold BySize.key at h1
  rw [Nat.mod_eq_of_lt xi, Nat.mod_eq_of_lt xj] at h1
  have hne : d[i] ≠ d[j] := by
    have nd : d.toList.Nodup := hp.nodup_iff.2 List.nodup_range
    have := List.pairwise_iff_getElem.1 nd i j hi hj hij
    simpa using this
  show lexI l ((d.toList[i] : Nat) : Int) ((d.toList[j] : Nat) : Int)
  unfold lexI
  simp only [Array.getElem_toList]
  unfold rd
  simp only [Int.toNat_natCast]
  omega
theorem order_f (l : List Int) (hl : l.length ≤ 200) : Ev (fun k => spec_l08Order.f k l) (BySize.bySizeP l) := by
  obtain ⟨r, hr, he⟩ := ord_l0 l hl l.length 0 [] (by omega) (Nat.zero_le _) ⟨List.Pairwise.nil, by simp⟩
  rw [hr.uniq (bySize_good l)] at he
  unfold spec_l08Order.f
  exact he
structure Fin (l0 l1 : List Int) (a b : Int) (r : List S37) : Prop where
  rng : ∀ p ∈ r, 0 ≤ p.f0 ∧ p.f0 < l0.length ∧ 0 ≤ p.f1 ∧ p.f1 < l1.length
  hole : (r.map fun p => p.f0).Nodup
  shaft : (r.map fun p => p.f1).Nodup
  gap : ∀ p ∈ r, a ≤ wrap64 (rd l0 p.f0 - rd l1 p.f1) ∧ wrap64 (rd l0 p.f0 - rd l1 p.f1) ≤ b
  len : r.length ≤ 200
structure Way (l0 l1 A : List Int) (a b : Int) (i : Nat) (used : List Bool) (r : List S37) : Prop where
  ul : used.length = l1.length
  len : r.length ≤ i
  rng : ∀ p ∈ r, 0 ≤ p.f0 ∧ p.f0 < l0.length ∧ 0 ≤ p.f1 ∧ p.f1 < l1.length
  hole : (r.map fun p => p.f0).Nodup
  shaft : (r.map fun p => p.f1).Nodup
  gap : ∀ p ∈ r, a ≤ wrap64 (rd l0 p.f0 - rd l1 p.f1) ∧ wrap64 (rd l0 p.f0 - rd l1 p.f1) ≤ b
  seen : ∀ p ∈ r, ∃ t : Nat, t < i ∧ p.f0 = rd A t
  use : ∀ p ∈ r, rdOf false used p.f1 = true
theorem Way.next {l0 l1 A : List Int} {a b : Int} {i : Nat} {used : List Bool} {r : List S37} (h : Way l0 l1 A a b i used r) : Way l0 l1 A a b (i + 1) used r :=
  ⟨h.ul, Nat.le_succ_of_le h.len, h.rng, h.hole, h.shaft, h.gap, fun p hp => by obtain ⟨t, ht, e⟩ := h.seen p hp; exact ⟨t, by omega, e⟩, h.use⟩
theorem Good.nodup {l : List Int} {i : Nat} {out : List Int} (h : Good l i out) : out.Nodup := by
  refine h.prm.nodup_iff.2 ?_
  rw [List.nodup_iff_pairwise_ne, List.pairwise_map]
  exact List.nodup_range.imp fun hne e => hne (by omega)
theorem Way.put {l0 l1 A : List Int} {a b : Int} {i : Nat} {used : List Bool} {r : List S37} (h : Way l0 l1 A a b i used r) (hA : Good l0 l0.length A) (hi : i < A.length) (s : Int) (s0 : 0 ≤ s) (s1 : s < l1.length) (hu : ¬ rdOf false used s = true)
    (ga : wrap64 (rd l0 (rd A i) - rd l1 s) ≥ a) (gb : wrap64 (rd l0 (rd A i) - rd l1 s) ≤ b) : Way l0 l1 A a b (i + 1) (used.set s.toNat true) (r ++ [⟨rd A i, s⟩]) := by
  have ma := hA.mem (rd_memI A i hi)
  have hul := h.ul
  refine ⟨by simpa using hul, by have := h.len; simp; omega, ?_, ?_, ?_, ?_, ?_, ?_⟩
  · intro p hp
    rcases List.mem_append.1 hp with hp | hp
    · exact h.rng p hp
    · rw [List.mem_singleton.1 hp]; exact ⟨ma.1, ma.2, s0, s1⟩
  · rw [List.map_append, List.nodup_append]
    refine ⟨h.hole, by simp, ?_⟩
    intro x hx y hy
    obtain ⟨p, hp, rfl⟩ := List.mem_map.1 hx
    obtain ⟨t, ht, e⟩ := h.seen p hp
    simp only [List.map_cons, List.map_nil, List.mem_singleton] at hy
    rw [hy, e, rd_get A t (by omega), rd_get A i hi]
    exact List.pairwise_iff_getElem.1 hA.nodup t i (by omega) hi ht
  · rw [List.map_append, List.nodup_append]
    refine ⟨h.shaft, by simp, ?_⟩
    intro x hx y hy
    obtain ⟨p, hp, rfl⟩ := List.mem_map.1 hx
    simp only [List.map_cons, List.map_nil, List.mem_singleton] at hy
    rw [hy]
    intro e
    exact hu (e ▸ h.use p hp)
  · intro p hp
    rcases List.mem_append.1 hp with hp | hp
    · exact h.gap p hp
    · rw [List.mem_singleton.1 hp]; exact ⟨ga, gb⟩
  · intro p hp
    rcases List.mem_append.1 hp with hp | hp
    · obtain ⟨t, ht, e⟩ := h.seen p hp; exact ⟨t, by omega, e⟩
    · rw [List.mem_singleton.1 hp]; exact ⟨i, by omega, rfl⟩
  · intro p hp
    have gs : ∀ x : Int, 0 ≤ x → x < l1.length → (x = s ∨ rdOf false used x = true) → rdOf false (used.set s.toNat true) x = true := fun x x0 x1 hx => by
      unfold rdOf
      rw [List.getD_eq_getElem?_getD]
      by_cases e : x = s
      · subst e; rw [List.getElem?_set_self (by omega)]; rfl
      · rw [List.getElem?_set_ne (by omega), ← List.getD_eq_getElem?_getD]
        rcases hx with hx | hx
        · exact absurd hx e
        · exact hx
    rcases List.mem_append.1 hp with hp | hp
    · exact gs _ (h.rng p hp).2.2.1 (h.rng p hp).2.2.2 (.inr (h.use p hp))
    · rw [List.mem_singleton.1 hp]; exact gs s s0 s1 (.inl rfl)
section
variable (l0 l1 A B : List Int) (a b : Int) (h0 : l0.length ≤ 200) (h1 : l1.length ≤ 200) (hA : Good l0 l0.length A) (hB : Good l1 l1.length B)
include h0 h1 hA hB
theorem both_l1 (i : Nat) (hi : i < A.length) (used : List Bool) (out : List S37) (hw : Way l0 l1 A a b i used out)
    (ih : ∀ used' (out' : List S37), Way l0 l1 A a b (i + 1) used' out' → ∃ r : List S37, Fin l0 l1 a b r ∧ Ev (fun k => spec_Matched.l0 k l0 l1 a b A B used' out' ((i + 1 : Nat) : Int)) (r, 0) ∧ Ev (fun k => impl_Matched.l0 k l0 l1 a b used' out' B A (A.length : Int) ((i + 1 : Nat) : Int)) (r, 0)) :
    ∀ (m j : Nat), m = B.length - j → j ≤ B.length → ∃ r : List S37, Fin l0 l1 a b r ∧ Ev (fun k => spec_Matched.l1 k l0 l1 a b A B used out (i : Int) (j : Int)) (r, 0) ∧
      Ev (fun k => impl_Matched.l1 k l0 l1 a b used out B (rd A i) A (A.length : Int) (i : Int) B (B.length : Int) (j : Int)) (r, 0)
  | 0, j, hm, hj => by
    obtain ⟨r, hr, e1, e2⟩ := ih used out hw.next
    have hAl := hA.len
    refine ⟨r, hr, Ev.step (fun k => by rw [spec_Matched.l1]) (ev_ifF (by omega) ?_), Ev.step (fun k => by rw [impl_Matched.l1]) (ev_ifF (by omega) ?_)⟩
    · rw [succ64 (by omega)]; exact e1
    · rw [succ64 (by omega)]; exact e2
  | m + 1, j, hm, hj => by
    have hAl := hA.len
    have hBl := hB.len
    obtain ⟨r, hr, e1, e2⟩ := both_l1 i hi used out hw ih m (j + 1) (by omega) (by omega)
    have hu := hw.ul
    have ho := hw.len
    have ma := hA.mem (rd_memI A i hi)
    have mb := hB.mem (rd_memI B j (by omega))
    by_cases c1 : rdOf false used (rd B j) = true
    · refine ⟨r, hr, Ev.step (fun k => by rw [spec_Matched.l1]) ?_, Ev.step (fun k => by rw [impl_Matched.l1]) ?_⟩
      · refine ev_ifT (show (j : Int) < (B.length : Int) by omega) ?_
        refine ev_ifT (show (0 : Int) ≤ (i : Int) by omega) ?_
        refine ev_ifT (show (i : Int) < (A.length : Int) by omega) ?_
        refine ev_ifT ma.1 ?_
        refine ev_ifT ma.2 ?_
        refine ev_ifT (show (0 : Int) ≤ (j : Int) by omega) ?_
        refine ev_ifT mb.1 ?_
        refine ev_ifT mb.2 ?_
        refine ev_ifT (show rd B j < (used.length : Int) by omega) ?_
        refine ev_ifT c1 ?_
        rw [succ64 (i := j) (by omega)]; exact e1
      · refine ev_ifT (show (j : Int) < (B.length : Int) by omega) ?_
        refine ev_ifT (show (0 : Int) ≤ (j : Int) by omega) ?_
        refine ev_ifT (show (j : Int) < (B.length : Int) by omega) ?_
        refine ev_ifT ma.1 ?_
        refine ev_ifT ma.2 ?_
        refine ev_ifT mb.1 ?_
        refine ev_ifT mb.2 ?_
        refine ev_ifT (show rd B j < (used.length : Int) by omega) ?_
        refine ev_ifT c1 ?_
        rw [succ64 (i := j) (by omega)]; exact e2
    by_cases c2 : wrap64 ((rd l0 (rd A i)) - (rd l1 (rd B j))) ≥ a
    · by_cases c3 : wrap64 ((rd l0 (rd A i)) - (rd l1 (rd B j))) ≤ b
      · obtain ⟨r, hr, e1, e2⟩ := ih (used.set (rd B j).toNat true) (out ++ [⟨rd A i, rd B j⟩]) (hw.put hA hi _ mb.1 mb.2 c1 c2 c3)
        refine ⟨r, hr, Ev.step (fun k => by rw [spec_Matched.l1]) ?_, Ev.step (fun k => by rw [impl_Matched.l1]) ?_⟩
        · refine ev_ifT (show (j : Int) < (B.length : Int) by omega) ?_
          refine ev_ifT (show (0 : Int) ≤ (i : Int) by omega) ?_
          refine ev_ifT (show (i : Int) < (A.length : Int) by omega) ?_
          refine ev_ifT ma.1 ?_
          refine ev_ifT ma.2 ?_
          refine ev_ifT (show (0 : Int) ≤ (j : Int) by omega) ?_
          refine ev_ifT mb.1 ?_
          refine ev_ifT mb.2 ?_
          refine ev_ifT (show rd B j < (used.length : Int) by omega) ?_
          refine ev_ifF c1 ?_
          refine ev_ifT c2 ?_
          refine ev_ifT c3 ?_
          refine ev_ifT (by omega) ?_
          rw [succ64 (i := i) (by omega)]; exact e1
        · refine ev_ifT (show (j : Int) < (B.length : Int) by omega) ?_
          refine ev_ifT (show (0 : Int) ≤ (j : Int) by omega) ?_
          refine ev_ifT (show (j : Int) < (B.length : Int) by omega) ?_
          refine ev_ifT ma.1 ?_
          refine ev_ifT ma.2 ?_
          refine ev_ifT mb.1 ?_
          refine ev_ifT mb.2 ?_
          refine ev_ifT (show rd B j < (used.length : Int) by omega) ?_
          refine ev_ifF c1 ?_
          refine ev_ifT c2 ?_
          refine ev_ifT c3 ?_
          refine ev_ifT (by omega) ?_
          rw [succ64 (i := i) (by omega)]; exact e2
      · refine ⟨r, hr, Ev.step (fun k => by rw [spec_Matched.l1]) ?_, Ev.step (fun k => by rw [impl_Matched.l1]) ?_⟩
        · refine ev_ifT (show (j : Int) < (B.length : Int) by omega) ?_
          refine ev_ifT (show (0 : Int) ≤ (i : Int) by omega) ?_
          refine ev_ifT (show (i : Int) < (A.length : Int) by omega) ?_
          refine ev_ifT ma.1 ?_
          refine ev_ifT ma.2 ?_
          refine ev_ifT (show (0 : Int) ≤ (j : Int) by omega) ?_
          refine ev_ifT mb.1 ?_
          refine ev_ifT mb.2 ?_
          refine ev_ifT (show rd B j < (used.length : Int) by omega) ?_
          refine ev_ifF c1 ?_
          refine ev_ifT c2 ?_
          refine ev_ifF c3 ?_
          rw [succ64 (i := j) (by omega)]; exact e1
        · refine ev_ifT (show (j : Int) < (B.length : Int) by omega) ?_
          refine ev_ifT (show (0 : Int) ≤ (j : Int) by omega) ?_
          refine ev_ifT (show (j : Int) < (B.length : Int) by omega) ?_
          refine ev_ifT ma.1 ?_
          refine ev_ifT ma.2 ?_
          refine ev_ifT mb.1 ?_
          refine ev_ifT mb.2 ?_
          refine ev_ifT (show rd B j < (used.length : Int) by omega) ?_
          refine ev_ifF c1 ?_
          refine ev_ifT c2 ?_
          refine ev_ifF c3 ?_
          rw [succ64 (i := j) (by omega)]; exact e2
    · refine ⟨r, hr, Ev.step (fun k => by rw [spec_Matched.l1]) ?_, Ev.step (fun k => by rw [impl_Matched.l1]) ?_⟩
      · refine ev_ifT (show (j : Int) < (B.length : Int) by omega) ?_
        refine ev_ifT (show (0 : Int) ≤ (i : Int) by omega) ?_
        refine ev_ifT (show (i : Int) < (A.length : Int) by omega) ?_
        refine ev_ifT ma.1 ?_
        refine ev_ifT ma.2 ?_
        refine ev_ifT (show (0 : Int) ≤ (j : Int) by omega) ?_
        refine ev_ifT mb.1 ?_
        refine ev_ifT mb.2 ?_
        refine ev_ifT (show rd B j < (used.length : Int) by omega) ?_
        refine ev_ifF c1 ?_
        refine ev_ifF c2 ?_
        rw [succ64 (i := j) (by omega)]; exact e1
      · refine ev_ifT (show (j : Int) < (B.length : Int) by omega) ?_
        refine ev_ifT (show (0 : Int) ≤ (j : Int) by omega) ?_
        refine ev_ifT (show (j : Int) < (B.length : Int) by omega) ?_
        refine ev_ifT ma.1 ?_
        refine ev_ifT ma.2 ?_
        refine ev_ifT mb.1 ?_
        refine ev_ifT mb.2 ?_
        refine ev_ifT (show rd B j < (used.length : Int) by omega) ?_
        refine ev_ifF c1 ?_
        refine ev_ifF c2 ?_
        rw [succ64 (i := j) (by omega)]; exact e2
theorem both_l0 : ∀ (m i : Nat) (used : List Bool) (out : List S37), m = A.length - i → i ≤ A.length → Way l0 l1 A a b i used out → ∃ r : List S37, Fin l0 l1 a b r ∧ Ev (fun k => spec_Matched.l0 k l0 l1 a b A B used out (i : Int)) (r, 0) ∧
      Ev (fun k => impl_Matched.l0 k l0 l1 a b used out B A (A.length : Int) (i : Int)) (r, 0)
  | 0, i, used, out, hm, hi, hw => by
    have hAl := hA.len
    exact ⟨out, ⟨hw.rng, hw.hole, hw.shaft, hw.gap, by have := hw.len; omega⟩, Ev.step (fun k => by rw [spec_Matched.l0]) (ev_ifF (by omega) (Ev.now _)), Ev.step (fun k => by rw [impl_Matched.l0]) (ev_ifF (by omega) (Ev.now _))⟩
  | m + 1, i, used, out, hm, hi, hw => by
    obtain ⟨r, hr, e1, e2⟩ := both_l1 l0 l1 A B a b h0 h1 hA hB i (by omega) used out hw (fun used' out' hw' => both_l0 m (i + 1) used' out' (by omega) (by omega) hw') B.length 0 (by omega) (Nat.zero_le _)
    rw [show ((0 : Nat) : Int) = 0 from rfl] at e1 e2
    refine ⟨r, hr, Ev.step (fun k => by rw [spec_Matched.l0]) ?_, Ev.step (fun k => by rw [impl_Matched.l0]) ?_⟩
    · exact ev_ifT (show (i : Int) < (A.length : Int) by omega) e1
    · refine ev_ifT (show (i : Int) < (A.length : Int) by omega) ?_
      refine ev_ifT (show (0 : Int) ≤ (i : Int) by omega) ?_
      exact ev_ifT (show (i : Int) < (A.length : Int) by omega) e2
end
theorem both (l0 l1 : List Int) (a b : Int) (g0 : l0.length ≤ 1048576) (g1 : l1.length ≤ 1048576) : ∃ (r : List S37) (c : Int), Fin l0 l1 a b r ∧ (c = 0 → l0.length ≤ 200 ∧ l1.length ≤ 200) ∧ Ev (fun k => spec_Matched.f k l0 l1 a b) (r, c) ∧ Ev (fun k => impl_Matched.f k l0 l1 a b) (r, c) := by
  by_cases hc : codeP l0 l1 a b = 0
  · have hf : fine l0 l1 a b := by
      unfold codeP at hc
      split at hc
      · exact absurd hc (by simp)
      · split at hc
        · assumption
        · exact absurd hc (by simp)
    have h0 := hf.1
    have h1 := hf.2.1
    obtain ⟨r, hr, e1, e2⟩ := both_l0 l0 l1 (BySize.bySizeP l0) (BySize.bySizeP l1) a b h0 h1 (bySize_good l0) (bySize_good l1) (BySize.bySizeP l0).length 0 (List.replicate l1.length false) [] (by omega) (Nat.zero_le _) ⟨by simp, by simp, by simp, by simp, by simp, by simp, by simp, by simp⟩
    refine ⟨r, 0, hr, fun _ => ⟨h0, h1⟩, ?_, ?_⟩
    · unfold spec_Matched.f
      refine Ev.bind (spec_code l0 l1 a b) (ev_ifT hc (Ev.bind (order_f l0 h0) (Ev.bind (order_f l1 h1) (ev_ifT (by omega) (ev_ifT (by omega) ?_)))))
      rw [Int.toNat_natCast]; exact e1
    · unfold impl_Matched.f
      have b0 : impl_bySize.f l0 = some (BySize.bySizeP l0) := if_pos g0
      have b1 : impl_bySize.f l1 = some (BySize.bySizeP l1) := if_pos g1
      refine Ev.bind (impl_code l0 l1 a b) (ev_ifT hc (ev_ifT (by omega) (ev_ifT (by omega) (ev_bindS b1 (ev_bindS b0 ?_)))))
      rw [Int.toNat_natCast]; exact e2
  · refine ⟨[], codeP l0 l1 a b, ⟨by simp, by simp, by simp, by simp, by simp⟩, fun h => absurd h hc, ?_, ?_⟩
    · unfold spec_Matched.f
      exact Ev.bind (spec_code l0 l1 a b) (ev_ifF hc (Ev.now _))
    · unfold impl_Matched.f
      exact Ev.bind (impl_code l0 l1 a b) (ev_ifF hc (Ev.now _))
end Go.Proofs.Ytkijhilmgljegaa.PT

/- Plain: no more pairs than the greedy ones. No conditions. -/
import Derived.Test.YtkijhilmgljegaaQTPureShutT
set_option linter.unusedVariables false
namespace Go.Proofs.Ytkijhilmgljegaa.PT
open Go.RowKit Go.Proofs.YtkijhilmgljegaaW.PrintWords Go.Proofs.YtkijhilmgljegaaW.PrintLast Go.Proofs.YtkijhilmgljegaaW.PrintMore BlockedP
theorem Ev.one {α : Type} {f : Nat → Option α} {x y : α} (hx : Ev f x) (hy : Ev f y) : x = y := by
  obtain ⟨a, ha⟩ := hx
  obtain ⟨b, hb⟩ := hy
  have h1 := ha (max a b) (by omega)
  have h2 := hb (max a b) (by omega)
  rw [h1] at h2
  injection h2
def adI (l0 l1 : List Int) (a b : Int) (h s : Int) : Prop := a ≤ wrap64 (rd l0 h - rd l1 s) ∧ wrap64 (rd l0 h - rd l1 s) ≤ b
structure Grd (l0 l1 A : List Int) (a b : Int) (i : Nat) (used : List Bool) (r : List S37) : Prop where
  ul : used.length = l1.length
  len : r.length ≤ i
  rev : ∀ s : Int, 0 ≤ s → s < l1.length → rdOf false used s = true → ∃ q ∈ r, q.f1 = s
  seen : ∀ p ∈ r, ∃ t : Nat, t < i ∧ p.f0 = rd A t
  g2 : ∀ p ∈ r, ∀ s : Int, 0 ≤ s → s < l1.length → adI l0 l1 a b p.f0 s → rd l1 s < rd l1 p.f1 → ∃ q ∈ r, q.f1 = s
  g1 : ∀ t : Nat, t < i → (∀ p ∈ r, p.f0 ≠ rd A t) → ∀ s : Int, 0 ≤ s → s < l1.length → adI l0 l1 a b (rd A t) s → ∃ q ∈ r, q.f1 = s ∧ rd l0 q.f0 ≤ rd l0 (rd A t)
structure Mx (l0 l1 : List Int) (a b : Int) (r : List S37) : Prop where
  g2 : ∀ p ∈ r, ∀ s : Int, 0 ≤ s → s < l1.length → adI l0 l1 a b p.f0 s → rd l1 s < rd l1 p.f1 → ∃ q ∈ r, q.f1 = s
  g1 : ∀ u : Int, 0 ≤ u → u < l0.length → (∀ p ∈ r, p.f0 ≠ u) → ∀ s : Int, 0 ≤ s → s < l1.length → adI l0 l1 a b u s → ∃ q ∈ r, q.f1 = s ∧ rd l0 q.f0 ≤ rd l0 u
theorem Good.at {l : List Int} {n : Nat} {out : List Int} (h : Good l n out) (s : Int) (s0 : 0 ≤ s) (s1 : s < n) : ∃ j : Nat, j < out.length ∧ rd out j = s := by
  have : s ∈ out := h.prm.mem_iff.2 (List.mem_map.2 ⟨s.toNat, List.mem_range.2 (by omega), by omega⟩)
  obtain ⟨j, hj, e⟩ := List.getElem_of_mem this
  exact ⟨j, hj, by rw [rd_get out j hj]; exact e⟩
theorem Good.le {l : List Int} {n : Nat} {out : List Int} (h : Good l n out) {i j : Nat} (hij : i ≤ j) (hj : j < out.length) : rd l (rd out i) ≤ rd l (rd out j) := by
  by_cases e : i = j
  · rw [e]; exact Int.le_refl _
  · have hp := List.pairwise_iff_getElem.1 h.srt i j (by omega) hj (by omega)
    rw [← rd_get out i (by omega), ← rd_get out j hj] at hp
    unfold lexI at hp; omega
section
variable (l0 l1 A B : List Int) (a b : Int) (h0 : l0.length ≤ 200) (h1 : l1.length ≤ 200) (hA : Good l0 l0.length A) (hB : Good l1 l1.length B)
include h0 h1 hA hB
theorem gr_l1 (i : Nat) (hi : i < A.length) (used : List Bool) (out : List S37) (hw : Grd l0 l1 A a b i used out)
    (ih : ∀ used' (out' : List S37), Grd l0 l1 A a b (i + 1) used' out' → ∃ r : List S37, Mx l0 l1 a b r ∧ Ev (fun k => spec_Matched.l0 k l0 l1 a b A B used' out' ((i + 1 : Nat) : Int)) (r, 0)) :
    ∀ (m j : Nat), m = B.length - j → j ≤ B.length → (∀ t : Nat, t < j → adI l0 l1 a b (rd A i) (rd B t) → rdOf false used (rd B t) = true) → ∃ r : List S37, Mx l0 l1 a b r ∧ Ev (fun k => spec_Matched.l1 k l0 l1 a b A B used out (i : Int) (j : Int)) (r, 0)
  | 0, j, hm, hj, hno => by
    have hAl := hA.len
    obtain ⟨r, hr, e1⟩ := ih used out ⟨hw.ul, Nat.le_succ_of_le hw.len, hw.rev, fun p hp => by obtain ⟨t, ht, e⟩ := hw.seen p hp; exact ⟨t, by omega, e⟩, hw.g2, fun t ht hp s s0 s1 ha => by
      by_cases e : t = i
      · subst e
        obtain ⟨j', hj', e'⟩ := hB.at s s0 s1
        subst e'
        obtain ⟨q, hq, eq⟩ := hw.rev _ s0 s1 (hno j' (by omega) ha)
        refine ⟨q, hq, eq, ?_⟩
        obtain ⟨t', ht', e2⟩ := hw.seen q hq
        rw [e2]; exact hA.le (by omega) hi
      · exact hw.g1 t (by omega) hp s s0 s1 ha⟩
    refine ⟨r, hr, Ev.step (fun k => by rw [spec_Matched.l1]) (ev_ifF (by omega) ?_)⟩
    rw [succ64 (by omega)]; exact e1
  | m + 1, j, hm, hj, hno => by
    have hAl := hA.len
    have hBl := hB.len
    have hu := hw.ul
    have ho := hw.len
    have ma := hA.mem (rd_memI A i hi)
    have mb := hB.mem (rd_memI B j (by omega))
    have skip : (adI l0 l1 a b (rd A i) (rd B j) → rdOf false used (rd B j) = true) → ∃ r : List S37, Mx l0 l1 a b r ∧ Ev (fun k => spec_Matched.l1 k l0 l1 a b A B used out (i : Int) ((j + 1 : Nat) : Int)) (r, 0) := fun h =>
      gr_l1 i hi used out hw ih m (j + 1) (by omega) (by omega) (fun t ht ha => by
        by_cases e : t = j
        · subst e; exact h ha
        · exact hno t (by omega) ha)
    have base : ∀ {f : Nat → Option (List S37 × Int)} {r : List S37 × Int}, Ev (fun k => if rdOf false used (rd B j) = true then spec_Matched.l1 k l0 l1 a b A B used out (i : Int) (wrap64 ((j : Int) + 1)) else (if (wrap64 ((rd l0 (rd A i)) - (rd l1 (rd B j)))) ≥ a then (if (wrap64 ((rd l0 (rd A i)) - (rd l1 (rd B j)))) ≤ b then (if out.length < 8796093022208 then (spec_Matched.l0 k l0 l1 a b A B (used.set ((rd B j) : Int).toNat true) (out ++ [(⟨rd A i, rd B j⟩ : S37)]) (wrap64 ((i : Int) + 1))) else (none)) else (spec_Matched.l1 k l0 l1 a b A B used out (i : Int) (wrap64 ((j : Int) + 1)))) else (spec_Matched.l1 k l0 l1 a b A B used out (i : Int) (wrap64 ((j : Int) + 1))))) r →
        Ev (fun k => spec_Matched.l1 k l0 l1 a b A B used out (i : Int) (j : Int)) r := fun h => by
      refine Ev.step (fun k => by rw [spec_Matched.l1]) ?_
      refine ev_ifT (show (j : Int) < (B.length : Int) by omega) ?_
      refine ev_ifT (show (0 : Int) ≤ (i : Int) by omega) ?_
      refine ev_ifT (show (i : Int) < (A.length : Int) by omega) ?_
      refine ev_ifT ma.1 ?_
      refine ev_ifT ma.2 ?_
      refine ev_ifT (show (0 : Int) ≤ (j : Int) by omega) ?_
      refine ev_ifT mb.1 ?_
      refine ev_ifT mb.2 ?_
      refine ev_ifT (show rd B j < (used.length : Int) by omega) ?_
      exact h
    by_cases c1 : rdOf false used (rd B j) = true
    · obtain ⟨r, hr, e1⟩ := skip (fun _ => c1)
      refine ⟨r, hr, base (f := fun _ => none) (ev_ifT c1 ?_)⟩
      rw [succ64 (i := j) (by omega)]; exact e1
    by_cases c2 : wrap64 ((rd l0 (rd A i)) - (rd l1 (rd B j))) ≥ a
    · by_cases c3 : wrap64 ((rd l0 (rd A i)) - (rd l1 (rd B j))) ≤ b
      · obtain ⟨r, hr, e1⟩ := ih (used.set (rd B j).toNat true) (out ++ [⟨rd A i, rd B j⟩]) ⟨by rw [List.length_set]; exact hu, by rw [List.length_append]; simp; omega, fun s s0 s1 hs => by
            by_cases e : s = rd B j
            · exact ⟨⟨rd A i, rd B j⟩, by simp, e.symm⟩
            · have : rdOf false used s = true := by
                unfold rdOf at hs ⊢
                rw [List.getD_eq_getElem?_getD, List.getElem?_set_ne (by omega), ← List.getD_eq_getElem?_getD] at hs
                exact hs
              obtain ⟨q, hq, eq⟩ := hw.rev s s0 s1 this
              exact ⟨q, List.mem_append_left _ hq, eq⟩,
          fun p hp => by
            rcases List.mem_append.1 hp with hp | hp
            · obtain ⟨t, ht, e⟩ := hw.seen p hp; exact ⟨t, by omega, e⟩
            · rw [List.mem_singleton.1 hp]; exact ⟨i, by omega, rfl⟩,
          fun p hp s s0 s1 ha hlt => by
            rcases List.mem_append.1 hp with hp | hp
            · obtain ⟨q, hq, eq⟩ := hw.g2 p hp s s0 s1 ha hlt; exact ⟨q, List.mem_append_left _ hq, eq⟩
            · rw [List.mem_singleton.1 hp] at ha hlt
              dsimp only at ha hlt
              obtain ⟨j', hj', e'⟩ := hB.at s s0 s1
              subst e'
              have hjj : j' < j := by
                rcases Nat.lt_or_ge j' j with h | h
                · exact h
                · have := hB.le h hj'; omega
              obtain ⟨q, hq, eq⟩ := hw.rev _ s0 s1 (hno j' hjj ha)
              exact ⟨q, List.mem_append_left _ hq, eq⟩,
          fun t ht hp s s0 s1 ha => by
            have hti : t ≠ i := fun e => hp ⟨rd A i, rd B j⟩ (by simp) (by rw [e])
            obtain ⟨q, hq, eq⟩ := hw.g1 t (by omega) (fun p hp' => hp p (List.mem_append_left _ hp')) s s0 s1 ha
            exact ⟨q, List.mem_append_left _ hq, eq⟩⟩
        refine ⟨r, hr, base (f := fun _ => none) (ev_ifF c1 (ev_ifT c2 (ev_ifT c3 (ev_ifT (by omega) ?_))))⟩
        rw [succ64 (i := i) (by omega)]; exact e1
      · obtain ⟨r, hr, e1⟩ := skip (fun h => absurd h.2 c3)
        refine ⟨r, hr, base (f := fun _ => none) (ev_ifF c1 (ev_ifT c2 (ev_ifF c3 ?_)))⟩
        rw [succ64 (i := j) (by omega)]; exact e1
    · obtain ⟨r, hr, e1⟩ := skip (fun h => absurd h.1 c2)
      refine ⟨r, hr, base (f := fun _ => none) (ev_ifF c1 (ev_ifF c2 ?_))⟩
      rw [succ64 (i := j) (by omega)]; exact e1
theorem gr_l0 : ∀ (m i : Nat) (used : List Bool) (out : List S37), m = A.length - i → i ≤ A.length → Grd l0 l1 A a b i used out → ∃ r : List S37, Mx l0 l1 a b r ∧ Ev (fun k => spec_Matched.l0 k l0 l1 a b A B used out (i : Int)) (r, 0)
  | 0, i, used, out, hm, hi, hw => by
    have hAl := hA.len
    refine ⟨out, ⟨hw.g2, fun u u0 u1 hu s s0 s1 ha => ?_⟩, Ev.step (fun k => by rw [spec_Matched.l0]) (ev_ifF (by omega) (Ev.now _))⟩
    obtain ⟨t, ht, e⟩ := hA.at u u0 u1
    subst e
    exact hw.g1 t (by omega) hu s s0 s1 ha
  | m + 1, i, used, out, hm, hi, hw => by
    obtain ⟨r, hr, e1⟩ := gr_l1 l0 l1 A B a b h0 h1 hA hB i (by omega) used out hw (fun used' out' hw' => gr_l0 m (i + 1) used' out' (by omega) (by omega) hw') B.length 0 (by omega) (Nat.zero_le _) (fun t ht => by omega)
    rw [show ((0 : Nat) : Int) = 0 from rfl] at e1
    exact ⟨r, hr, Ev.step (fun k => by rw [spec_Matched.l0]) (ev_ifT (show (i : Int) < (A.length : Int) by omega) e1)⟩
end
theorem greedy (l0 l1 : List Int) (a b : Int) (hf : fine l0 l1 a b) : ∃ r : List S37, Fin l0 l1 a b r ∧ Mx l0 l1 a b r ∧ Ev (fun k => spec_Matched.f k l0 l1 a b) (r, 0) ∧ Ev (fun k => impl_Matched.f k l0 l1 a b) (r, 0) := by
  have h0 := hf.1
  have h1 := hf.2.1
  obtain ⟨r, c, hr, _, e1, e2⟩ := both l0 l1 a b (by omega) (by omega)
  obtain ⟨r', hr', e3⟩ := gr_l0 l0 l1 (BySize.bySizeP l0) (BySize.bySizeP l1) a b h0 h1 (bySize_good l0) (bySize_good l1) (BySize.bySizeP l0).length 0 (List.replicate l1.length false) [] (by omega) (Nat.zero_le _)
    ⟨by simp, by simp, fun s s0 s1 hs => by
      unfold rdOf at hs
      rw [List.getD_eq_getElem?_getD, List.getElem?_replicate] at hs
      split at hs <;> simp at hs, by simp, by simp, fun t ht => by omega⟩
  have e4 : Ev (fun k => spec_Matched.f k l0 l1 a b) (r', 0) := by
    unfold spec_Matched.f
    refine Ev.bind (spec_code l0 l1 a b) (ev_ifT (code_ok hf) (Ev.bind (order_f l0 h0) (Ev.bind (order_f l1 h1) (ev_ifT (by omega) (ev_ifT (by omega) ?_)))))
    rw [Int.toNat_natCast]; exact e3
  have he := Ev.one e1 e4
  injection he with he1 he2
  subst he1 he2
  exact ⟨r, hr, hr', e1, e2⟩
theorem okS_rd {l : List Int} (h : l.all okS = true) (i : Int) (i0 : 0 ≤ i) (i1 : i < l.length) : 0 ≤ rd l i ∧ rd l i ≤ 100000 := by
  obtain ⟨n, rfl⟩ := Int.eq_ofNat_of_zero_le i0
  have := List.all_eq_true.1 h _ (rd_memI l n (by omega))
  rwa [okS_iff] at this
section
variable {l0 l1 : List Int} {a b : Int} {r : List S37} (hf : fine l0 l1 a b) (hr : Fin l0 l1 a b r) (hx : Mx l0 l1 a b r)
include hf in
theorem adI_iff {h s : Int} (h0 : 0 ≤ h) (h1 : h < l0.length) (s0 : 0 ≤ s) (s1 : s < l1.length) : adI l0 l1 a b h s ↔ rd l0 h - b ≤ rd l1 s ∧ rd l1 s ≤ rd l0 h - a := by
  have a1 := okS_rd hf.2.2.1 h h0 h1
  have a2 := okS_rd hf.2.2.2.1 s s0 s1
  unfold adI
  rw [pw64 (x := rd l0 h - rd l1 s) (by omega) (by omega)]
  omega
include hf hr hx in
theorem no_free (h : Nat) (hh : h < l0.length) (hre : Reach l0 l1 a b (psN r) h) (s : Nat) (hs : s < l1.length) (ha : adj l0 l1 a b h s) : ∃ q ∈ r, q.f1 = (s : Int) := by
  have hb : ∀ p ∈ r, 0 ≤ p.f0 ∧ 0 ≤ p.f1 := fun p hp => ⟨(hr.rng p hp).1, (hr.rng p hp).2.2.1⟩
  have adN : ∀ h s : Nat, adj l0 l1 a b h s ↔ adI l0 l1 a b h s := fun h s => by unfold adj adI gap; rw [rd_nat, rd_nat]
  have uniq : ∀ p ∈ r, ∀ q ∈ r, p.f1 = q.f1 → p = q := fun p hp q hq e => by
    have hn := hr.shaft
    obtain ⟨i, hi, rfl⟩ := List.getElem_of_mem hp
    obtain ⟨j, hj, rfl⟩ := List.getElem_of_mem hq
    rw [List.nodup_iff_pairwise_ne, List.pairwise_map, List.pairwise_iff_getElem] at hn
    rcases Nat.lt_trichotomy i j with h | h | h
    · exact absurd e (hn i j hi hj h)
    · subst h; rfl
    · exact absurd e.symm (hn j i hj hi h)
  have hQ := hre (fun h => ∃ u : Nat, u < l0.length ∧ (∀ p ∈ r, p.f0 ≠ (u : Int)) ∧ rd l0 (h : Int) ≤ rd l0 (u : Int) ∧ ∀ s : Int, 0 ≤ s → s < l1.length → rd l0 (h : Int) - b ≤ rd l1 s → rd l1 s ≤ rd l0 (u : Int) - a → ∃ q ∈ r, q.f1 = s)
    ⟨fun h hl hn => ⟨h, hl, fun p hp e => hn p.f1.toNat ((psN_mem hb).2 ⟨p, hp, e, by have := hb p hp; omega⟩), Int.le_refl _, fun s s0 s1 e1 e2 => by
        obtain ⟨q, hq, e, _⟩ := hx.g1 h (by omega) (by omega) (fun p hp e => hn p.f1.toNat ((psN_mem hb).2 ⟨p, hp, e, by have := hb p hp; omega⟩)) s s0 s1 ((adI_iff hf (by omega) (by omega) s0 s1).2 ⟨e1, e2⟩)
        exact ⟨q, hq, e⟩⟩,
      fun h s h' hm hl' hq ha => by
        obtain ⟨u, hu, un, hsz, hall⟩ := hq
        obtain ⟨p, hp, e1, e2⟩ := (psN_mem hb).1 hm
        have pr := hr.rng p hp
        have pg := hr.gap p hp
        have ad1 := (adI_iff hf (h := (h' : Int)) (s := (s : Int)) (by omega) (by omega) (by omega) (by omega)).1 ((adN _ _).1 ha)
        have ad2 := (adI_iff hf pr.1 pr.2.1 pr.2.2.1 pr.2.2.2).1 pg
        rw [e1, e2] at ad2
        have hle : rd l0 (h : Int) ≤ rd l0 (u : Int) := by
          rcases Int.lt_or_le (rd l0 (u : Int)) (rd l0 (h : Int)) with hlt | hle
          · obtain ⟨q, hq, eq, hql⟩ := hx.g1 u (by omega) (by omega) un s (by omega) (by omega) ((adI_iff hf (by omega) (by omega) (by omega) (by omega)).2 ⟨by omega, by omega⟩)
            have := uniq q hq p hp (by rw [eq, e2])
            rw [this, e1] at hql
            exact hql
          · exact hle
        refine ⟨u, hu, un, hle, fun s' s0 s1 c1 c2 => ?_⟩
        by_cases c : rd l0 (h' : Int) - b ≤ rd l1 s'
        · exact hall s' s0 s1 c c2
        · refine hx.g2 p hp s' s0 s1 ?_ ?_
          · rw [e1]
            exact (adI_iff hf (by omega) (by omega) s0 s1).2 ⟨c1, by omega⟩
          · rw [e2]; omega⟩
  obtain ⟨u, hu, _, hsz, hall⟩ := hQ
  have ad := (adI_iff hf (h := (h : Int)) (s := (s : Int)) (by omega) (by omega) (by omega) (by omega)).1 ((adN _ _).1 ha)
  exact hall s (by omega) (by omega) ad.1 (by omega)
end
theorem len_of_mem : ∀ (x y : List Nat), x.Nodup → y.Nodup → (∀ t, t ∈ x ↔ t ∈ y) → x.length = y.length := by
  intro x
  induction x with
  | nil =>
    intro y _ _ h
    cases y with
    | nil => rfl
    | cons t y => exact absurd ((h t).2 (List.mem_cons_self ..)) (by simp)
  | cons t x ih =>
    intro y hx hy h
    rw [List.nodup_cons] at hx
    have ht : t ∈ y := (h t).1 (List.mem_cons_self ..)
    have := ih (y.erase t) hx.2 (hy.erase t) (fun s => by
      rw [hy.mem_erase_iff, ← h s, List.mem_cons]
      constructor
      · intro hs; exact ⟨fun e => hx.1 (e ▸ hs), .inr hs⟩
      · rintro ⟨hne, hs | hs⟩
        · exact absurd hs hne
        · exact hs)
    have hl := List.length_erase_of_mem ht
    have := List.length_pos_of_mem ht
    simp only [List.length_cons]
    omega
theorem filter_two (l : List Nat) (p : Nat → Bool) : (l.filter p).length + (l.filter fun t => !p t).length = l.length := by
  induction l with
  | nil => rfl
  | cons t l ih =>
    cases h : p t <;> simp [h] <;> omega
theorem told_num (p : Nat → Bool) (n : Nat) : (told p n).length = ((List.range n).filter p).length := by unfold told; simp
section
variable {l0 l1 : List Int} {a b : Int} {r : List S37} (hf : fine l0 l1 a b) (hr : Fin l0 l1 a b r) (hx : Mx l0 l1 a b r)
include hf hr hx
theorem counted : ((aP l0 l1 a b (psN r)).length : Int) - ((bP l0 l1 a b (psN r)).length : Int) = (l0.length : Int) - (r.length : Int) := by
  have hb : ∀ p ∈ r, 0 ≤ p.f0 ∧ 0 ≤ p.f1 := fun p hp => ⟨(hr.rng p hp).1, (hr.rng p hp).2.2.1⟩
  have hI := isP hr
  unfold aP bP
  rw [told_num, told_num]
  generalize endP l0 l1 a b (psN r) = X at hI
  have hole : (r.map fun p => p.f0.toNat).Nodup := by
    have := hr.hole
    rw [List.nodup_iff_pairwise_ne, List.pairwise_map] at this ⊢
    refine this.imp_of_mem fun {p q} hp hq hne e => hne ?_
    have := hb p hp; have := hb q hq; omega
  have shaft : (r.map fun p => p.f1.toNat).Nodup := by
    have := hr.shaft
    rw [List.nodup_iff_pairwise_ne, List.pairwise_map] at this ⊢
    refine this.imp_of_mem fun {p q} hp hq hne e => hne ?_
    have := hb p hp; have := hb q hq; omega
  have nfil : ∀ (n : Nat) (p : Nat → Bool), ((List.range n).filter p).Nodup := fun n p => List.nodup_range.filter p
  let H : Nat → Bool := fun t => (r.map fun p => p.f0.toNat).contains t
  have hH : ∀ t, H t = true ↔ ∃ p ∈ r, p.f0 = (t : Int) := fun t => by
    show (r.map fun p => p.f0.toNat).contains t = true ↔ _
    rw [List.contains_iff_mem, List.mem_map]
    constructor
    · rintro ⟨p, hp, e⟩; exact ⟨p, hp, by have := hb p hp; omega⟩
    · rintro ⟨p, hp, e⟩; exact ⟨p, hp, by have := hb p hp; omega⟩
  have c1 : ((List.range l0.length).filter H).length = r.length := by
    rw [len_of_mem _ (r.map fun p => p.f0.toNat) (nfil _ _) hole, List.length_map]
    intro t
    rw [List.mem_filter, List.mem_range, hH, List.mem_map]
    constructor
    · rintro ⟨_, p, hp, e⟩; exact ⟨p, hp, by have := hb p hp; omega⟩
    · rintro ⟨p, hp, e⟩; have := hr.rng p hp; exact ⟨by omega, p, hp, by omega⟩
  have c2 := filter_two (List.range l0.length) H
  rw [List.length_range] at c2
  have c3 := filter_two ((List.range l0.length).filter fun t => X.getD t false) H
  have c4 : (((List.range l0.length).filter fun t => X.getD t false).filter fun t => !H t).length = ((List.range l0.length).filter fun t => !H t).length := by
    refine len_of_mem _ _ ((nfil _ _).filter _) (nfil _ _) fun t => ?_
    simp only [List.mem_filter, List.mem_range]
    constructor
    · rintro ⟨⟨h1, _⟩, h3⟩; exact ⟨h1, h3⟩
    · rintro ⟨h1, h3⟩
      refine ⟨⟨h1, hI.cpl.1 t h1 fun s hm => ?_⟩, h3⟩
      obtain ⟨p, hp, e, _⟩ := (psN_mem hb).1 hm
      have := (hH t).2 ⟨p, hp, e⟩
      rw [this] at h3; simp at h3
  have c5 : (((List.range l0.length).filter fun t => X.getD t false).filter H).length = (r.filter fun p => X.getD p.f0.toNat false).length := by
    rw [len_of_mem _ ((r.filter fun p => X.getD p.f0.toNat false).map fun p => p.f0.toNat) ((nfil _ _).filter _) (List.Nodup.sublist ((List.filter_sublist).map _) hole) ?_, List.length_map]
    intro t
    simp only [List.mem_filter, List.mem_range, List.mem_map, hH]
    constructor
    · rintro ⟨⟨_, h2⟩, p, hp, e⟩
      have e2 : p.f0.toNat = t := by omega
      exact ⟨p, ⟨hp, by rw [e2]; exact h2⟩, e2⟩
    · rintro ⟨p, ⟨hp, h2⟩, e⟩
      have := hr.rng p hp
      exact ⟨⟨by omega, by rw [← e]; exact h2⟩, p, hp, by omega⟩
  have c6 : ((List.range l1.length).filter (fits l0 l1 a b X)).length = (r.filter fun p => X.getD p.f0.toNat false).length := by
    rw [len_of_mem _ ((r.filter fun p => X.getD p.f0.toNat false).map fun p => p.f1.toNat) (nfil _ _) (List.Nodup.sublist ((List.filter_sublist).map _) shaft) ?_, List.length_map]
    intro t
    rw [List.mem_filter, List.mem_range, List.mem_map, fits_iff hI.len]
    constructor
    · rintro ⟨ht, h, hl, hi, ha⟩
      obtain ⟨q, hq, e⟩ := no_free hf hr hx h hl (hI.snd h hl hi) t ht ha
      have hrg := hr.rng q hq
      refine ⟨q, List.mem_filter.2 ⟨hq, ?_⟩, by omega⟩
      exact hI.cpl.2 q.f0.toNat t h ((psN_mem hb).2 ⟨q, hq, by omega, e⟩) hl hi ha
    · rintro ⟨p, hp, e⟩
      obtain ⟨hp, hX⟩ := List.mem_filter.1 hp
      have hrg := hr.rng p hp
      refine ⟨by omega, p.f0.toNat, by omega, hX, ?_⟩
      have hg := hr.gap p hp
      unfold adj gap
      rw [← rd_nat, ← rd_nat, ← e, show ((p.f0.toNat : Nat) : Int) = p.f0 by omega, show ((p.f1.toNat : Nat) : Int) = p.f1 by omega]
      exact hg
  omega
end
end Go.Proofs.Ytkijhilmgljegaa.PT

/- Plain: the set of holes that Blocked tells. No conditions. -/
import Derived.Test.YtkijhilmgljegaaQTT7
import Derived.Test.YtkijhilmgljegaaQTPureFitT
set_option linter.unusedVariables false
namespace Go.Proofs.Ytkijhilmgljegaa.PT
open Go.RowKit Go.Proofs.YtkijhilmgljegaaW.PrintWords Go.Proofs.YtkijhilmgljegaaW.PrintLast Go.Proofs.YtkijhilmgljegaaW.PrintMore BlockedP
def adj (l0 l1 : List Int) (a b : Int) (h s : Nat) : Prop := a ≤ gap l0 l1 h s ∧ gap l0 l1 h s ≤ b
instance (l0 l1 : List Int) (a b : Int) (h s : Nat) : Decidable (adj l0 l1 a b h s) := inferInstanceAs (Decidable (_ ∧ _))
def Shut (l0 l1 : List Int) (a b : Int) (ps : List (Nat × Nat)) (P : Nat → Prop) : Prop :=
  (∀ h, h < l0.length → (∀ s, (h, s) ∉ ps) → P h) ∧ (∀ h s h', (h, s) ∈ ps → h' < l0.length → P h' → adj l0 l1 a b h' s → P h)
def Reach (l0 l1 : List Int) (a b : Int) (ps : List (Nat × Nat)) (h : Nat) : Prop := ∀ P, Shut l0 l1 a b ps P → P h
theorem reach_shut (l0 l1 : List Int) (a b : Int) (ps : List (Nat × Nat)) : Shut l0 l1 a b ps (Reach l0 l1 a b ps) :=
  ⟨fun h hh hn P hP => hP.1 h hh hn, fun h s h' hm hl hr ha P hP => hP.2 h s h' hm hl (hr P hP) ha⟩
structure Is (l0 l1 : List Int) (a b : Int) (ps : List (Nat × Nat)) (ins : List Bool) : Prop where
  len : ins.length = l0.length
  snd : ∀ h, h < l0.length → ins.getD h false = true → Reach l0 l1 a b ps h
  cpl : Shut l0 l1 a b ps (fun h => ins.getD h false = true)
theorem Is.eq {l0 l1 : List Int} {a b : Int} {ps : List (Nat × Nat)} {x y : List Bool} (hx : Is l0 l1 a b ps x) (hy : Is l0 l1 a b ps y) : x = y := by
  apply List.ext_getElem (hx.len.trans hy.len.symm)
  intro i h1 h2
  have e1 : x.getD i false = x[i] := by simp [h1]
  have e2 : y.getD i false = y[i] := by simp [h2]
  have hi : i < l0.length := by rw [← hx.len]; exact h1
  rw [← e1, ← e2, Bool.eq_iff_iff]
  exact ⟨fun h => hx.snd i hi h _ hy.cpl, fun h => hy.snd i hi h _ hx.cpl⟩
theorem fits_iff {l0 l1 : List Int} {a b : Int} {ins : List Bool} (hl : ins.length = l0.length) (s : Nat) : fits l0 l1 a b ins s = true ↔ ∃ h, h < l0.length ∧ ins.getD h false = true ∧ adj l0 l1 a b h s := by
  unfold fits
  rw [List.any_eq_true]
  constructor
  · rintro ⟨h, hm, hf⟩
    unfold fitAt at hf
    simp only [Bool.and_eq_true, decide_eq_true_eq] at hf
    exact ⟨h, by have := List.mem_range.1 hm; omega, hf.1, hf.2.1, hf.2.2⟩
  · rintro ⟨h, hl', hi, h1, h2⟩
    refine ⟨h, List.mem_range.2 (by omega), ?_⟩
    unfold fitAt
    rw [hi, decide_eq_true h1, decide_eq_true h2]; rfl
section
variable {l0 l1 : List Int} {a b : Int} {ps : List (Nat × Nat)} (hs : ∀ p ∈ ps, p.1 < l0.length ∧ p.2 < l1.length) (hn2 : (ps.map (·.2)).Nodup)
include hs
omit hs in
theorem mateF_of (hn2 : (ps.map (·.2)).Nodup) : ∀ (h s : Nat), (h, s) ∈ ps → mateF ps s = some h := by
  rw [← List.reverse_reverse ps] at hn2 ⊢
  generalize ps.reverse = r at *
  induction r with
  | nil => intro h s hm; simp at hm
  | cons p r ih =>
    intro h s hm
    rw [List.reverse_cons, List.map_append, List.nodup_append] at hn2
    rw [List.reverse_cons] at hm ⊢
    rw [mateF_snoc]
    rcases List.mem_append.1 hm with hm | hm
    · have hne : s ≠ p.2 := fun e => hn2.2.2 s (List.mem_map.2 ⟨(h, s), hm, rfl⟩) p.2 (by simp) e
      rw [if_neg hne]; exact ih hn2.1 h s hm
    · rw [List.mem_singleton] at hm
      subst hm; rw [if_pos rfl]
omit hs in
theorem outAll_get : ∀ (n h : Nat), h < n → ((outAll (List.replicate n true) ps).getD h false = true ↔ ∀ s, (h, s) ∉ ps) := by
  intro n h hh
  rw [← List.reverse_reverse ps]
  generalize ps.reverse = r
  induction r with
  | nil => simp [outAll, hh]
  | cons p r ih =>
    rw [List.reverse_cons, outAll_snoc]
    have hl : (outAll (List.replicate n true) r.reverse).length = n := by rw [len_outAll]; simp
    rw [List.getD_eq_getElem?_getD]
    by_cases e : p.1 = h
    · subst e
      rw [List.getElem?_set_self (by omega)]
      constructor
      · intro h; simp at h
      · intro h2; exact absurd (List.mem_append_right _ (by simp)) (h2 p.2)
    · rw [List.getElem?_set_ne e, ← List.getD_eq_getElem?_getD, ih]
      constructor
      · intro h2 s hm
        rcases List.mem_append.1 hm with hm | hm
        · exact h2 s hm
        · rw [List.mem_singleton] at hm; subst hm; exact e rfl
      · intro h2 s hm; exact h2 s (List.mem_append_left _ hm)
structure Mid (l0 l1 : List Int) (a b : Int) (ps : List (Nat × Nat)) (ins : List Bool) : Prop where
  len : ins.length = l0.length
  snd : ∀ h, h < l0.length → ins.getD h false = true → Reach l0 l1 a b ps h
  one : ∀ h, h < l0.length → (∀ s, (h, s) ∉ ps) → ins.getD h false = true
omit hs in
theorem getD_set (ins : List Bool) (i h : Nat) (hi : i < ins.length) : (ins.set i true).getD h false = if h = i then true else ins.getD h false := by
  rw [List.getD_eq_getElem?_getD]
  by_cases e : h = i
  · subst e; rw [List.getElem?_set_self hi, if_pos rfl]; rfl
  · rw [List.getElem?_set_ne (Ne.symm e), if_neg e, List.getD_eq_getElem?_getD]
omit hs in
theorem Mid.set {ins : List Bool} (h : Mid l0 l1 a b ps ins) {i : Nat} (hi : i < l0.length) (hr : Reach l0 l1 a b ps i) : Mid l0 l1 a b ps (ins.set i true) := by
  have hil : i < ins.length := by rw [h.len]; exact hi
  refine ⟨by rw [List.length_set]; exact h.len, fun t ht e => ?_, fun t ht hn => ?_⟩
  · rw [getD_set ins i t hil] at e
    split at e
    · rename_i q; rw [q]; exact hr
    · exact h.snd t ht e
  · rw [getD_set ins i t hil]; split
    · rfl
    · exact h.one t ht hn
theorem mid_grow1 (hn2 : (ps.map (·.2)).Nodup) {st : List Bool × Bool} {s : Nat} (h : Mid l0 l1 a b ps st.1) (hsl : s < l1.length) : Mid l0 l1 a b ps (grow1 l0 l1 a b (mateF ps) st s).1 := by
  unfold grow1
  split
  · rename_i hh e
    have hm := mateF_mem _ _ _ e
    have hr := hs _ hm
    split
    · rename_i c
      simp only [Bool.and_eq_true, Bool.not_eq_true'] at c
      obtain ⟨t, ht, hti, hta⟩ := (fits_iff h.len s).1 c.2
      exact h.set hr.1 ((reach_shut l0 l1 a b ps).2 hh s t hm ht (h.snd t ht hti) hta)
    · exact h
  · exact h
theorem mid_growR (hn2 : (ps.map (·.2)).Nodup) : ∀ (n i : Nat) (st : List Bool × Bool), i + n ≤ l1.length → Mid l0 l1 a b ps st.1 → Mid l0 l1 a b ps (growR l0 l1 a b (mateF ps) st i n).1 ∧ cnt (growR l0 l1 a b (mateF ps) st i n).1 ≤ cnt st.1 ∧
    ((growR l0 l1 a b (mateF ps) st i n).2 = true → st.2 = true ∨ cnt (growR l0 l1 a b (mateF ps) st i n).1 < cnt st.1) ∧
    ((growR l0 l1 a b (mateF ps) st i n).2 = false → (growR l0 l1 a b (mateF ps) st i n).1 = st.1 ∧ st.2 = false ∧ ∀ s h, i ≤ s → s < i + n → mateF ps s = some h → st.1.getD h false = false → fits l0 l1 a b st.1 s = false)
  | 0, i, st, hi, h => by
    rw [growR_zero]
    exact ⟨h, Nat.le_refl _, fun e => .inl e, fun e => ⟨rfl, e, fun s h h1 h2 => by omega⟩⟩
  | n + 1, i, st, hi, h => by
    rw [growR_succ]
    have hm := mid_grow1 hs hn2 (st := st) (s := i) h (by omega)
    obtain ⟨c1, c2⟩ := cnt_grow1 l0 l1 a b (mateF ps) st i (fun s h' e => by have := hs _ (mateF_mem _ _ _ e); rw [h.len]; exact this.1)
    obtain ⟨g1, g2, g3, g4⟩ := mid_growR hn2 n (i + 1) (grow1 l0 l1 a b (mateF ps) st i) (by omega) hm
    refine ⟨g1, by omega, fun e => ?_, fun e => ?_⟩
    · rcases g3 e with e | e
      · rcases c2 e with e | e
        · exact .inl e
        · exact .inr (by omega)
      · exact .inr (by omega)
    · obtain ⟨e1, e2, e3⟩ := g4 e
      have e4 : grow1 l0 l1 a b (mateF ps) st i = st ∧ ∀ h, mateF ps i = some h → st.1.getD h false = false → fits l0 l1 a b st.1 i = false := by
        unfold grow1 at e2 ⊢
        split
        · rename_i hh em
          rw [em] at e2
          dsimp only at e2
          split
          · rename_i c
            rw [if_pos c] at e2
            exact absurd e2 (by simp)
          · rename_i c
            refine ⟨rfl, fun h he hf => ?_⟩
            rw [em] at he
            injection he with he
            subst he
            cases q : fits l0 l1 a b st.1 i with
            | false => rfl
            | true => exact absurd (by rw [hf, q]; rfl) c
        · rename_i em
          exact ⟨rfl, fun h he => by rw [em] at he; exact absurd he (by simp)⟩
      rw [e4.1] at e1 e2 e3 ⊢
      refine ⟨e1, e2, fun s h h1 h2 h3 h4 => ?_⟩
      by_cases q : s = i
      · subst q; exact e4.2 h h3 h4
      · exact e3 s h (by omega) (by omega) h3 h4
theorem is_growL (hn2 : (ps.map (·.2)).Nodup) : ∀ (f : Nat) (ins : List Bool), cnt ins < f → Mid l0 l1 a b ps ins → Is l0 l1 a b ps (growL l0 l1 a b (mateF ps) f ins)
  | 0, ins, hf, _ => by omega
  | f + 1, ins, hf, h => by
    rw [growL]
    obtain ⟨g1, g2, g3, g4⟩ := mid_growR hs hn2 l1.length 0 (ins, false) (by omega) h
    by_cases c : (growR l0 l1 a b (mateF ps) (ins, false) 0 l1.length).2 = true
    · rw [if_pos c]
      refine is_growL hn2 f _ ?_ g1
      rcases g3 c with e | e
      · exact absurd e (by simp)
      · have : cnt (growR l0 l1 a b (mateF ps) (ins, false) 0 l1.length).1 < cnt ins := e
        omega
    · rw [if_neg c]
      obtain ⟨e1, _, e3⟩ := g4 (by simpa using c)
      rw [e1]
      refine ⟨h.len, h.snd, h.one, fun hh s h' hm hl hi ha => ?_⟩
      have hr := hs _ hm
      show ins.getD hh false = true
      cases q : ins.getD hh false with
      | true => rfl
      | false =>
        have := e3 s hh (Nat.zero_le _) (by omega) (mateF_of hn2 hh s hm) q
        have h2 := (fits_iff (l1 := l1) (a := a) (b := b) h.len s).2 ⟨h', hl, hi, ha⟩
        have h3 : fits l0 l1 a b ins s = false := this
        rw [h3] at h2; exact absurd h2 (by simp)
theorem is_end (hn2 : (ps.map (·.2)).Nodup) : Is l0 l1 a b ps (endP l0 l1 a b ps) := by
  unfold endP
  refine is_growL hs hn2 _ _ ?_ ⟨by rw [len_outAll]; simp, fun h hh e => ?_, fun h hh hn => ?_⟩
  · have := cnt_le (outAll (List.replicate l0.length true) ps)
    rw [len_outAll] at this
    simp at this
    omega
  · exact (reach_shut l0 l1 a b ps).1 h hh ((outAll_get l0.length h hh).1 e)
  · exact (outAll_get l0.length h hh).2 hn
end
theorem rd_nat (l : List Int) (i : Nat) : rd l (i : Int) = l.getD i 0 := by simp [rd]
theorem rdB_nat (l : List Bool) (i : Nat) : rdOf false l (i : Int) = l.getD i false := by simp [rdOf]
theorem set_getD (l : List Bool) (i h : Nat) (v : Bool) (hi : i < l.length) : (l.set i v).getD h false = if h = i then v else l.getD h false := by
  rw [List.getD_eq_getElem?_getD]
  by_cases e : h = i
  · subst e; rw [List.getElem?_set_self hi, if_pos rfl]; rfl
  · rw [List.getElem?_set_ne (Ne.symm e), if_neg e, List.getD_eq_getElem?_getD]
theorem psN_mem {r : List S37} {h s : Nat} (hb : ∀ p ∈ r, 0 ≤ p.f0 ∧ 0 ≤ p.f1) : (h, s) ∈ psN r ↔ ∃ p ∈ r, p.f0 = h ∧ p.f1 = s := by
  unfold psN
  rw [List.mem_map]
  constructor
  · rintro ⟨p, hp, e⟩
    have := hb p hp
    injection e with e1 e2
    exact ⟨p, hp, by omega, by omega⟩
  · rintro ⟨p, hp, e1, e2⟩
    exact ⟨p, hp, by rw [Prod.mk.injEq]; omega⟩
theorem okPs_true {l0 l1 : List Int} {a b : Int} {r : List S37} (h0 : l0.length ≤ 200) (h1 : l1.length ≤ 200) (hf : Fin l0 l1 a b r) : okPs l0 l1 r = true := by
  have := hf.len
  unfold okPs
  simp only [Bool.and_eq_true, decide_eq_true_eq, List.all_eq_true]
  exact ⟨⟨⟨by omega, by omega⟩, by omega⟩, fun p hp => by have := hf.rng p hp; omega⟩
theorem isP {l0 l1 : List Int} {a b : Int} {r : List S37} (hf : Fin l0 l1 a b r) : Is l0 l1 a b (psN r) (endP l0 l1 a b (psN r)) := by
  have hb : ∀ p ∈ r, 0 ≤ p.f0 ∧ 0 ≤ p.f1 := fun p hp => ⟨(hf.rng p hp).1, (hf.rng p hp).2.2.1⟩
  refine is_end ?_ ?_
  · rintro ⟨h, s⟩ hp
    obtain ⟨p, hp, e1, e2⟩ := (psN_mem hb).1 hp
    have := hf.rng p hp
    dsimp only; omega
  · have := hf.shaft
    unfold psN
    rw [List.nodup_iff_pairwise_ne, List.map_map, List.pairwise_map]
    rw [List.nodup_iff_pairwise_ne, List.pairwise_map] at this
    refine this.imp_of_mem ?_
    intro p q hp hq hne e
    have h1 := hb p hp
    have h2 := hb q hq
    dsimp only [Function.comp] at e
    exact hne (by omega)
end Go.Proofs.Ytkijhilmgljegaa.PT

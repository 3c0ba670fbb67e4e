/- Plain law: Blocked tells what the reference tells. Conditions: the printed statement's. -/
import Derived.Test.YtkijhilmgljegaaQBB8
import Derived.Test.YtkijhilmgljegaaQBPureFitB
set_option linter.unusedVariables false
namespace Go.Proofs.Ytkijhilmgljegaa.PB
open Go.RowKit Go.Proofs.YtkijhilmgljegaaW.PrintWords Go.Proofs.YtkijhilmgljegaaW.PrintLast Go.Proofs.YtkijhilmgljegaaW.PrintMore BlockedP
def adj (l0 l1 : List Int) (a b : Int) (h s : Nat) : Prop := a ≤ gap l0 l1 h s ∧ gap l0 l1 h s ≤ b
instance (l0 l1 : List Int) (a b : Int) (h s : Nat) : Decidable (adj l0 l1 a b h s) := inferInstanceAs (Decidable (_ ∧ _))
def Shut (l0 l1 : List Int) (a b : Int) (ps : List (Nat × Nat)) (P : Nat → Prop) : Prop :=
  (∀ h, h < l0.length → (∀ s, (h, s) ∉ ps) → P h) ∧ (∀ h s h', (h, s) ∈ ps → h' < l0.length → P h' → adj l0 l1 a b h' s → P h)
def Reach (l0 l1 : List Int) (a b : Int) (ps : List (Nat × Nat)) (h : Nat) : Prop := ∀ P, Shut l0 l1 a b ps P → P h
theorem reach_shut (l0 l1 : List Int) (a b : Int) (ps : List (Nat × Nat)) : Shut l0 l1 a b ps (Reach l0 l1 a b ps) :=
  ⟨fun h hh hn P hP => hP.1 h hh hn, fun h s h' hm hl hr ha P hP => hP.2 h s h' hm hl (hr P hP) ha⟩
structure Is (l0 l1 : List Int) (a b : Int) (ps : List (Nat × Nat)) (ins : List Bool) : Prop where
  len : ins.length = l0.length
  snd : ∀ h, h < l0.length → ins.getD h false = true → Reach l0 l1 a b ps h
  cpl : Shut l0 l1 a b ps (fun h => ins.getD h false = true)
theorem Is.eq {l0 l1 : List Int} {a b : Int} {ps : List (Nat × Nat)} {x y : List Bool} (hx : Is l0 l1 a b ps x) (hy : Is l0 l1 a b ps y) : x = y := by
  apply List.ext_getElem (hx.len.trans hy.len.symm)
  intro i h1 h2
  have e1 : x.getD i false = x[i] := by simp [h1]
  have e2 : y.getD i false = y[i] := by simp [h2]
  have hi : i < l0.length := by rw [← hx.len]; exact h1
  rw [← e1, ← e2, Bool.eq_iff_iff]
  exact ⟨fun h => hx.snd i hi h _ hy.cpl, fun h => hy.snd i hi h _ hx.cpl⟩
theorem fits_iff {l0 l1 : List Int} {a b : Int} {ins : List Bool} (hl : ins.length = l0.length) (s : Nat) : fits l0 l1 a b ins s = true ↔ ∃ h, h < l0.length ∧ ins.getD h false = true ∧ adj l0 l1 a b h s := by
  unfold fits
  rw [List.any_eq_true]
  constructor
  · rintro ⟨h, hm, hf⟩
    unfold fitAt at hf
    simp only [Bool.and_eq_true, decide_eq_true_eq] at hf
    exact ⟨h, by have := List.mem_range.1 hm; omega, hf.1, hf.2.1, hf.2.2⟩
  · rintro ⟨h, hl', hi, h1, h2⟩
    refine ⟨h, List.mem_range.2 (by omega), ?_⟩
    unfold fitAt
    rw [hi, decide_eq_true h1, decide_eq_true h2]; rfl
section
variable {l0 l1 : List Int} {a b : Int} {ps : List (Nat × Nat)} (hs : ∀ p ∈ ps, p.1 < l0.length ∧ p.2 < l1.length) (hn2 : (ps.map (·.2)).Nodup)
include hs
omit hs in
theorem mateF_of (hn2 : (ps.map (·.2)).Nodup) : ∀ (h s : Nat), (h, s) ∈ ps → mateF ps s = some h := by
  rw [← List.reverse_reverse ps] at hn2 ⊢
  generalize ps.reverse = r at *
  induction r with
  | nil => intro h s hm; simp at hm
  | cons p r ih =>
    intro h s hm
    rw [List.reverse_cons, List.map_append, List.nodup_append] at hn2
    rw [List.reverse_cons] at hm ⊢
    rw [mateF_snoc]
    rcases List.mem_append.1 hm with hm | hm
    · have hne : s ≠ p.2 := fun e => hn2.2.2 s (List.mem_map.2 ⟨(h, s), hm, rfl⟩) p.2 (by simp) e
      rw [if_neg hne]; exact ih hn2.1 h s hm
    · rw [List.mem_singleton] at hm
      subst hm; rw [if_pos rfl]
omit hs in
theorem outAll_get : ∀ (n h : Nat), h < n → ((outAll (List.replicate n true) ps).getD h false = true ↔ ∀ s, (h, s) ∉ ps) := by
  intro n h hh
  rw [← List.reverse_reverse ps]
  generalize ps.reverse = r
  induction r with
  | nil => simp [outAll, hh]
  | cons p r ih =>
    rw [List.reverse_cons, outAll_snoc]
    have hl : (outAll (List.replicate n true) r.reverse).length = n := by rw [len_outAll]; simp
    rw [List.getD_eq_getElem?_getD]
    by_cases e : p.1 = h
    · subst e
      rw [List.getElem?_set_self (by omega)]
      constructor
      · intro h; simp at h
      · intro h2; exact absurd (List.mem_append_right _ (by simp)) (h2 p.2)
    · rw [List.getElem?_set_ne e, ← List.getD_eq_getElem?_getD, ih]
      constructor
      · intro h2 s hm
        rcases List.mem_append.1 hm with hm | hm
        · exact h2 s hm
        · rw [List.mem_singleton] at hm; subst hm; exact e rfl
      · intro h2 s hm; exact h2 s (List.mem_append_left _ hm)
structure Mid (l0 l1 : List Int) (a b : Int) (ps : List (Nat × Nat)) (ins : List Bool) : Prop where
  len : ins.length = l0.length
  snd : ∀ h, h < l0.length → ins.getD h false = true → Reach l0 l1 a b ps h
  one : ∀ h, h < l0.length → (∀ s, (h, s) ∉ ps) → ins.getD h false = true
omit hs in
theorem getD_set (ins : List Bool) (i h : Nat) (hi : i < ins.length) : (ins.set i true).getD h false = if h = i then true else ins.getD h false := by
  rw [List.getD_eq_getElem?_getD]
  by_cases e : h = i
  · subst e; rw [List.getElem?_set_self hi, if_pos rfl]; rfl
  · rw [List.getElem?_set_ne (Ne.symm e), if_neg e, List.getD_eq_getElem?_getD]
omit hs in
theorem Mid.set {ins : List Bool} (h : Mid l0 l1 a b ps ins) {i : Nat} (hi : i < l0.length) (hr : Reach l0 l1 a b ps i) : Mid l0 l1 a b ps (ins.set i true) := by
  have hil : i < ins.length := by rw [h.len]; exact hi
  refine ⟨by rw [List.length_set]; exact h.len, fun t ht e => ?_, fun t ht hn => ?_⟩
  · rw [getD_set ins i t hil] at e
    split at e
    · rename_i q; rw [q]; exact hr
    · exact h.snd t ht e
  · rw [getD_set ins i t hil]; split
    · rfl
    · exact h.one t ht hn
theorem mid_grow1 (hn2 : (ps.map (·.2)).Nodup) {st : List Bool × Bool} {s : Nat} (h : Mid l0 l1 a b ps st.1) (hsl : s < l1.length) : Mid l0 l1 a b ps (grow1 l0 l1 a b (mateF ps) st s).1 := by
  unfold grow1
  split
  · rename_i hh e
    have hm := mateF_mem _ _ _ e
    have hr := hs _ hm
    split
    · rename_i c
      simp only [Bool.and_eq_true, Bool.not_eq_true'] at c
      obtain ⟨t, ht, hti, hta⟩ := (fits_iff h.len s).1 c.2
      exact h.set hr.1 ((reach_shut l0 l1 a b ps).2 hh s t hm ht (h.snd t ht hti) hta)
    · exact h
  · exact h
theorem mid_growR (hn2 : (ps.map (·.2)).Nodup) : ∀ (n i : Nat) (st : List Bool × Bool), i + n ≤ l1.length → Mid l0 l1 a b ps st.1 → Mid l0 l1 a b ps (growR l0 l1 a b (mateF ps) st i n).1 ∧ cnt (growR l0 l1 a b (mateF ps) st i n).1 ≤ cnt st.1 ∧
    ((growR l0 l1 a b (mateF ps) st i n).2 = true → st.2 = true ∨ cnt (growR l0 l1 a b (mateF ps) st i n).1 < cnt st.1) ∧
    ((growR l0 l1 a b (mateF ps) st i n).2 = false → (growR l0 l1 a b (mateF ps) st i n).1 = st.1 ∧ st.2 = false ∧ ∀ s h, i ≤ s → s < i + n → mateF ps s = some h → st.1.getD h false = false → fits l0 l1 a b st.1 s = false)
  | 0, i, st, hi, h => by
    rw [growR_zero]
    exact ⟨h, Nat.le_refl _, fun e => .inl e, fun e => ⟨rfl, e, fun s h h1 h2 => by omega⟩⟩
  | n + 1, i, st, hi, h => by
    rw [growR_succ]
    have hm := mid_grow1 hs hn2 (st := st) (s := i) h (by omega)
    obtain ⟨c1, c2⟩ := cnt_grow1 l0 l1 a b (mateF ps) st i (fun s h' e => by have := hs _ (mateF_mem _ _ _ e); rw [h.len]; exact this.1)
    obtain ⟨g1, g2, g3, g4⟩ := mid_growR hn2 n (i + 1) (grow1 l0 l1 a b (mateF ps) st i) (by omega) hm
    refine ⟨g1, by omega, fun e => ?_, fun e => ?_⟩
    · rcases g3 e with e | e
      · rcases c2 e with e | e
        · exact .inl e
        · exact .inr (by omega)
      · exact .inr (by omega)
    · obtain ⟨e1, e2, e3⟩ := g4 e
      have e4 : grow1 l0 l1 a b (mateF ps) st i = st ∧ ∀ h, mateF ps i = some h → st.1.getD h false = false → fits l0 l1 a b st.1 i = false := by
        unfold grow1 at e2 ⊢
        split
        · rename_i hh em
          rw [em] at e2
          dsimp only at e2
          split
          · rename_i c
            rw [if_pos c] at e2
            exact absurd e2 (by simp)
          · rename_i c
            refine ⟨rfl, fun h he hf => ?_⟩
            rw [em] at he
            injection he with he
            subst he
            cases q : fits l0 l1 a b st.1 i with
            | false => rfl
            | true => exact absurd (by rw [hf, q]; rfl) c
        · rename_i em
          exact ⟨rfl, fun h he => by rw [em] at he; exact absurd he (by simp)⟩
      rw [e4.1] at e1 e2 e3 ⊢
      refine ⟨e1, e2, fun s h h1 h2 h3 h4 => ?_⟩
      by_cases q : s = i
      · subst q; exact e4.2 h h3 h4
      · exact e3 s h (by omega) (by omega) h3 h4
theorem is_growL (hn2 : (ps.map (·.2)).Nodup) : ∀ (f : Nat) (ins : List Bool), cnt ins < f → Mid l0 l1 a b ps ins → Is l0 l1 a b ps (growL l0 l1 a b (mateF ps) f ins)
  | 0, ins, hf, _ => by omega
  | f + 1, ins, hf, h => by
    rw [growL]
    obtain ⟨g1, g2, g3, g4⟩ := mid_growR hs hn2 l1.length 0 (ins, false) (by omega) h
    by_cases c : (growR l0 l1 a b (mateF ps) (ins, false) 0 l1.length).2 = true
    · rw [if_pos c]
      refine is_growL hn2 f _ ?_ g1
      rcases g3 c with e | e
      · exact absurd e (by simp)
      · have : cnt (growR l0 l1 a b (mateF ps) (ins, false) 0 l1.length).1 < cnt ins := e
        omega
    · rw [if_neg c]
      obtain ⟨e1, _, e3⟩ := g4 (by simpa using c)
      rw [e1]
      refine ⟨h.len, h.snd, h.one, fun hh s h' hm hl hi ha => ?_⟩
      have hr := hs _ hm
      show ins.getD hh false = true
      cases q : ins.getD hh false with
      | true => rfl
      | false =>
        have := e3 s hh (Nat.zero_le _) (by omega) (mateF_of hn2 hh s hm) q
        have h2 := (fits_iff (l1 := l1) (a := a) (b := b) h.len s).2 ⟨h', hl, hi, ha⟩
        have h3 : fits l0 l1 a b ins s = false := this
        rw [h3] at h2; exact absurd h2 (by simp)
theorem is_end (hn2 : (ps.map (·.2)).Nodup) : Is l0 l1 a b ps (endP l0 l1 a b ps) := by
  unfold endP
  refine is_growL hs hn2 _ _ ?_ ⟨by rw [len_outAll]; simp, fun h hh e => ?_, fun h hh hn => ?_⟩
  · have := cnt_le (outAll (List.replicate l0.length true) ps)
    rw [len_outAll] at this
    simp at this
    omega
  · exact (reach_shut l0 l1 a b ps).1 h hh ((outAll_get l0.length h hh).1 e)
  · exact (outAll_get l0.length h hh).2 hn
end
theorem rd_nat (l : List Int) (i : Nat) : rd l (i : Int) = l.getD i 0 := by simp [rd]
theorem rdB_nat (l : List Bool) (i : Nat) : rdOf false l (i : Int) = l.getD i false := by simp [rdOf]
theorem set_getD (l : List Bool) (i h : Nat) (v : Bool) (hi : i < l.length) : (l.set i v).getD h false = if h = i then v else l.getD h false := by
  rw [List.getD_eq_getElem?_getD]
  by_cases e : h = i
  · subst e; rw [List.getElem?_set_self hi, if_pos rfl]; rfl
  · rw [List.getElem?_set_ne (Ne.symm e), if_neg e, List.getD_eq_getElem?_getD]
theorem fits_set {l0 l1 : List Int} {a b : Int} {ins : List Bool} (hl : ins.length = l0.length) (i s : Nat) (hi : i < l0.length) : fits l0 l1 a b (ins.set i true) s = (fits l0 l1 a b ins s || decide (adj l0 l1 a b i s)) := by
  rw [Bool.eq_iff_iff, Bool.or_eq_true, decide_eq_true_eq, fits_iff (by rw [List.length_set]; exact hl), fits_iff hl]
  constructor
  · rintro ⟨h, h1, h2, h3⟩
    rw [set_getD _ _ _ _ (by omega)] at h2
    split at h2
    · rename_i e; subst e; exact .inr h3
    · exact .inl ⟨h, h1, h2, h3⟩
  · rintro (⟨h, h1, h2, h3⟩ | h3)
    · refine ⟨h, h1, ?_, h3⟩
      rw [set_getD _ _ _ _ (by omega)]; split
      · rfl
      · exact h2
    · exact ⟨i, hi, by rw [set_getD _ _ _ _ (by omega), if_pos rfl], h3⟩
theorem told_l0 (L : List Bool) (hl : L.length ≤ 200) : ∀ (m i : Nat), m = L.length - i → i ≤ L.length → Ev (fun k => spec_l08Told.l0 k L (told (fun t => L.getD t false) i) (i : Int)) (told (fun t => L.getD t false) L.length)
  | 0, i, hm, hi => by
    obtain rfl : L.length = i := by omega
    exact Ev.step (fun k => by rw [spec_l08Told.l0]) (ev_ifF (by omega) (Ev.now _))
  | m + 1, i, hm, hi => by
    have htl := told_len (fun t => L.getD t false) i
    have ih := told_l0 L hl m (i + 1) (by omega) (by omega)
    rw [told_succ] at ih
    refine Ev.step (fun k => by rw [spec_l08Told.l0]) ?_
    refine ev_ifT (by omega) ?_
    refine ev_ifT (by omega) ?_
    rw [rdB_nat]
    by_cases c : L.getD i false = true
    · refine ev_ifT c ?_
      refine ev_ifT (by omega) ?_
      rw [succ64 (by omega)]
      rw [if_pos c] at ih; exact ih
    · refine ev_ifF c ?_
      rw [succ64 (by omega)]
      rw [if_neg c] at ih; exact ih
theorem told_f (L : List Bool) (hl : L.length ≤ 200) : Ev (fun k => spec_l08Told.f k L) (told (fun t => L.getD t false) L.length) := by
  unfold spec_l08Told.f
  exact told_l0 L hl L.length 0 (by omega) (Nat.zero_le _)
theorem told_congr (p q : Nat → Bool) (n : Nat) (h : ∀ t, t < n → p t = q t) : told p n = told q n := by
  unfold told
  congr 1
  exact List.filter_congr fun x hx => h x (by simpa using hx)
structure Sofar (l0 l1 : List Int) (a b : Int) (ps : List (Nat × Nat)) (ins : List Bool) : Prop where
  len : ins.length = l0.length
  snd : ∀ h, h < l0.length → ins.getD h false = true → Reach l0 l1 a b ps h
theorem Sofar.set {l0 l1 : List Int} {a b : Int} {ps : List (Nat × Nat)} {ins : List Bool} (h : Sofar l0 l1 a b ps ins) {i : Nat} (hi : i < l0.length) (hr : Reach l0 l1 a b ps i) : Sofar l0 l1 a b ps (ins.set i true) := by
  have hil : i < ins.length := by rw [h.len]; exact hi
  refine ⟨by rw [List.length_set]; exact h.len, fun t ht e => ?_⟩
  rw [getD_set ins i t hil] at e
  split at e
  · rename_i q; rw [q]; exact hr
  · exact h.snd t ht e
section
variable (l0 l1 : List Int) (a b : Int) (ps : List (Nat × Nat)) (M : List Int) (h0 : l0.length ≤ 200) (h1 : l1.length ≤ 200) (hs : ∀ p ∈ ps, p.1 < l0.length ∧ p.2 < l1.length)
  (hM : M.length = l0.length) (hM1 : ∀ h s, (h, s) ∈ ps → rd M (h : Int) = (s : Int)) (hM2 : ∀ h, h < l0.length → (∀ s, (h, s) ∉ ps) → rd M (h : Int) < 0)
def Out (g : Nat → Option (List Int × List Int × Int)) : Prop :=
  ∃ X Y : List Bool, Is l0 l1 a b ps X ∧ Y.length = l1.length ∧ (∀ s, s < l1.length → Y.getD s false = fits l0 l1 a b X s) ∧ Ev g (told (fun t => X.getD t false) l0.length, told (fun t => Y.getD t false) l1.length, 0)
def FitOk (ins fit : List Bool) : Prop := fit.length = l1.length ∧ ∀ s, s < l1.length → fit.getD s false = fits l0 l1 a b ins s
theorem Out.step {g f : Nat → Option (List Int × List Int × Int)} (hg : ∀ k, g (k + 1) = f k) (h : Out l0 l1 a b ps f) : Out l0 l1 a b ps g := by
  obtain ⟨X, Y, h1, h2, h3, h4⟩ := h
  exact ⟨X, Y, h1, h2, h3, h4.step hg⟩
theorem Out.ifT {c : Prop} [Decidable c] {f g : Nat → Option (List Int × List Int × Int)} (h : c) (e : Out l0 l1 a b ps f) : Out l0 l1 a b ps (fun k => if c then f k else g k) := by
  obtain ⟨X, Y, h1, h2, h3, h4⟩ := e
  exact ⟨X, Y, h1, h2, h3, ev_ifT h h4⟩
theorem Out.ifF {c : Prop} [Decidable c] {f g : Nat → Option (List Int × List Int × Int)} (h : ¬ c) (e : Out l0 l1 a b ps g) : Out l0 l1 a b ps (fun k => if c then f k else g k) := by
  obtain ⟨X, Y, h1, h2, h3, h4⟩ := e
  exact ⟨X, Y, h1, h2, h3, ev_ifF h h4⟩
include h0 h1
theorem sp_l4 (i : Nat) (hi : i < l0.length) (ins : List Bool) (hil : ins.length = l0.length)
    (cont : ∀ fit', fit'.length = l1.length → (∀ s, s < l1.length → fit'.getD s false = (fits l0 l1 a b ins s || decide (adj l0 l1 a b i s))) → Out l0 l1 a b ps (fun k => spec_Blocked.l3 k l0 l1 a b M (ins.set i true) fit' true ((i + 1 : Nat) : Int))) :
    ∀ (m j : Nat) (fit : List Bool), m = l1.length - j → j ≤ l1.length → fit.length = l1.length → (∀ s, s < l1.length → fit.getD s false = (fits l0 l1 a b ins s || (decide (s < j) && decide (adj l0 l1 a b i s)))) →
    Out l0 l1 a b ps (fun k => spec_Blocked.l4 k l0 l1 a b M (ins.set i true) fit true (i : Int) (j : Int))
  | 0, j, fit, hm, hj, hfl, hf => by
    refine Out.step _ _ _ _ _ (fun k => by rw [spec_Blocked.l4]) ?_
    refine Out.ifF _ _ _ _ _ (by omega) ?_
    rw [succ64 (by omega)]
    exact cont fit hfl (fun s hs => by rw [hf s hs, decide_eq_true (show s < j by omega), Bool.true_and])
  | m + 1, j, fit, hm, hj, hfl, hf => by
    have e0 : rd l0 (i : Int) - rd l1 (j : Int) = l0.getD i 0 - l1.getD j 0 := by rw [rd_nat, rd_nat]
    have go : ∀ v : Bool, v = (fit.getD j false || decide (adj l0 l1 a b i j)) → Out l0 l1 a b ps (fun k => spec_Blocked.l4 k l0 l1 a b M (ins.set i true) (fit.set j v) true (i : Int) ((j + 1 : Nat) : Int)) := fun v hv => by
      refine sp_l4 i hi ins hil cont m (j + 1) (fit.set j v) (by omega) (by omega) (by rw [List.length_set]; exact hfl) (fun s hs => ?_)
      rw [set_getD _ _ _ _ (by omega)]
      by_cases e : s = j
      · subst e
        rw [if_pos rfl, hv, hf s hs, decide_eq_false (Nat.lt_irrefl _), decide_eq_true (Nat.lt_succ_self _)]; simp
      · rw [if_neg e, hf s hs]
        congr 2
        rw [decide_eq_decide]; omega
    refine Out.step _ _ _ _ _ (fun k => by rw [spec_Blocked.l4]) ?_
    refine Out.ifT _ _ _ _ _ (show (j : Int) < (l1.length : Int) by omega) ?_
    refine Out.ifT _ _ _ _ _ (show (0 : Int) ≤ (i : Int) by omega) ?_
    refine Out.ifT _ _ _ _ _ (show (i : Int) < (l0.length : Int) by omega) ?_
    refine Out.ifT _ _ _ _ _ (show (0 : Int) ≤ (j : Int) by omega) ?_
    refine Out.ifT _ _ _ _ _ (show (j : Int) < (fit.length : Int) by omega) ?_
    rw [rdB_nat, e0, Int.toNat_natCast]
    by_cases c1 : fit.getD j false = true
    · refine Out.ifT _ _ _ _ _ c1 ?_
      rw [succ64 (i := j) (by omega)]
      exact go true (by rw [c1]; rfl)
    refine Out.ifF _ _ _ _ _ c1 ?_
    have c1' : fit.getD j false = false := by simpa using c1
    by_cases c2 : wrap64 (l0.getD i 0 - l1.getD j 0) ≥ a
    · refine Out.ifT _ _ _ _ _ c2 ?_
      rw [succ64 (i := j) (by omega)]
      refine go _ ?_
      rw [c1', Bool.false_or, decide_eq_decide]
      exact ⟨fun h => ⟨c2, h⟩, fun h => h.2⟩
    · refine Out.ifF _ _ _ _ _ c2 ?_
      rw [succ64 (i := j) (by omega)]
      exact go false (by rw [c1', Bool.false_or, eq_comm, decide_eq_false_iff_not]; exact fun h => c2 h.1)
include hs hM hM1 hM2
theorem sp_l3 (c0 : Nat) (IH : ∀ ins fit, Sofar l0 l1 a b ps ins → FitOk l0 l1 a b ins fit → cnt ins < c0 → Out l0 l1 a b ps (fun k => spec_Blocked.l2 k l0 l1 a b M ins fit true)) :
    ∀ (m i : Nat) (ins fit : List Bool) (g : Bool), m = l0.length - i → i ≤ l0.length → Sofar l0 l1 a b ps ins → FitOk l0 l1 a b ins fit → cnt ins ≤ c0 → (g = true → cnt ins < c0) → (g = false → ∀ h, h < i → ins.getD h false = true ∨ ∃ s, (h, s) ∈ ps ∧ fits l0 l1 a b ins s = false) →
    Out l0 l1 a b ps (fun k => spec_Blocked.l3 k l0 l1 a b M ins fit g (i : Int))
  | 0, i, ins, fit, g, hm, hi, hmid, hfit, hc, hg, hcl => by
    refine Out.step _ _ _ _ _ (fun k => by rw [spec_Blocked.l3]) ?_
    refine Out.ifF _ _ _ _ _ (by omega) ?_
    cases g with
    | true => exact IH ins fit hmid hfit (hg rfl)
    | false =>
      refine Out.step _ _ _ _ _ (fun k => by rw [spec_Blocked.l2]) ?_
      refine Out.ifF _ _ _ _ _ (by simp) ?_
      refine ⟨ins, fit, ⟨hmid.len, hmid.snd, fun h hh hn => ?_, fun h s h' hm' hl hin ha => ?_⟩, hfit.1, hfit.2, ?_⟩
      · rcases hcl rfl h (by omega) with e | ⟨s', hs', _⟩
        · exact e
        · exact absurd hs' (hn s')
      · have hr := hs _ hm'
        rcases hcl rfl h (by have := hr.1; dsimp only at this; omega) with e | ⟨s', hs', e⟩
        · exact e
        · have e1 := hM1 h s hm'
          have e2 := hM1 h s' hs'
          have : s' = s := by omega
          subst this
          have := (fits_iff (l1 := l1) (a := a) (b := b) hmid.len s').2 ⟨h', hl, hin, ha⟩
          rw [e] at this; exact absurd this (by simp)
      · have t1 := told_f ins (by rw [hmid.len]; exact h0)
        have t2 := told_f fit (by rw [hfit.1]; exact h1)
        rw [hmid.len] at t1
        rw [hfit.1] at t2
        exact Ev.bind t1 (Ev.bind t2 (Ev.now _))
  | m + 1, i, ins, fit, g, hm, hi, hmid, hfit, hc, hg, hcl => by
    have hil := hmid.len
    have stay : (ins.getD i false = true ∨ ∃ s, (i, s) ∈ ps ∧ fits l0 l1 a b ins s = false) → Out l0 l1 a b ps (fun k => spec_Blocked.j4 k l0 l1 a b M ins fit g (i : Int) true) := fun hstay => by
      refine Out.step _ _ _ _ _ (fun k => by rw [spec_Blocked.j4]) ?_
      refine Out.ifT _ _ _ _ _ rfl ?_
      rw [succ64 (i := i) (by omega)]
      refine sp_l3 c0 IH m (i + 1) ins fit g (by omega) (by omega) hmid hfit hc hg (fun e h hh => ?_)
      by_cases q : h = i
      · subst q; exact hstay
      · exact hcl e h (by omega)
    have take : ins.getD i false = false → Reach l0 l1 a b ps i → Out l0 l1 a b ps (fun k => spec_Blocked.j4 k l0 l1 a b M ins fit g (i : Int) false) := fun hno hr => by
      refine Out.step _ _ _ _ _ (fun k => by rw [spec_Blocked.j4]) ?_
      refine Out.ifF _ _ _ _ _ (by simp) ?_
      refine Out.ifT _ _ _ _ _ (show (0 : Int) ≤ (i : Int) by omega) ?_
      refine Out.ifT _ _ _ _ _ (show (i : Int) < (ins.length : Int) by omega) ?_
      rw [Int.toNat_natCast]
      have hcs := cnt_set ins i (by omega) hno
      refine sp_l4 l0 l1 a b ps M h0 h1 i (by omega) ins hil (fun fit' hfl hf => ?_) l1.length 0 fit (by omega) (Nat.zero_le _) hfit.1 (fun s hs' => by rw [hfit.2 s hs', decide_eq_false (Nat.not_lt_zero _)]; simp)
      exact sp_l3 c0 IH m (i + 1) (ins.set i true) fit' true (by omega) (by omega) (hmid.set (by omega) hr) ⟨hfl, fun s hs' => by rw [hf s hs', fits_set hil i s (by omega)]⟩ (by omega) (fun _ => by omega) (fun e => by simp at e)
    refine Out.step _ _ _ _ _ (fun k => by rw [spec_Blocked.l3]) ?_
    refine Out.ifT _ _ _ _ _ (show (i : Int) < (l0.length : Int) by omega) ?_
    refine Out.ifT _ _ _ _ _ (show (0 : Int) ≤ (i : Int) by omega) ?_
    refine Out.ifT _ _ _ _ _ (show (i : Int) < (ins.length : Int) by omega) ?_
    rw [rdB_nat]
    by_cases c1 : ins.getD i false = true
    · exact Out.ifT _ _ _ _ _ c1 (stay (.inl c1))
    refine Out.ifF _ _ _ _ _ c1 ?_
    have c1' : ins.getD i false = false := by simpa using c1
    refine Out.ifT _ _ _ _ _ (show (i : Int) < (M.length : Int) by omega) ?_
    by_cases c2 : ∃ s, (i, s) ∈ ps
    · obtain ⟨s, hsm⟩ := c2
      have e := hM1 i s hsm
      have hr := hs _ hsm
      dsimp only at hr
      have hf2 := hfit.2 s hr.2
      have hfl := hfit.1
      rw [e]
      refine Out.ifT _ _ _ _ _ (show (s : Int) ≥ 0 by omega) ?_
      refine Out.ifT _ _ _ _ _ (show (0 : Int) ≤ (s : Int) by omega) ?_
      refine Out.ifT _ _ _ _ _ (show (s : Int) < (fit.length : Int) by omega) ?_
      rw [rdB_nat, hf2]
      cases q : fits l0 l1 a b ins s with
      | true =>
        obtain ⟨h', hl, hin, ha⟩ := (fits_iff hil s).1 q
        exact take c1' ((reach_shut l0 l1 a b ps).2 i s h' hsm hl (hmid.snd h' hl hin) ha)
      | false => exact stay (.inr ⟨s, hsm, q⟩)
    · have hno : ∀ s, (i, s) ∉ ps := fun s h => c2 ⟨s, h⟩
      have := hM2 i (by omega) hno
      refine Out.ifF _ _ _ _ _ (show ¬ rd M (i : Int) ≥ 0 by omega) ?_
      exact take c1' ((reach_shut l0 l1 a b ps).1 i (by omega) hno)
theorem sp_l2 : ∀ (c : Nat) (ins fit : List Bool), cnt ins < c → Sofar l0 l1 a b ps ins → FitOk l0 l1 a b ins fit → Out l0 l1 a b ps (fun k => spec_Blocked.l2 k l0 l1 a b M ins fit true)
  | 0, ins, fit, hc, _, _ => by omega
  | c + 1, ins, fit, hc, hm, hf => by
    refine Out.step _ _ _ _ _ (fun k => by rw [spec_Blocked.l2]) ?_
    refine Out.ifT _ _ _ _ _ rfl ?_
    exact sp_l3 l0 l1 a b ps M h0 h1 hs hM hM1 hM2 (cnt ins) (fun ins' fit' h1' h2' h3' => sp_l2 c ins' fit' (by omega) h1' h2') l0.length 0 ins fit false (by omega) (Nat.zero_le _) hm hf (Nat.le_refl _) (fun e => by simp at e) (fun _ h hh => by omega)
end
def markM (M : List Int) (r : List S37) : List Int := r.foldl (fun M p => M.set p.f0.toNat p.f1) M
theorem markM_len : ∀ (r : List S37) (M : List Int), (markM M r).length = M.length
  | [], _ => rfl
  | p :: r, M => by show (markM (M.set _ _) r).length = _; rw [markM_len r, List.length_set]
theorem markM_no : ∀ (r : List S37) (M : List Int) (h : Nat), (∀ p ∈ r, p.f0.toNat ≠ h) → (markM M r).getD h 0 = M.getD h 0
  | [], _, _, _ => rfl
  | p :: r, M, h, hn => by
    show (markM (M.set _ _) r).getD h 0 = _
    rw [markM_no r _ h (fun q hq => hn q (List.mem_cons_of_mem _ hq)), List.getD_eq_getElem?_getD, List.getElem?_set_ne (hn p (List.mem_cons_self ..)), ← List.getD_eq_getElem?_getD]
theorem markM_yes : ∀ (r : List S37) (M : List Int), (∀ p ∈ r, 0 ≤ p.f0 ∧ p.f0 < M.length) → (r.map fun p => p.f0).Nodup → ∀ p ∈ r, (markM M r).getD p.f0.toNat 0 = p.f1
  | [], _, _, _, p, hp => by simp at hp
  | q :: r, M, hb, hn, p, hp => by
    rw [List.map_cons, List.nodup_cons] at hn
    have hq := hb q (List.mem_cons_self ..)
    show (markM (M.set _ _) r).getD _ 0 = _
    rcases List.mem_cons.1 hp with e | hp
    · subst e
      rw [markM_no r _ _ (fun s hs e => hn.1 (List.mem_map.2 ⟨s, hs, by have := hb s (List.mem_cons_of_mem _ hs); omega⟩)), List.getD_eq_getElem?_getD, List.getElem?_set_self (by omega)]; rfl
    · exact markM_yes r _ (fun s hs => by rw [List.length_set]; exact hb s (List.mem_cons_of_mem _ hs)) hn.2 p hp
theorem markM_snoc (M : List Int) (r : List S37) (p : S37) : markM M (r ++ [p]) = (markM M r).set p.f0.toNat p.f1 := by simp [markM]
theorem psN_mem {r : List S37} {h s : Nat} (hb : ∀ p ∈ r, 0 ≤ p.f0 ∧ 0 ≤ p.f1) : (h, s) ∈ psN r ↔ ∃ p ∈ r, p.f0 = h ∧ p.f1 = s := by
  unfold psN
  rw [List.mem_map]
  constructor
  · rintro ⟨p, hp, e⟩
    have := hb p hp
    injection e with e1 e2
    exact ⟨p, hp, by omega, by omega⟩
  · rintro ⟨p, hp, e1, e2⟩
    exact ⟨p, hp, by rw [Prod.mk.injEq]; omega⟩
section
variable (l0 l1 : List Int) (a b : Int) (r : List S37) (h0 : l0.length ≤ 200) (h1 : l1.length ≤ 200) (hf : Fin l0 l1 a b r)
include h0 h1 hf
theorem sp_all : Out l0 l1 a b (psN r) (fun k => spec_Blocked.l2 k l0 l1 a b (markM (List.replicate l0.length (-1)) r) (List.replicate l0.length false) (List.replicate l1.length false) true) := by
  have hb : ∀ p ∈ r, 0 ≤ p.f0 ∧ 0 ≤ p.f1 := fun p hp => ⟨(hf.rng p hp).1, (hf.rng p hp).2.2.1⟩
  refine sp_l2 l0 l1 a b (psN r) (markM (List.replicate l0.length (-1)) r) h0 h1 ?_ ?_ ?_ ?_ (cnt (List.replicate l0.length false) + 1) _ _ (Nat.lt_succ_self _) ⟨by simp, fun h hh e => ?_⟩ ⟨by simp, fun s hs => ?_⟩
  · rintro ⟨h, s⟩ hp
    obtain ⟨p, hp, e1, e2⟩ := (psN_mem hb).1 hp
    have := hf.rng p hp
    dsimp only; omega
  · rw [markM_len]; simp
  · intro h s hp
    obtain ⟨p, hp, e1, e2⟩ := (psN_mem hb).1 hp
    have := markM_yes r (List.replicate l0.length (-1)) (fun p hp => by have := hf.rng p hp; simp; omega) hf.hole p hp
    rw [rd_nat]
    rw [show p.f0.toNat = h by omega] at this
    rw [this, e2]
  · intro h hh hn
    rw [rd_nat, markM_no r _ h (fun p hp e => hn p.f1.toNat ((psN_mem hb).2 ⟨p, hp, by have := hb p hp; omega, by have := hb p hp; omega⟩))]
    simp [hh]
  · simp [hh] at e
  · simp only [List.getD_eq_getElem?_getD, List.getElem?_replicate, hs]
    symm
    rw [if_pos trivial]
    apply fits_no
    intro t ht
    simp at ht
    simp [fitAt, ht]
theorem sp_l1 : ∀ (m i : Nat), m = r.length - i → i ≤ r.length → Out l0 l1 a b (psN r) (fun k => spec_Blocked.l1 k l0 l1 a b r (markM (List.replicate l0.length (-1)) (r.take i)) (i : Int))
  | 0, i, hm, hi => by
    refine Out.step _ _ _ _ _ (fun k => by rw [spec_Blocked.l1]) ?_
    refine Out.ifF _ _ _ _ _ (by omega) ?_
    refine Out.ifT _ _ _ _ _ (by omega) ?_
    refine Out.ifT _ _ _ _ _ (by omega) ?_
    refine Out.ifT _ _ _ _ _ (by omega) ?_
    refine Out.ifT _ _ _ _ _ (by omega) ?_
    rw [List.take_of_length_le (by omega), Int.toNat_natCast, Int.toNat_natCast]
    exact sp_all l0 l1 a b r h0 h1 hf
  | m + 1, i, hm, hi => by
    have hl := hf.len
    have hb := hf.rng r[i] (List.getElem_mem (by omega))
    refine Out.step _ _ _ _ _ (fun k => by rw [spec_Blocked.l1]) ?_
    refine Out.ifT _ _ _ _ _ (show (i : Int) < (r.length : Int) by omega) ?_
    refine Out.ifT _ _ _ _ _ (show (0 : Int) ≤ (i : Int) by omega) ?_
    rw [rdT_get r i (by omega)]
    refine Out.ifT _ _ _ _ _ hb.1 ?_
    refine Out.ifT _ _ _ _ _ (by rw [markM_len, List.length_replicate]; exact hb.2.1) ?_
    rw [succ64 (i := i) (by omega), ← markM_snoc, List.take_append_getElem (by omega)]
    exact sp_l1 m (i + 1) (by omega) (by omega)
theorem sp_l0 : ∀ (m i : Nat), m = l0.length - i → i ≤ l0.length → Out l0 l1 a b (psN r) (fun k => spec_Blocked.l0 k l0 l1 a b r (List.replicate i (-1)) (l0.length : Int) (i : Int))
  | 0, i, hm, hi => by
    obtain rfl : l0.length = i := by omega
    refine Out.step _ _ _ _ _ (fun k => by rw [spec_Blocked.l0]) ?_
    refine Out.ifF _ _ _ _ _ (by omega) ?_
    exact sp_l1 l0 l1 a b r h0 h1 hf r.length 0 (by omega) (Nat.zero_le _)
  | m + 1, i, hm, hi => by
    refine Out.step _ _ _ _ _ (fun k => by rw [spec_Blocked.l0]) ?_
    refine Out.ifT _ _ _ _ _ (show (i : Int) < (l0.length : Int) by omega) ?_
    refine Out.ifT _ _ _ _ _ (by rw [List.length_replicate]; omega) ?_
    rw [succ64 (i := i) (by omega), ← List.replicate_succ']
    exact sp_l0 m (i + 1) (by omega) (by omega)
theorem sp_told : Ev (fun k => spec_Blocked.l0 k l0 l1 a b r [] (l0.length : Int) 0) (aP l0 l1 a b (psN r), bP l0 l1 a b (psN r), 0) := by
  obtain ⟨X, Y, hX, hY, hY2, e⟩ := sp_l0 l0 l1 a b r h0 h1 hf l0.length 0 (by omega) (Nat.zero_le _)
  have hb : ∀ p ∈ r, 0 ≤ p.f0 ∧ 0 ≤ p.f1 := fun p hp => ⟨(hf.rng p hp).1, (hf.rng p hp).2.2.1⟩
  have hE : Is l0 l1 a b (psN r) (endP l0 l1 a b (psN r)) := by
    refine is_end ?_ ?_
    · rintro ⟨h, s⟩ hp
      obtain ⟨p, hp, e1, e2⟩ := (psN_mem hb).1 hp
      have := hf.rng p hp
      dsimp only; omega
    · have := hf.shaft
      unfold psN
      rw [List.nodup_iff_pairwise_ne, List.map_map, List.pairwise_map]
      rw [List.nodup_iff_pairwise_ne, List.pairwise_map] at this
      refine this.imp_of_mem ?_
      intro p q hp hq hne e
      have h1 := hb p hp
      have h2 := hb q hq
      dsimp only [Function.comp] at e
      exact hne (by omega)
  have hXE := hX.eq hE
  subst hXE
  have e2 : told (fun t => Y.getD t false) l1.length = bP l0 l1 a b (psN r) := told_congr _ _ _ hY2
  rw [e2] at e
  exact e
end
theorem okPs_true {l0 l1 : List Int} {a b : Int} {r : List S37} (h0 : l0.length ≤ 200) (h1 : l1.length ≤ 200) (hf : Fin l0 l1 a b r) : okPs l0 l1 r = true := by
  have := hf.len
  unfold okPs
  simp only [Bool.and_eq_true, decide_eq_true_eq, List.all_eq_true]
  exact ⟨⟨⟨by omega, by omega⟩, by omega⟩, fun p hp => by have := hf.rng p hp; omega⟩
theorem bothB (l0 l1 : List Int) (a b : Int) (g0 : l0.length ≤ 1048576) (g1 : l1.length ≤ 1048576) : ∃ (x y : List Int) (c : Int), x.length ≤ 200 ∧ y.length ≤ 200 ∧ Ev (fun k => spec_Blocked.f k l0 l1 a b) (x, y, c) ∧ Ev (fun k => impl_Blocked.f k l0 l1 a b) (x, y, c) := by
  obtain ⟨r, c, hf, hc, e1, e2⟩ := both l0 l1 a b g0 g1
  by_cases h : c = 0
  · subst h
    obtain ⟨h0, h1⟩ := hc rfl
    refine ⟨aP l0 l1 a b (psN r), bP l0 l1 a b (psN r), 0, Nat.le_trans (told_len _ _) h0, Nat.le_trans (told_len _ _) h1, ?_, ?_⟩
    · unfold spec_Blocked.f
      exact Ev.bind e1 (ev_ifT rfl (sp_told l0 l1 a b r h0 h1 hf))
    · unfold impl_Blocked.f
      refine Ev.bind e2 (ev_ifT rfl ?_)
      exact ev_ifT (okPs_true h0 h1 hf) (Ev.now _)
  · refine ⟨[], [], c, by simp, by simp, ?_, ?_⟩
    · unfold spec_Blocked.f
      exact Ev.bind e1 (ev_ifF h (Ev.now _))
    · unfold impl_Blocked.f
      exact Ev.bind e2 (ev_ifF h (Ev.now _))
def runI (a : Int) : Nat → List Int
  | 0 => []
  | m + 1 => a :: runI (a + 1) m
theorem runI_len (a : Int) (m : Nat) : (runI a m).length = m := by
  induction m generalizing a with
  | zero => rfl
  | succ m ih => simp [runI, ih]
theorem markI_l0 : ∀ (m i : Nat) (x : List Int) (a : Int), m = x.length - i → i ≤ x.length → x.length ≤ 35184372088832 → 0 ≤ a → a + m ≤ 1000000000000000000 →
    Ev (fun k => laws_markIntS.l0 k x a (i : Int)) (a + m, x.take i ++ runI a m)
  | 0, i, x, a, hm, hi, hl, h0, h1 => Ev.step (fun k => by rw [laws_markIntS.l0]) (ev_ifF (by omega) (by
      rw [show a + ((0 : Nat) : Int) = a by omega, show i = x.length by omega]; simp only [runI, List.append_nil, List.take_length]; exact Ev.now _))
  | m + 1, i, x, a, hm, hi, hl, h0, h1 => by
    have h := markI_l0 m (i + 1) (x.set i a) (a + 1) (by simp; omega) (by simp; omega) (by simp; omega) (by omega) (by omega)
    refine Ev.step (fun k => by rw [laws_markIntS.l0]) (ev_ifT (by omega) (ev_ifT (by omega) ?_))
    rw [succ64 (by omega), Int.toNat_natCast, pw64 (x := a + 1) (by omega) (by omega)]
    have e2 : (x.set i a).take (i + 1) ++ runI (a + 1) m = x.take i ++ runI a (m + 1) := by
      rw [List.take_add_one, List.take_set_of_le (Nat.le_refl i), List.getElem?_set_self (by omega), List.append_assoc]; rfl
    rw [show a + ((m + 1 : Nat) : Int) = a + 1 + m by omega, ← e2]; exact h
theorem markI (x : List Int) (a : Int) (hl : x.length ≤ 35184372088832) (h0 : 0 ≤ a) (h1 : a ≤ 100000000000000000) : Ev (fun k => laws_markIntS.f k x a) (a + x.length, runI a x.length) :=
  markI_l0 x.length 0 x a (by omega) (by omega) hl h0 (by omega)
theorem heldI_l0 : ∀ (m : Nat) (p : List Int) (a : Int), p.length + m ≤ 35184372088832 → 0 ≤ a → a + m ≤ 1000000000000000000 →
    Ev (fun k => laws_heldIntS.l0 k (p ++ runI a m) a (p.length : Int)) (a + m)
  | 0, p, a, hl, h0, h1 => Ev.step (fun k => by rw [laws_heldIntS.l0]) (ev_ifF (by simp [runI]) (by rw [show a + ((0 : Nat) : Int) = a by omega]; exact Ev.now _))
  | m + 1, p, a, hl, h0, h1 => by
    have hr : rd (p ++ runI a (m + 1)) (p.length : Int) = a := by rw [rd_get _ _ (by simp [runI])]; simp [runI]
    refine Ev.step (fun k => by rw [laws_heldIntS.l0]) (ev_ifT (by rw [List.length_append, runI_len]; omega) (ev_ifT (by omega) (ev_ifT hr ?_)))
    rw [pw64 (x := a + 1) (by omega) (by omega), succ64 (by omega)]
    have h := heldI_l0 m (p ++ [a]) (a + 1) (by simp; omega) (by omega) (by omega)
    rw [List.append_assoc, List.length_append] at h
    rw [show a + ((m + 1 : Nat) : Int) = a + 1 + m by omega]; exact h
theorem heldI (a : Int) (m : Nat) (hl : m ≤ 35184372088832) (h0 : 0 ≤ a) (h1 : a ≤ 100000000000000000) : Ev (fun k => laws_heldIntS.f k (runI a m) a) (a + m) :=
  heldI_l0 m [] a (by simp; omega) h0 (by omega)
theorem blocked_law (l0 l1 : List Int) (a b : Int) : Ev (fun k => laws_FnExactBlocked.f k l0 l1 a b) true := by
  unfold laws_FnExactBlocked.f
  by_cases c0 : (l0.length : Int) > 1048576
  · exact ev_ifT c0 (Ev.now _)
  refine ev_ifF c0 ?_
  by_cases c1 : (l1.length : Int) > 1048576
  · exact ev_ifT c1 (Ev.now _)
  refine ev_ifF c1 ?_
  obtain ⟨x, y, c, hx, hy, e1, e2⟩ := bothB l0 l1 a b (by omega) (by omega)
  have t0 := toIntS l0 (by omega)
  have t1 := toIntS l1 (by omega)
  have qx := eqIntS x (by omega)
  have qy := eqIntS y (by omega)
  have ne : (c != c) = false := by simp
  have mx := markI x 1 (by omega) (by omega) (by omega)
  have my := markI y (1 + x.length) (by omega) (by omega) (by omega)
  have hx2 := heldI 1 x.length (by omega) (by omega) (by omega)
  have hy2 := heldI (1 + x.length) y.length (by omega) (by omega) (by omega)
  refine Ev.bind t0 ?_
  refine Ev.bind t1 ?_
  refine Ev.bind e1 ?_
  refine Ev.bind t0 ?_
  refine Ev.bind t1 ?_
  refine Ev.bind e2 ?_
  dsimp only
  refine Ev.bind qx ?_
  refine ev_ifT rfl ?_
  refine Ev.bind qy ?_
  refine ev_ifT rfl ?_
  rw [ne]
  obtain ⟨m0, hm0⟩ := markIntS l0 1 (by omega) (by omega) (by omega)
  obtain ⟨m1, hm1⟩ := markIntS l1 (1 + l0.length) (by omega) (by omega) (by omega)
  refine Ev.step (fun k => by rw [laws_FnExactBlocked.j0]) ?_
  refine ev_ifF (by simp) ?_
  refine Ev.bind t0 ?_
  refine Ev.bind (eqIntS l0 (by omega)) ?_
  refine ev_ifT rfl ?_
  refine Ev.bind t1 ?_
  refine Ev.bind (eqIntS l1 (by omega)) ?_
  refine ev_ifT rfl ?_
  refine Ev.bind hm0 ?_
  dsimp only
  refine Ev.bind hm1 ?_
  dsimp only
  refine ev_ifF (by omega) ?_
  refine Ev.bind qx ?_
  refine ev_ifT rfl ?_
  refine Ev.bind qy ?_
  refine ev_ifT rfl ?_
  rw [ne]
  refine Ev.step (fun k => by rw [laws_FnExactBlocked.j1]) ?_
  refine ev_ifF (by simp) ?_
  refine Ev.bind mx ?_
  dsimp only
  refine Ev.bind my ?_
  dsimp only
  refine Ev.bind hx2 ?_
  refine ev_ifF (by omega) ?_
  refine Ev.bind hy2 ?_
  refine ev_ifF (by omega) ?_
  refine ev_ifT rfl ?_
  refine Ev.bind t0 ?_
  refine Ev.bind t1 ?_
  refine Ev.bind e2 ?_
  dsimp only
  refine Ev.bind qx ?_
  refine ev_ifT rfl ?_
  refine Ev.bind qy ?_
  refine ev_ifT rfl ?_
  rw [ne]
  refine Ev.step (fun k => by rw [laws_FnExactBlocked.j2]) ?_
  refine ev_ifF (by simp) ?_
  refine Ev.bind hx2 ?_
  refine ev_ifF (by omega) ?_
  refine Ev.bind hy2 ?_
  refine ev_ifF (by omega) ?_
  exact ev_ifT rfl (Ev.now _)
end Go.Proofs.Ytkijhilmgljegaa.PB
namespace Go.Proofs.Ytkijhilmgljegaa.Pure
open Go.RowKit Go.Proofs.Ytkijhilmgljegaa.PB Go.Proofs.YtkijhilmgljegaaW.PrintWords Go.Proofs.YtkijhilmgljegaaW.PrintLast
theorem FnExactBlocked : laws_FnExactBlocked.Pure := by
  intro l0 l1 a2 a3 _ _ _ _ _ _ _ _
  exact (blocked_law l0 l1 a2 a3).rounds
end Go.Proofs.Ytkijhilmgljegaa.Pure

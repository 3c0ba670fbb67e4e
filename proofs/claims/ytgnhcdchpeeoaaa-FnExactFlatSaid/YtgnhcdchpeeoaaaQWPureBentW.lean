/- A part of the proof that the law FnExactFlat answers true at every input. No conditions. -/
import Derived.Test.YtgnhcdchpeeoaaaQWPureCrossW
import Derived.Test.YtgnhcdchpeeoaaaQWW14
set_option linter.unusedVariables false
namespace Go.Proofs.Ytgnhcdchpeeoaaa.PW
open Go.RowKit Go.Proofs.YtgnhcdchpeeoaaaW.PrintWords Go.Proofs.YtgnhcdchpeeoaaaW.PrintLast Go.Proofs.YtgnhcdchpeeoaaaW.PrintMore Plane
theorem rd_get (xs : List Int) (i : Nat) (h : i < xs.length) : rd xs (i : Int) = xs[i] := by
  unfold rd; rw [Int.toNat_natCast, List.getD_eq_getElem?_getD, List.getElem?_eq_getElem h]; rfl
theorem rdT_get (xs : List S34) (i : Nat) (h : i < xs.length) : rd_T34 xs (i : Int) = xs[i] := by
  unfold rd_T34; rw [Int.toNat_natCast, List.getD_eq_getElem?_getD, List.getElem?_eq_getElem h]; rfl
theorem succ64 {i : Nat} (h : i < 9223372036854775807) : wrap64 ((i : Int) + 1) = ((i + 1 : Nat) : Int) := by rw [pw64 (by omega) (by omega)]; rfl
def turnD (t : Int) (d : Int × Int) : Int × Int := if t = 0 then d else (-d.2 * t, d.1 * t)
def dirAt (fs : List Int) : Nat → Int × Int
  | 0 => (1, 0)
  | i + 1 => turnD (rd fs i) (dirAt fs i)
def posAt (ps fs : List Int) : Nat → Int × Int
  | 0 => (0, 0)
  | i + 1 => ((posAt ps fs i).1 + (dirAt fs i).1 * rd ps i, (posAt ps fs i).2 + (dirAt fs i).2 * rd ps i)
structure OkB (ps fs : List Int) : Prop where
  l1 : 1 ≤ ps.length
  l40 : ps.length ≤ 40
  pin : ∀ x ∈ ps, 1 ≤ x ∧ x ≤ 1000
  fl : fs.length + 1 = ps.length
  fin : ∀ x ∈ fs, -1 ≤ x ∧ x ≤ 1
theorem rd_mem (xs : List Int) (i : Nat) (h : i < xs.length) : rd xs (i : Int) ∈ xs := by rw [rd_get xs i h]; exact List.getElem_mem h
def Unit4 (d : Int × Int) : Prop := (d.1 = 1 ∧ d.2 = 0) ∨ (d.1 = -1 ∧ d.2 = 0) ∨ (d.1 = 0 ∧ d.2 = 1) ∨ (d.1 = 0 ∧ d.2 = -1)
theorem turn_unit {t : Int} {d : Int × Int} (h : Unit4 d) (h1 : -1 ≤ t) (h2 : t ≤ 1) : Unit4 (turnD t d) := by
  unfold turnD
  split
  · exact h
  · rcases (show t = 1 ∨ t = -1 by omega) with rfl | rfl <;> (unfold Unit4 at *; dsimp only; omega)
theorem dir_unit {ps fs : List Int} (ok : OkB ps fs) : ∀ i, i < ps.length → Unit4 (dirAt fs i)
  | 0, _ => .inl ⟨rfl, rfl⟩
  | i + 1, h => by
    have hm := ok.fin _ (rd_mem fs i (by have := ok.fl; omega))
    exact turn_unit (dir_unit ok i (by omega)) hm.1 hm.2
theorem pos_in {ps fs : List Int} (ok : OkB ps fs) : ∀ i, i ≤ ps.length → -1000 * (i : Int) ≤ (posAt ps fs i).1 ∧ (posAt ps fs i).1 ≤ 1000 * i ∧ -1000 * (i : Int) ≤ (posAt ps fs i).2 ∧ (posAt ps fs i).2 ≤ 1000 * i
  | 0, _ => by simp [posAt]
  | i + 1, h => by
    have hm := ok.pin _ (rd_mem ps i (by omega))
    have hu := dir_unit ok i (by omega)
    have ih := pos_in ok i (by omega)
    simp only [posAt]
    rcases hu with h | h | h | h <;> (rw [h.1, h.2]; omega)
theorem pos_InP {ps fs : List Int} (ok : OkB ps fs) (i : Nat) (h : i ≤ ps.length) : InP (posAt ps fs i) := by
  have h1 := pos_in ok i h; have := ok.l40; unfold InP InAt; omega
def pS (p : Int × Int) : S34 := ⟨p.1, p.2⟩
def road (ps fs : List Int) (n : Nat) : List S34 := (List.range (n + 1)).map fun i => pS (posAt ps fs i)
theorem road_len (ps fs : List Int) (n : Nat) : (road ps fs n).length = n + 1 := by simp [road]
theorem road_rd (ps fs : List Int) (n i : Nat) (h : i ≤ n) : rd_T34 (road ps fs n) (i : Int) = pS (posAt ps fs i) := by
  rw [rdT_get _ i (by rw [road_len]; omega)]; simp [road]
theorem road_succ (ps fs : List Int) (n : Nat) : road ps fs n ++ [pS (posAt ps fs (n + 1))] = road ps fs (n + 1) := by
  simp only [road]; rw [List.range_succ (n := n + 1), List.map_append]; rfl
def bad (ps fs : List Int) (i j : Nat) : Bool :=
  decide ((crossP (posAt ps fs i).1 (posAt ps fs i).2 (posAt ps fs (i + 1)).1 (posAt ps fs (i + 1)).2 (posAt ps fs j).1 (posAt ps fs j).2 (posAt ps fs (j + 1)).1 (posAt ps fs (j + 1)).2).length > if j + 1 < i then 0 else 1)
def anyBad (ps fs : List Int) (i : Nat) : Nat → Nat → Bool
  | 0, _ => false
  | m + 1, j => bad ps fs i j || anyBad ps fs i m (j + 1)
def resB (ps fs : List Int) : Nat → Nat → List S34 × Int × Int
  | 0, _ => (road ps fs ps.length, 0, 0)
  | m + 1, i => if anyBad ps fs i i 0 then ([], 13, i) else resB ps fs m (i + 1)
theorem pred64 {i : Nat} (h : i < 1000) : wrap64 ((i : Int) - 1) = (i : Int) - 1 := pw64 (by omega) (by omega)
theorem impl_l3 {ps fs : List Int} (ok : OkB ps fs) (mm i : Nat) (hi : i < ps.length) (hmm : mm + 1 = ps.length - i)
    (next : Ev (fun k => impl_Bent.l2 k (road ps fs ps.length) (ps.length : Int) ((i + 1 : Nat) : Int)) (resB ps fs mm (i + 1))) :
    ∀ (m j : Nat), m = i - j → j ≤ i → Ev (fun k => impl_Bent.l3 k (road ps fs ps.length) (i : Int) (j : Int) (ps.length : Int) (i : Int)) (if anyBad ps fs i m j then ([], 13, (i : Int)) else resB ps fs mm (i + 1))
  | 0, j, hm, hj => by
    have := ok.l40
    refine Ev.step (fun k => by rw [impl_Bent.l3]) (ev_ifF (by omega) ?_)
    rw [succ64 (by omega)]; exact next
  | m + 1, j, hm, hj => by
    have := ok.l40
    have ih := impl_l3 ok mm i hi hmm next m (j + 1) (by omega) (by omega)
    refine Ev.step (fun k => by rw [impl_Bent.l3]) ?_
    rw [succ64 (i := i) (by omega), succ64 (i := j) (by omega), road_len, road_rd _ _ _ i (by omega), road_rd _ _ _ j (by omega), road_rd _ _ _ (i + 1) (by omega), road_rd _ _ _ (j + 1) (by omega), pred64 (by omega)]
    refine ev_ifT (by omega) (ev_ifT (by omega) (ev_ifT (by omega) (ev_ifT (by omega) (ev_ifT (by omega) (ev_ifT (by omega) (ev_ifT (by omega) (ev_ifT (by omega) (ev_ifT (by omega) ?_))))))))
    have pi := pos_InP ok i (by omega); have pi1 := pos_InP ok (i + 1) (by omega); have pj := pos_InP ok j (by omega); have pj1 := pos_InP ok (j + 1) (by omega)
    refine ev_bindS (by unfold impl_crossing.f; exact if_pos ⟨pi.1, pi.2, pi1.1, pi1.2, pj.1, pj.2, pj1.1, pj1.2⟩) ?_
    dsimp only [pS]
    have hb : bad ps fs i j = decide ((crossP (posAt ps fs i).1 (posAt ps fs i).2 (posAt ps fs (i + 1)).1 (posAt ps fs (i + 1)).2 (posAt ps fs j).1 (posAt ps fs j).2 (posAt ps fs (j + 1)).1 (posAt ps fs (j + 1)).2).length > if j + 1 < i then 0 else 1) := rfl
    generalize (crossP (posAt ps fs i).1 (posAt ps fs i).2 (posAt ps fs (i + 1)).1 (posAt ps fs (i + 1)).2 (posAt ps fs j).1 (posAt ps fs j).2 (posAt ps fs (j + 1)).1 (posAt ps fs (j + 1)).2).length = L at hb ⊢
    rw [show anyBad ps fs i (m + 1) j = (bad ps fs i j || anyBad ps fs i m (j + 1)) from rfl, hb]
    by_cases hlt : j + 1 < i
    · rw [if_pos hlt]
      refine ev_ifT (by omega) ?_
      by_cases hL : L > 0
      · refine ev_ifT (by omega) ?_
        rw [if_pos (by simp [hL])]; exact Ev.now _
      · refine ev_ifF (by omega) (ev_ifF (by omega) ?_)
        rw [decide_eq_false hL, Bool.false_or]; exact ih
    · rw [if_neg hlt]
      refine ev_ifF (by omega) ?_
      by_cases hL : L > 1
      · refine ev_ifT (by omega) ?_
        rw [if_pos (by simp [hL])]; exact Ev.now _
      · refine ev_ifF (by omega) ?_
        rw [decide_eq_false hL, Bool.false_or]; exact ih
theorem impl_l2 {ps fs : List Int} (ok : OkB ps fs) : ∀ (m i : Nat), m = ps.length - i → i ≤ ps.length →
    Ev (fun k => impl_Bent.l2 k (road ps fs ps.length) (ps.length : Int) (i : Int)) (resB ps fs m i)
  | 0, i, hm, hi => by
    refine Ev.step (fun k => by rw [impl_Bent.l2]) (ev_ifF (by omega) ?_)
    exact Ev.now (road ps fs ps.length, 0, 0)
  | m + 1, i, hm, hi => by
    refine Ev.step (fun k => by rw [impl_Bent.l2]) (ev_ifT (by omega) ?_)
    exact impl_l3 ok m i (by omega) (by omega) (impl_l2 ok m (i + 1) (by omega) (by omega)) i 0 (by omega) (by omega)
theorem impl_l1 {ps fs : List Int} (ok : OkB ps fs) : ∀ (m i : Nat), m = ps.length - i → i ≤ ps.length →
    Ev (fun k => impl_Bent.l1 k ps fs (dirAt fs (i - 1)).1 (dirAt fs (i - 1)).2 (road ps fs i) ps (ps.length : Int) (i : Int)) (resB ps fs ps.length 0)
  | 0, i, hm, hi => by
    refine Ev.step (fun k => by rw [impl_Bent.l1]) (ev_ifF (by omega) ?_)
    rw [show i = ps.length by omega]
    exact impl_l2 ok ps.length 0 (by omega) (by omega)
  | m + 1, i, hm, hi => by
    have h40 := ok.l40
    have ih := impl_l1 ok m (i + 1) (by omega) (by omega)
    rw [Nat.add_sub_cancel, ← road_succ] at ih
    have hr := ok.pin _ (rd_mem ps i (by omega))
    have hp := pos_in ok i (by omega)
    have hu := dir_unit ok i (by omega)
    have hpos : posAt ps fs (i + 1) = ((posAt ps fs i).1 + (dirAt fs i).1 * rd ps i, (posAt ps fs i).2 + (dirAt fs i).2 * rd ps i) := rfl
    have key : ∀ d : Int × Int, d = dirAt fs i → Ev (fun k => impl_Bent.l1 k ps fs d.1 d.2 (road ps fs i ++ [(⟨wrap64 ((posAt ps fs i).1 + wrap64 (d.1 * rd ps i)), wrap64 ((posAt ps fs i).2 + wrap64 (d.2 * rd ps i))⟩ : S34)]) ps (ps.length : Int) ((i + 1 : Nat) : Int)) (resB ps fs ps.length 0) := by
      intro d hd
      have e1 : wrap64 ((posAt ps fs i).1 + wrap64 (d.1 * rd ps i)) = (posAt ps fs (i + 1)).1 := by
        rw [hpos, hd]; rcases hu with h | h | h | h <;> (rw [h.1]; rw [pw64 (x := _ * _) (by omega) (by omega), pw64 (by omega) (by omega)])
      have e2 : wrap64 ((posAt ps fs i).2 + wrap64 (d.2 * rd ps i)) = (posAt ps fs (i + 1)).2 := by
        rw [hpos, hd]; rcases hu with h | h | h | h <;> (rw [h.2]; rw [pw64 (x := _ * _) (by omega) (by omega), pw64 (by omega) (by omega)])
      rw [e1, e2, hd]; exact ih
    have hlen : wrap64 ((((road ps fs i).length : Nat) : Int) - 1) = (i : Int) := by rw [road_len, pw64 (by omega) (by omega)]; omega
    refine Ev.step (fun k => by rw [impl_Bent.l1]) (ev_ifT (by omega) (ev_ifT (by omega) (ev_ifT (by omega) ?_)))
    rw [hlen, road_rd _ _ _ i (Nat.le_refl i), succ64 (by omega), road_len]
    by_cases h0 : i = 0
    · subst h0
      refine ev_ifF (by omega) (ev_ifT (by omega) (ev_ifT (by omega) (ev_ifT (by omega) (key _ rfl))))
    · obtain ⟨i, rfl⟩ : ∃ j, i = j + 1 := ⟨i - 1, by omega⟩
      have hf := ok.fin _ (rd_mem fs i (by have := ok.fl; omega))
      have hfl := ok.fl
      have hu' := dir_unit ok i (by omega)
      have hp1 : wrap64 (((i + 1 : Nat) : Int) - 1) = (i : Int) := by rw [pw64 (by omega) (by omega)]; omega
      rw [hp1]
      simp only [Nat.add_sub_cancel]
      have w1 : wrap64 (-(dirAt fs i).2) = -(dirAt fs i).2 := by rcases hu' with h | h | h | h <;> (rw [h.2]; exact pw64 (by omega) (by omega))
      have w2 : wrap64 (-(dirAt fs i).1) = -(dirAt fs i).1 := by rcases hu' with h | h | h | h <;> (rw [h.1]; exact pw64 (by omega) (by omega))
      rw [w1, w2]
      refine ev_ifT (by omega) (ev_ifT (by omega) (ev_ifT (by omega) ?_))
      by_cases h1 : rd fs (i : Int) = 1
      · refine ev_ifT h1 (ev_ifT (by omega) (ev_ifT (by omega) (ev_ifT (by omega) (key (-(dirAt fs i).2, (dirAt fs i).1) ?_))))
        show _ = turnD (rd fs (i : Int)) (dirAt fs i)
        rw [h1]; simp [turnD]
      · refine ev_ifF h1 ?_
        by_cases h2 : rd fs (i : Int) = -1
        · refine ev_ifT h2 (ev_ifT (by omega) (ev_ifT (by omega) (ev_ifT (by omega) (key ((dirAt fs i).2, -(dirAt fs i).1) ?_))))
          show _ = turnD (rd fs (i : Int)) (dirAt fs i)
          rw [h2]; simp [turnD]
        · refine ev_ifF h2 (ev_ifT (by omega) (ev_ifT (by omega) (ev_ifT (by omega) (key (dirAt fs i) ?_))))
          show _ = turnD (rd fs (i : Int)) (dirAt fs i)
          rw [show rd fs (i : Int) = 0 by omega]; simp [turnD]
theorem len_comm {ps fs : List Int} (ok : OkB ps fs) {i j : Nat} (hi : i < ps.length) (hj : j < ps.length) :
    (crossP (posAt ps fs j).1 (posAt ps fs j).2 (posAt ps fs (j + 1)).1 (posAt ps fs (j + 1)).2 (posAt ps fs i).1 (posAt ps fs i).2 (posAt ps fs (i + 1)).1 (posAt ps fs (i + 1)).2).length =
    (crossP (posAt ps fs i).1 (posAt ps fs i).2 (posAt ps fs (i + 1)).1 (posAt ps fs (i + 1)).2 (posAt ps fs j).1 (posAt ps fs j).2 (posAt ps fs (j + 1)).1 (posAt ps fs (j + 1)).2).length :=
  crossP_len (pos_InP ok j (by omega)) (pos_InP ok (j + 1) (by omega)) (pos_InP ok i (by omega)) (pos_InP ok (i + 1) (by omega))
def resS (ps fs : List Int) : Nat → Nat → List S34 × Int
  | 0, _ => (road ps fs ps.length, -1)
  | m + 1, i => if anyBad ps fs i i 0 then (road ps fs i, i) else resS ps fs m (i + 1)
theorem spec_l1 {ps fs : List Int} (ok : OkB ps fs) (mm i : Nat) (hi : i < ps.length) (hmm : mm + 1 = ps.length - i) (d0 d1 : Int)
    (next : Ev (fun k => spec_l16Bent.l0 k ps fs d0 d1 (road ps fs (i + 1)) ((i + 1 : Nat) : Int) (posAt ps fs (i + 1)).1 (posAt ps fs (i + 1)).2) (resS ps fs mm (i + 1))) :
    ∀ (m j : Nat), m = i - j → j ≤ i → Ev (fun k => spec_l16Bent.l1 k ps fs d0 d1 (road ps fs i) (i : Int) (j : Int) (posAt ps fs i).1 (posAt ps fs i).2 (posAt ps fs (i + 1)).1 (posAt ps fs (i + 1)).2)
      (if anyBad ps fs i m j then (road ps fs i, (i : Int)) else resS ps fs mm (i + 1))
  | 0, j, hm, hj => by
    have := ok.l40
    refine Ev.step (fun k => by rw [spec_l16Bent.l1]) (ev_ifF (by omega) (ev_ifT (by rw [road_len]; omega) ?_))
    rw [succ64 (by omega), show (⟨(posAt ps fs (i + 1)).1, (posAt ps fs (i + 1)).2⟩ : S34) = pS (posAt ps fs (i + 1)) from rfl, road_succ]; exact next
  | m + 1, j, hm, hj => by
    have := ok.l40
    have ih := spec_l1 ok mm i hi hmm d0 d1 next m (j + 1) (by omega) (by omega)
    refine Ev.step (fun k => by rw [spec_l16Bent.l1]) ?_
    rw [succ64 (i := j) (by omega), road_len, road_rd _ _ _ j (by omega), road_rd _ _ _ (j + 1) (by omega), pred64 (by omega)]
    refine ev_ifT (by omega) (ev_ifT (by omega) (ev_ifT (by omega) (ev_ifT (by omega) (ev_ifT (by omega) ?_))))
    have pi := pos_InP ok i (by omega); have pi1 := pos_InP ok (i + 1) (by omega); have pj := pos_InP ok j (by omega); have pj1 := pos_InP ok (j + 1) (by omega)
    refine Ev.bind (sCross_f pj pj1 pi pi1) ?_
    rw [List.length_map, len_comm ok hi (by omega : j < ps.length)]
    have hb : bad ps fs i j = decide ((crossP (posAt ps fs i).1 (posAt ps fs i).2 (posAt ps fs (i + 1)).1 (posAt ps fs (i + 1)).2 (posAt ps fs j).1 (posAt ps fs j).2 (posAt ps fs (j + 1)).1 (posAt ps fs (j + 1)).2).length > if j + 1 < i then 0 else 1) := rfl
    generalize (crossP (posAt ps fs i).1 (posAt ps fs i).2 (posAt ps fs (i + 1)).1 (posAt ps fs (i + 1)).2 (posAt ps fs j).1 (posAt ps fs j).2 (posAt ps fs (j + 1)).1 (posAt ps fs (j + 1)).2).length = L at hb ⊢
    rw [show anyBad ps fs i (m + 1) j = (bad ps fs i j || anyBad ps fs i m (j + 1)) from rfl, hb]
    by_cases hlt : j + 1 < i
    · rw [if_pos hlt]
      refine ev_ifF (by omega) ?_
      by_cases hL : L > 0
      · refine ev_ifT (by omega) ?_
        rw [if_pos (by simp [hL])]; exact Ev.now _
      · refine ev_ifF (by omega) ?_
        rw [decide_eq_false hL, Bool.false_or]; exact ih
    · rw [if_neg hlt]
      refine ev_ifT (by omega) ?_
      by_cases hL : L > 1
      · refine ev_ifT (by omega) ?_
        rw [if_pos (by simp [hL])]; exact Ev.now _
      · refine ev_ifF (by omega) ?_
        rw [decide_eq_false hL, Bool.false_or]; exact ih
theorem spec_l0 {ps fs : List Int} (ok : OkB ps fs) : ∀ (m i : Nat), m = ps.length - i → i ≤ ps.length →
    Ev (fun k => spec_l16Bent.l0 k ps fs (dirAt fs (i - 1)).1 (dirAt fs (i - 1)).2 (road ps fs i) (i : Int) (posAt ps fs i).1 (posAt ps fs i).2) (resS ps fs m i)
  | 0, i, hm, hi => by
    refine Ev.step (fun k => by rw [spec_l16Bent.l0]) (ev_ifF (by omega) ?_)
    rw [show i = ps.length by omega]
    exact Ev.now (road ps fs ps.length, -1)
  | m + 1, i, hm, hi => by
    have h40 := ok.l40
    have ih := spec_l0 ok m (i + 1) (by omega) (by omega)
    rw [Nat.add_sub_cancel] at ih
    have hr := ok.pin _ (rd_mem ps i (by omega))
    have hp := pos_in ok i (by omega)
    have hu := dir_unit ok i (by omega)
    have hpos : posAt ps fs (i + 1) = ((posAt ps fs i).1 + (dirAt fs i).1 * rd ps i, (posAt ps fs i).2 + (dirAt fs i).2 * rd ps i) := rfl
    have key : ∀ d : Int × Int, d = dirAt fs i → Ev (fun k => spec_l16Bent.j2 k ps fs d.1 d.2 (road ps fs i) (i : Int) (posAt ps fs i).1 (posAt ps fs i).2) (resS ps fs (m + 1) i) := by
      intro d hd
      refine Ev.step (fun k => by rw [spec_l16Bent.j2]) (ev_ifT (by omega) (ev_ifT (by omega) ?_))
      have e1 : wrap64 ((posAt ps fs i).1 + wrap64 (d.1 * rd ps i)) = (posAt ps fs (i + 1)).1 := by
        rw [hpos, hd]; rcases hu with h | h | h | h <;> (rw [h.1]; rw [pw64 (x := _ * _) (by omega) (by omega), pw64 (by omega) (by omega)])
      have e2 : wrap64 ((posAt ps fs i).2 + wrap64 (d.2 * rd ps i)) = (posAt ps fs (i + 1)).2 := by
        rw [hpos, hd]; rcases hu with h | h | h | h <;> (rw [h.2]; rw [pw64 (x := _ * _) (by omega) (by omega), pw64 (by omega) (by omega)])
      rw [e1, e2]
      exact spec_l1 ok m i (by omega) (by omega) d.1 d.2 (by rw [hd]; exact ih) i 0 (by omega) (by omega)
    refine Ev.step (fun k => by rw [spec_l16Bent.l0]) (ev_ifT (by omega) ?_)
    by_cases h0 : i = 0
    · subst h0
      refine ev_ifF (by omega) (Ev.step (fun k => by rw [spec_l16Bent.j1]) (ev_ifF (by decide) (key _ rfl)))
    · obtain ⟨i, rfl⟩ : ∃ j, i = j + 1 := ⟨i - 1, by omega⟩
      have hf := ok.fin _ (rd_mem fs i (by have := ok.fl; omega))
      have hfl := ok.fl
      have hu' := dir_unit ok i (by omega)
      have hp1 : wrap64 (((i + 1 : Nat) : Int) - 1) = (i : Int) := by rw [pw64 (by omega) (by omega)]; omega
      rw [hp1]
      simp only [Nat.add_sub_cancel]
      refine ev_ifT (by omega) (ev_ifT (by omega) (ev_ifT (by omega) (Ev.step (fun k => by rw [spec_l16Bent.j1]) ?_)))
      rw [hp1]
      have w1 : wrap64 (-(dirAt fs i).2) = -(dirAt fs i).2 := by rcases hu' with h | h | h | h <;> (rw [h.2]; exact pw64 (by omega) (by omega))
      have w2 : ∀ t : Int, -1 ≤ t → t ≤ 1 → wrap64 (-(dirAt fs i).2 * t) = -(dirAt fs i).2 * t ∧ wrap64 ((dirAt fs i).1 * t) = (dirAt fs i).1 * t := by
        intro t _ _
        rcases hu' with h | h | h | h <;> (rw [h.1, h.2]; exact ⟨pw64 (by omega) (by omega), pw64 (by omega) (by omega)⟩)
      rw [w1, (w2 _ hf.1 hf.2).1, (w2 _ hf.1 hf.2).2]
      by_cases h1 : rd fs (i : Int) = 0
      · refine ev_ifF (by simp [h1]) (key (dirAt fs i) ?_)
        show _ = turnD (rd fs (i : Int)) (dirAt fs i)
        rw [h1]; simp [turnD]
      · refine ev_ifT (by simp [h1]) (ev_ifT (by omega) (ev_ifT (by omega) (key (-(dirAt fs i).2 * rd fs i, (dirAt fs i).1 * rd fs i) ?_)))
        show _ = turnD (rd fs (i : Int)) (dirAt fs i)
        simp [turnD, h1]
theorem resS_B (ps fs : List Int) : ∀ m i, resB ps fs m i = if (resS ps fs m i).2 ≥ 0 then ([], 13, (resS ps fs m i).2) else ((resS ps fs m i).1, 0, 0)
  | 0, i => by simp [resB, resS]
  | m + 1, i => by
    unfold resB resS
    split
    · rw [if_pos (by simp)]
    · exact resS_B ps fs m (i + 1)
theorem within_l0 (l : List Int) (a b : Int) (hl : l.length ≤ 35184372088832) : ∀ (m i : Nat), m = l.length - i → Ev (fun k => spec_l16Within.l0 k l a b (i : Int)) ((l.drop i).all fun x => decide (a ≤ x ∧ x ≤ b))
  | 0, i, hm => by
    refine Ev.step (fun k => by rw [spec_l16Within.l0]) (ev_ifF (by omega) ?_)
    rw [List.drop_eq_nil_of_le (by omega)]; exact Ev.now _
  | m + 1, i, hm => by
    refine Ev.step (fun k => by rw [spec_l16Within.l0]) (ev_ifT (by omega) (ev_ifT (by omega) ?_))
    rw [List.drop_eq_getElem_cons (show i < l.length by omega), rd_get l i (by omega), succ64 (by omega), List.all_cons]
    by_cases h1 : l[i] < a
    · refine ev_ifT h1 ?_
      rw [decide_eq_false (by omega), Bool.false_and]; exact Ev.now _
    · refine ev_ifF h1 ?_
      by_cases h2 : l[i] > b
      · refine ev_ifT h2 ?_
        rw [decide_eq_false (by omega), Bool.false_and]; exact Ev.now _
      · refine ev_ifF h2 ?_
        rw [decide_eq_true (by omega), Bool.true_and]; exact within_l0 l a b hl m (i + 1) (by omega)
theorem within_f (l : List Int) (a b : Int) (hl : l.length ≤ 35184372088832) : Ev (fun k => spec_l16Within.f k l a b) (l.all fun x => decide (a ≤ x ∧ x ≤ b)) := within_l0 l a b hl l.length 0 (by omega)
def okP (l : List Int) : Bool := decide (1 ≤ l.length ∧ l.length ≤ 40) && l.all fun x => decide (1 ≤ x ∧ x ≤ 1000)
theorem panels_f (l : List Int) (hl : l.length ≤ 35184372088832) : Ev (fun k => spec_l16Panels.f k l) (okP l) := by
  unfold spec_l16Panels.f okP
  by_cases h1 : 1 ≤ l.length
  · refine ev_ifT (by omega) ?_
    by_cases h2 : l.length ≤ 40
    · refine ev_ifT (by omega) ?_
      rw [decide_eq_true ⟨h1, h2⟩, Bool.true_and]
      exact Ev.bind (within_f l 1 1000 hl) (Ev.now _)
    · refine ev_ifF (by omega) ?_
      rw [decide_eq_false (by omega), Bool.false_and]; exact Ev.now _
  · refine ev_ifF (by omega) ?_
    rw [decide_eq_false (by omega), Bool.false_and]; exact Ev.now _
theorem panelsI_l0 (l : List Int) (hl : l.length ≤ 35184372088832) : ∀ (m i : Nat), m = l.length - i → Ev (fun k => impl_panelsOK.l0 k l (l.length : Int) (i : Int)) ((l.drop i).all fun x => decide (1 ≤ x ∧ x ≤ 1000))
  | 0, i, hm => by
    refine Ev.step (fun k => by rw [impl_panelsOK.l0]) (ev_ifF (by omega) ?_)
    rw [List.drop_eq_nil_of_le (by omega)]; exact Ev.now _
  | m + 1, i, hm => by
    refine Ev.step (fun k => by rw [impl_panelsOK.l0]) (ev_ifT (by omega) (ev_ifT (by omega) (ev_ifT (by omega) ?_)))
    rw [List.drop_eq_getElem_cons (show i < l.length by omega), rd_get l i (by omega), succ64 (by omega), List.all_cons]
    by_cases h1 : l[i] < 1
    · refine ev_ifT h1 ?_
      rw [decide_eq_false (by omega), Bool.false_and]; exact Ev.now _
    · refine ev_ifF h1 ?_
      by_cases h2 : l[i] > 1000
      · refine ev_ifT h2 ?_
        rw [decide_eq_false (by omega), Bool.false_and]; exact Ev.now _
      · refine ev_ifF h2 ?_
        rw [decide_eq_true (by omega), Bool.true_and]; exact panelsI_l0 l hl m (i + 1) (by omega)
theorem panelsI_f (l : List Int) (hl : l.length ≤ 35184372088832) : Ev (fun k => impl_panelsOK.f k l) (okP l) := by
  unfold impl_panelsOK.f okP
  by_cases h1 : 1 ≤ l.length
  · refine ev_ifF (by omega) (Ev.step (fun k => by rw [impl_panelsOK.j0]) ?_)
    by_cases h2 : l.length ≤ 40
    · refine ev_ifF (by simp; omega) ?_
      rw [decide_eq_true ⟨h1, h2⟩, Bool.true_and]
      exact panelsI_l0 l hl l.length 0 (by omega)
    · refine ev_ifT (by simp; omega) ?_
      rw [decide_eq_false (by omega), Bool.false_and]; exact Ev.now _
  · refine ev_ifT (by omega) (Ev.step (fun k => by rw [impl_panelsOK.j0]) (ev_ifT rfl ?_))
    rw [decide_eq_false (by omega), Bool.false_and]; exact Ev.now _
def okF (l : List Int) : Bool := l.all fun x => decide (-1 ≤ x ∧ x ≤ 1)
theorem folds_l0 (ps l : List Int) (hl : l.length ≤ 35184372088832) (r : List S34 × Int × Int)
    (next : okF l = true → Ev (fun k => impl_Bent.l1 k ps l 1 0 [⟨0, 0⟩] ps (ps.length : Int) 0) r) :
    ∀ (m i : Nat), m = l.length - i → i ≤ l.length → (l.take i).all (fun x => decide (-1 ≤ x ∧ x ≤ 1)) = true → Ev (fun k => impl_Bent.l0 k ps l l (l.length : Int) (i : Int)) (if okF l then r else ([], 1, 0))
  | 0, i, hm, hi, ht => by
    refine Ev.step (fun k => by rw [impl_Bent.l0]) (ev_ifF (by omega) ?_)
    rw [show i = l.length by omega, List.take_length] at ht
    have : okF l = true := ht
    rw [if_pos this]; exact next this
  | m + 1, i, hm, hi, ht => by
    refine Ev.step (fun k => by rw [impl_Bent.l0]) (ev_ifT (by omega) (ev_ifT (by omega) (ev_ifT (by omega) ?_)))
    rw [rd_get l i (by omega), succ64 (by omega)]
    by_cases h1 : l[i] < -1
    · refine ev_ifT h1 ?_
      rw [if_neg (fun h => by have := of_decide_eq_true (List.all_eq_true.1 h _ (List.getElem_mem (show i < l.length by omega))); omega)]; exact Ev.now _
    · refine ev_ifF h1 ?_
      by_cases h2 : l[i] > 1
      · refine ev_ifT h2 ?_
        rw [if_neg (fun h => by have := of_decide_eq_true (List.all_eq_true.1 h _ (List.getElem_mem (show i < l.length by omega))); omega)]; exact Ev.now _
      · refine ev_ifF h2 (folds_l0 ps l hl r next m (i + 1) (by omega) (by omega) ?_)
        rw [List.take_add_one, List.all_append, ht, List.getElem?_eq_getElem (by omega)]
        simp; omega
def bentP (ps fs : List Int) : List S34 × Int × Int :=
  if ps.length > 4096 ∨ fs.length > 4096 then ([], 2, 0)
  else if okP ps = true ∧ fs.length + 1 = ps.length ∧ okF fs = true then resB ps fs ps.length 0 else ([], 1, 0)
theorem ok_of {ps fs : List Int} (h : okP ps = true ∧ fs.length + 1 = ps.length ∧ okF fs = true) : OkB ps fs := by
  obtain ⟨h1, h2, h3⟩ := h
  unfold okP at h1
  rw [Bool.and_eq_true, List.all_eq_true] at h1
  have q := of_decide_eq_true h1.1
  exact ⟨q.1, q.2, fun x hx => of_decide_eq_true (h1.2 x hx), h2, fun x hx => of_decide_eq_true (List.all_eq_true.1 h3 x hx)⟩
theorem okP_len {l : List Int} (h : okP l = true) : 1 ≤ l.length ∧ l.length ≤ 40 := by
  unfold okP at h; rw [Bool.and_eq_true] at h; exact of_decide_eq_true h.1
theorem specBent_f (ps fs : List Int) (h1 : ps.length ≤ 35184372088832) (h2 : fs.length ≤ 35184372088832) : Ev (fun k => spec_Bent.f k ps fs) (bentP ps fs) := by
  unfold spec_Bent.f bentP
  by_cases hp : ps.length > 4096
  · refine ev_ifT (by omega) (Ev.step (fun k => by rw [spec_Bent.j0]) (ev_ifT rfl ?_))
    rw [if_pos (.inl hp)]; exact Ev.now _
  refine ev_ifF (by omega) (Ev.step (fun k => by rw [spec_Bent.j0]) ?_)
  by_cases hf : fs.length > 4096
  · refine ev_ifT (by simp; omega) ?_
    rw [if_pos (.inr hf)]; exact Ev.now _
  refine ev_ifF (by simp; omega) (Ev.bind (panels_f ps h1) ?_)
  rw [if_neg (by omega)]
  by_cases ho : okP ps = true
  · have hl := okP_len ho
    refine ev_ifT ho ?_
    rw [pw64 (by omega) (by omega)]
    by_cases hfl : fs.length + 1 = ps.length
    · refine ev_ifT (by omega) (Ev.bind (within_f fs (-1) 1 h2) (Ev.step (fun k => by rw [spec_Bent.j1]) ?_))
      by_cases hk : okF fs = true
      · have ok := ok_of ⟨ho, hfl, hk⟩
        refine ev_ifF (by rw [show (fs.all fun x => decide (-1 ≤ x ∧ x ≤ 1)) = true from hk]; decide) ?_
        rw [if_pos ⟨ho, hfl, hk⟩, resS_B]
        refine Ev.bind (show Ev (fun k => spec_l16Bent.f k ps fs) (resS ps fs ps.length 0) from spec_l0 ok ps.length 0 (by omega) (by omega)) ?_
        split
        · exact Ev.now _
        · exact Ev.now _
      · refine ev_ifT (by rw [show (fs.all fun x => decide (-1 ≤ x ∧ x ≤ 1)) = false from by simpa [okF] using hk]; rfl) ?_
        rw [if_neg (fun h => hk h.2.2)]; exact Ev.now _
    · refine ev_ifF (by omega) (Ev.step (fun k => by rw [spec_Bent.j1]) (ev_ifT rfl ?_))
      rw [if_neg (fun h => hfl h.2.1)]; exact Ev.now _
  · refine ev_ifF ho (Ev.step (fun k => by rw [spec_Bent.j1]) (ev_ifT rfl ?_))
    rw [if_neg (fun h => ho h.1)]; exact Ev.now _
theorem implBent_f (ps fs : List Int) (h1 : ps.length ≤ 35184372088832) (h2 : fs.length ≤ 35184372088832) : Ev (fun k => impl_Bent.f k ps fs) (bentP ps fs) := by
  unfold impl_Bent.f bentP
  by_cases hp : ps.length > 4096
  · refine ev_ifT (by omega) (Ev.step (fun k => by rw [impl_Bent.j0]) (ev_ifT rfl ?_))
    rw [if_pos (.inl hp)]; exact Ev.now _
  refine ev_ifF (by omega) (Ev.step (fun k => by rw [impl_Bent.j0]) ?_)
  by_cases hf : fs.length > 4096
  · refine ev_ifT (by simp; omega) ?_
    rw [if_pos (.inr hf)]; exact Ev.now _
  refine ev_ifF (by simp; omega) (Ev.bind (panelsI_f ps h1) ?_)
  rw [if_neg (by omega)]
  by_cases ho : okP ps = true
  · have hl := okP_len ho
    refine ev_ifT ho (Ev.step (fun k => by rw [impl_Bent.j1]) ?_)
    rw [pw64 (by omega) (by omega)]
    by_cases hfl : fs.length + 1 = ps.length
    · refine ev_ifF (by simp; omega) ?_
      have h := folds_l0 ps fs h2 (resB ps fs ps.length 0) (fun hk => impl_l1 (ok_of ⟨ho, hfl, hk⟩) ps.length 0 (by omega) (by omega)) fs.length 0 (by omega) (by omega) rfl
      by_cases hk : okF fs = true
      · rw [if_pos hk] at h; rw [if_pos ⟨ho, hfl, hk⟩]; exact h
      · rw [if_neg hk] at h; rw [if_neg (fun h => hk h.2.2)]; exact h
    · refine ev_ifT (by simp; omega) ?_
      rw [if_neg (fun h => hfl h.2.1)]; exact Ev.now _
  · refine ev_ifF ho (Ev.step (fun k => by rw [impl_Bent.j1]) (ev_ifT rfl ?_))
    rw [if_neg (fun h => ho h.1)]; exact Ev.now _
theorem resB_len (ps fs : List Int) : ∀ m i, (resB ps fs m i).1.length ≤ ps.length + 1
  | 0, i => by simp [resB, road_len]
  | m + 1, i => by
    unfold resB; split
    · simp
    · exact resB_len ps fs m (i + 1)
theorem bentP_len (ps fs : List Int) : (bentP ps fs).1.length ≤ 4097 := by
  unfold bentP; split
  · simp
  · split
    · have := resB_len ps fs ps.length 0; omega
    · simp
end Go.Proofs.Ytgnhcdchpeeoaaa.PW

/- What two segments have in common, from whichever end: plain numbers. No conditions. -/
import Derived.Test.YtgnhcdchpeeoaaaQYPureCross
set_option linter.unusedVariables false
namespace Go.Proofs.Ytgnhcdchpeeoaaa.Plane
def sgn (x : Int) : Int := if 0 < x then 1 else if x < 0 then -1 else 0
theorem sgn_neg (x : Int) : sgn (-x) = -sgn x := by unfold sgn; split <;> split <;> (try split) <;> (try split) <;> omega
theorem sgn_rng (x : Int) : -1 ≤ sgn x ∧ sgn x ≤ 1 := by unfold sgn; split <;> (try split) <;> omega
theorem sgn_zero {x : Int} : sgn x = 0 ↔ x = 0 := by unfold sgn; split <;> (try split) <;> omega
theorem sgn_le {x y : Int} (h : sgn x * sgn y ≤ 0) : (0 ≤ x → 0 ≤ y → x = 0 ∨ y = 0) ∧ (x ≤ 0 → y ≤ 0 → x = 0 ∨ y = 0) := by
  unfold sgn at h; constructor <;> intro h1 h2 <;> (repeat' split at h) <;> omega
theorem side_ba (a b c : Int × Int) : side b.1 b.2 a.1 a.2 c.1 c.2 = -side a.1 a.2 b.1 b.2 c.1 c.2 := by unfold side; grind
theorem side_bca (a b c : Int × Int) : side b.1 b.2 c.1 c.2 a.1 a.2 = side a.1 a.2 b.1 b.2 c.1 c.2 := by unfold side; grind
theorem mnL_comm {p q : Int × Int} (hp : InP p) (hq : InP q) : mnL p q = mnL q p := key_inj (mnL_in hp hq) (mnL_in hq hp) (by rw [mnL_key hp hq, mnL_key hq hp]; omega)
theorem mxL_comm {p q : Int × Int} (hp : InP p) (hq : InP q) : mxL p q = mxL q p := key_inj (mxL_in hp hq) (mxL_in hq hp) (by rw [mxL_key hp hq, mxL_key hq hp]; omega)
section
variable {a b c d : Int × Int} (ha : InP a) (hb : InP b) (hc : InP c) (hd : InP d)
include ha hb hc hd
theorem cross_turned : crossP d.1 d.2 c.1 c.2 a.1 a.2 b.1 b.2 = crossP a.1 a.2 b.1 b.2 c.1 c.2 d.1 d.2 := by
  rw [crossP_eq ha hb hc hd, crossP_eq hd hc ha hb]
  have hD : Dn d c a b = Dn a b c d := by unfold Dn; grind
  have h1 := side_c a b c d
  have h2 : side d.1 d.2 c.1 c.2 a.1 a.2 = -side c.1 c.2 d.1 d.2 a.1 a.2 := side_ba c d a
  rw [hD, h2, h1]
  have e1 : d.1 * Dn a b c d + (Dn a b c d + side a.1 a.2 b.1 b.2 c.1 c.2) * (c.1 - d.1) = a.1 * Dn a b c d + side c.1 c.2 d.1 d.2 a.1 a.2 * (b.1 - a.1) := by unfold Dn side; grind
  have e2 : d.2 * Dn a b c d + (Dn a b c d + side a.1 a.2 b.1 b.2 c.1 c.2) * (c.2 - d.2) = a.2 * Dn a b c d + side c.1 c.2 d.1 d.2 a.1 a.2 * (b.2 - a.2) := by unfold Dn side; grind
  generalize side c.1 c.2 d.1 d.2 a.1 a.2 = u at *
  generalize side a.1 a.2 b.1 b.2 c.1 c.2 = v at *
  generalize Dn a b c d = D at *
  by_cases n1 : D < 0
  · rw [if_pos n1, if_pos n1]
    unfold crossN
    have f1 : d.1 * -D + -(D + v) * (c.1 - d.1) = a.1 * -D + -u * (b.1 - a.1) := by grind
    have f2 : d.2 * -D + -(D + v) * (c.2 - d.2) = a.2 * -D + -u * (b.2 - a.2) := by grind
    rw [f1, f2]
    by_cases g : -u < 0 ∨ -u > -D ∨ v < 0 ∨ v > -D
    · rw [if_pos g, if_pos (by omega)]
    · rw [if_neg g, if_neg (by omega)]
  · rw [if_neg n1, if_neg n1]
    by_cases n2 : 0 < D
    · rw [if_pos n2, if_pos n2]
      unfold crossN
      rw [e1, e2]
      by_cases g : u < 0 ∨ u > D ∨ -v < 0 ∨ -v > D
      · rw [if_pos g, if_pos (by omega)]
      · rw [if_neg g, if_neg (by omega)]
    · rw [if_neg n2, if_neg n2]
      have e : alongP d c a b = alongP a b c d := by
        rw [along_comm hd hc ha hb]; unfold alongP; rw [mnL_comm hd hc, mxL_comm hd hc]
      rw [e]
      by_cases g : v = 0 ∧ u = 0
      · rw [if_pos g, if_pos (by omega)]
      · rw [if_neg g, if_neg (by omega)]
end
theorem spot_D {x y D : Int} (hD : 0 < D) : (spot3 x y D).2.2 ≤ D := by
  unfold spot3
  obtain ⟨g, hg⟩ : ∃ g : Int, (Int.gcd (Int.gcd x y) D : Int) = g := ⟨_, rfl⟩
  rw [hg]
  have g0 : 0 < g := by
    rw [← hg]
    have := Int.gcd_pos_of_ne_zero_right (Int.gcd x y : Int) (show D ≠ 0 by omega)
    omega
  have d1 : g ∣ D := hg ▸ Int.gcd_dvd_right ..
  obtain ⟨D', rfl⟩ := d1
  rw [Int.mul_tdiv_cancel_left _ (by omega)]
  have hD' : 0 < D' := Int.lt_of_mul_lt_mul_left (a := g) (by rw [Int.mul_zero]; exact hD) (by omega)
  have := Int.mul_le_mul_of_nonneg_right (show 1 ≤ g by omega) (Int.le_of_lt hD')
  dsimp only; omega
theorem mul_bd {x y A B : Int} (h1 : -A ≤ x) (h2 : x ≤ A) (h3 : -B ≤ y) (h4 : y ≤ B) : -(A * B) ≤ x * y ∧ x * y ≤ A * B := by
  have h : (x * y).natAbs ≤ (A * B).natAbs := by
    rw [Int.natAbs_mul, Int.natAbs_mul]; exact Nat.mul_le_mul (by omega) (by omega)
  have := Int.mul_nonneg (show 0 ≤ A by omega) (show 0 ≤ B by omega)
  omega
theorem Dn_bd {a b c d : Int × Int} (ha : InP a) (hb : InP b) (hc : InP c) (hd : InP d) : -80000000000 ≤ Dn a b c d ∧ Dn a b c d ≤ 80000000000 := by
  unfold InP InAt at *; unfold Dn
  have p := mul_bd (x := b.1 - a.1) (y := d.2 - c.2) (A := 200000) (B := 200000) (by omega) (by omega) (by omega) (by omega)
  have q := mul_bd (x := b.2 - a.2) (y := d.1 - c.1) (A := 200000) (B := 200000) (by omega) (by omega) (by omega) (by omega)
  omega
def OnLine (a b : Int × Int) (q : Int × Int × Int) : Prop := (b.1 - a.1) * (q.2.1 - a.2 * q.2.2) = (b.2 - a.2) * (q.1 - a.1 * q.2.2)
def Between (a b : Int × Int) (q : Int × Int × Int) : Prop := min a.1 b.1 * q.2.2 ≤ q.1 ∧ q.1 ≤ max a.1 b.1 * q.2.2 ∧ min a.2 b.2 * q.2.2 ≤ q.2.1 ∧ q.2.1 ≤ max a.2 b.2 * q.2.2
theorem onLine_comm {a b : Int × Int} {q : Int × Int × Int} (h : OnLine a b q) : OnLine b a q := by unfold OnLine at *; grind
theorem between_comm {a b : Int × Int} {q : Int × Int × Int} (h : Between a b q) : Between b a q := by
  unfold Between at *; rw [Int.min_comm b.1, Int.max_comm b.1, Int.min_comm b.2, Int.max_comm b.2]; exact h
theorem mix_bd {p q u D : Int} (h0 : 0 ≤ u) (h1 : u ≤ D) : min p q * D ≤ p * D + u * (q - p) ∧ p * D + u * (q - p) ≤ max p q * D := by
  have e : p * D + u * (q - p) = p * (D - u) + q * u := by grind
  have a1 := Int.mul_le_mul_of_nonneg_right (show min p q ≤ p by omega) (show 0 ≤ D - u by omega)
  have a2 := Int.mul_le_mul_of_nonneg_right (show min p q ≤ q by omega) h0
  have a3 := Int.mul_le_mul_of_nonneg_right (show p ≤ max p q by omega) (show 0 ≤ D - u by omega)
  have a4 := Int.mul_le_mul_of_nonneg_right (show q ≤ max p q by omega) h0
  have b1 : min p q * D = min p q * (D - u) + min p q * u := by grind
  have b2 : max p q * D = max p q * (D - u) + max p q * u := by grind
  omega
theorem spot_good {a b : Int × Int} {u D : Int} (h0 : 0 ≤ u) (h1 : u ≤ D) (hD : 0 < D) :
    1 ≤ (spot3 (a.1 * D + u * (b.1 - a.1)) (a.2 * D + u * (b.2 - a.2)) D).2.2 ∧ OnLine a b (spot3 (a.1 * D + u * (b.1 - a.1)) (a.2 * D + u * (b.2 - a.2)) D) ∧ Between a b (spot3 (a.1 * D + u * (b.1 - a.1)) (a.2 * D + u * (b.2 - a.2)) D) := by
  obtain ⟨x, hx⟩ : ∃ x, a.1 * D + u * (b.1 - a.1) = x := ⟨_, rfl⟩
  obtain ⟨y, hy⟩ : ∃ y, a.2 * D + u * (b.2 - a.2) = y := ⟨_, rfl⟩
  have bx := mix_bd (p := a.1) (q := b.1) h0 h1
  have by' := mix_bd (p := a.2) (q := b.2) h0 h1
  rw [hx] at bx; rw [hy] at by'
  rw [hx, hy]
  obtain ⟨g, hg⟩ : ∃ g : Int, (Int.gcd (Int.gcd x y) D : Int) = g := ⟨_, rfl⟩
  have g0 : 0 < g := by
    rw [← hg]
    have := Int.gcd_pos_of_ne_zero_right (Int.gcd x y : Int) (show D ≠ 0 by omega)
    omega
  have d1 : g ∣ D := hg ▸ Int.gcd_dvd_right ..
  have d2 : g ∣ x := Int.dvd_trans (hg ▸ Int.gcd_dvd_left ..) (Int.gcd_dvd_left ..)
  have d3 : g ∣ y := Int.dvd_trans (hg ▸ Int.gcd_dvd_left ..) (Int.gcd_dvd_right ..)
  obtain ⟨D', rfl⟩ := d1
  obtain ⟨x', rfl⟩ := d2
  obtain ⟨y', rfl⟩ := d3
  unfold spot3
  rw [hg, Int.mul_tdiv_cancel_left _ (by omega), Int.mul_tdiv_cancel_left _ (by omega), Int.mul_tdiv_cancel_left _ (by omega)]
  have hD' : 0 < D' := Int.lt_of_mul_lt_mul_left (a := g) (by rw [Int.mul_zero]; exact hD) (by omega)
  have can : ∀ {p q : Int}, g * p = g * q → p = q := fun h => Int.eq_of_mul_eq_mul_left (by omega) h
  have le : ∀ {p q : Int}, g * p ≤ g * q → p ≤ q := fun h => Int.le_of_mul_le_mul_left h g0
  refine ⟨hD', ?_, ?_⟩
  · unfold OnLine; apply can; grind
  · unfold Between; dsimp only
    refine ⟨le ?_, le ?_, le ?_, le ?_⟩
    · have := bx.1; grind
    · have := bx.2; grind
    · have := by'.1; grind
    · have := by'.2; grind
section
variable {a b c d : Int × Int} (ha : InP a) (hb : InP b) (hc : InP c) (hd : InP d)
include ha hb hc hd
theorem cross_ab {q : Int × Int × Int} (hq : q ∈ crossP a.1 a.2 b.1 b.2 c.1 c.2 d.1 d.2) : 1 ≤ q.2.2 ∧ OnLine a b q ∧ Between a b q := by
  rw [crossP_eq ha hb hc hd] at hq
  have h1 := side_c a b c d; have h2 := side_a a b c d
  by_cases n1 : Dn a b c d < 0
  · rw [if_pos n1] at hq
    unfold crossN at hq
    split at hq
    · simp at hq
    · rename_i g
      simp only [List.mem_singleton] at hq
      rw [hq]
      exact spot_good (by omega) (by omega) (by omega)
  · rw [if_neg n1] at hq
    by_cases n2 : 0 < Dn a b c d
    · rw [if_pos n2] at hq
      unfold crossN at hq
      split at hq
      · simp at hq
      · rename_i g
        simp only [List.mem_singleton] at hq
        rw [hq]
        exact spot_good (by omega) (by omega) (by omega)
    · rw [if_neg n2] at hq
      split at hq
      · rename_i hz
        have hD : Dn a b c d = 0 := by omega
        have s0 : side a.1 a.2 b.1 b.2 d.1 d.2 = 0 := by omega
        have sa : side a.1 a.2 b.1 b.2 a.1 a.2 = 0 := by unfold side; grind
        have sb : side a.1 a.2 b.1 b.2 b.1 b.2 = 0 := by unfold side; grind
        have good : ∀ f : Int × Int, InP f → side a.1 a.2 b.1 b.2 f.1 f.2 = 0 → min (key a) (key b) ≤ key f → key f ≤ max (key a) (key b) → q = (f.1, f.2, 1) → 1 ≤ q.2.2 ∧ OnLine a b q ∧ Between a b q := by
          intro f hf sf k1 k2 e
          have o := (on_key ha hb hf sf).2 ⟨k1, k2⟩
          unfold onB at o
          have o := of_decide_eq_true o
          subst e
          refine ⟨by simp, ?_, ?_⟩
          · unfold OnLine; unfold side at sf; dsimp only; grind
          · unfold Between; dsimp only; omega
        have fin := mxL_in (mnL_in ha hb) (mnL_in hc hd)
        have tin := mnL_in (mxL_in ha hb) (mxL_in hc hd)
        have kf := mxL_key (mnL_in ha hb) (mnL_in hc hd)
        have kt := mnL_key (mxL_in ha hb) (mxL_in hc hd)
        rw [mnL_key ha hb, mnL_key hc hd] at kf
        rw [mxL_key ha hb, mxL_key hc hd] at kt
        have sf : side a.1 a.2 b.1 b.2 (mxL (mnL a b) (mnL c d)).1 (mxL (mnL a b) (mnL c d)).2 = 0 := by
          rcases mxL_or (mnL a b) (mnL c d) with e | e <;> rw [e]
          · rcases mnL_or a b with e | e <;> rw [e] <;> assumption
          · rcases mnL_or c d with e | e <;> rw [e]
            · exact hz.1
            · exact s0
        have st : side a.1 a.2 b.1 b.2 (mnL (mxL a b) (mxL c d)).1 (mnL (mxL a b) (mxL c d)).2 = 0 := by
          rcases mnL_or (mxL a b) (mxL c d) with e | e <;> rw [e]
          · rcases mxL_or a b with e | e <;> rw [e] <;> assumption
          · rcases mxL_or c d with e | e <;> rw [e]
            · exact hz.1
            · exact s0
        unfold alongP at hq; dsimp only at hq
        split at hq
        · rename_i e
          simp only [List.mem_singleton] at hq
          refine good _ fin sf (by omega) ?_ hq
          rw [e, kt]; omega
        · split at hq
          · rename_i hne hlt
            rw [key_lt fin tin] at hlt
            have hlt := of_decide_eq_true hlt
            rw [List.mem_cons, List.mem_singleton] at hq
            rcases hq with hq | hq
            · exact good _ fin sf (by omega) (by omega) hq
            · exact good _ tin st (by omega) (by omega) hq
          · simp at hq
      · simp at hq
theorem cross_D {q : Int × Int × Int} (hq : q ∈ crossP a.1 a.2 b.1 b.2 c.1 c.2 d.1 d.2) : q.2.2 ≤ 80000000000 := by
  rw [crossP_eq ha hb hc hd] at hq
  have hb' := Dn_bd ha hb hc hd
  by_cases n1 : Dn a b c d < 0
  · rw [if_pos n1] at hq
    unfold crossN at hq
    split at hq
    · simp at hq
    · simp only [List.mem_singleton] at hq
      have := spot_D (x := a.1 * -Dn a b c d + -side c.1 c.2 d.1 d.2 a.1 a.2 * (b.1 - a.1)) (y := a.2 * -Dn a b c d + -side c.1 c.2 d.1 d.2 a.1 a.2 * (b.2 - a.2)) (show 0 < -Dn a b c d by omega)
      rw [hq]; omega
  · rw [if_neg n1] at hq
    by_cases n2 : 0 < Dn a b c d
    · rw [if_pos n2] at hq
      unfold crossN at hq
      split at hq
      · simp at hq
      · simp only [List.mem_singleton] at hq
        have := spot_D (x := a.1 * Dn a b c d + side c.1 c.2 d.1 d.2 a.1 a.2 * (b.1 - a.1)) (y := a.2 * Dn a b c d + side c.1 c.2 d.1 d.2 a.1 a.2 * (b.2 - a.2)) n2
        rw [hq]; omega
    · rw [if_neg n2] at hq
      split at hq
      · unfold alongP at hq; dsimp only at hq
        split at hq
        · simp only [List.mem_singleton] at hq; rw [hq]; show (1 : Int) ≤ 80000000000; decide
        · split at hq
          · rw [List.mem_cons, List.mem_singleton] at hq
            rcases hq with hq | hq <;> (rw [hq]; show (1 : Int) ≤ 80000000000; decide)
          · simp at hq
      · simp at hq
theorem cross_cd {q : Int × Int × Int} (hq : q ∈ crossP a.1 a.2 b.1 b.2 c.1 c.2 d.1 d.2) : OnLine c d q ∧ Between c d q := by
  rw [← cross_turned ha hb hc hd] at hq
  have h := cross_ab hd hc ha hb hq
  exact ⟨onLine_comm h.2.1, between_comm h.2.2⟩
theorem cross_none (h : crossP a.1 a.2 b.1 b.2 c.1 c.2 d.1 d.2 = []) (h1 : sgn (side a.1 a.2 b.1 b.2 c.1 c.2) * sgn (side a.1 a.2 b.1 b.2 d.1 d.2) ≤ 0) (h2 : sgn (side c.1 c.2 d.1 d.2 a.1 a.2) * sgn (side c.1 c.2 d.1 d.2 b.1 b.2) ≤ 0) :
    sgn (side a.1 a.2 b.1 b.2 c.1 c.2) = 0 ∧ sgn (side a.1 a.2 b.1 b.2 d.1 d.2) = 0 := by
  rw [crossP_eq ha hb hc hd] at h
  have e1 := side_c a b c d; have e2 := side_a a b c d
  have l1 := sgn_le h1; have l2 := sgn_le h2
  rw [sgn_zero, sgn_zero]
  by_cases n1 : Dn a b c d < 0
  · rw [if_pos n1] at h
    unfold crossN at h
    split at h
    · omega
    · simp at h
  · rw [if_neg n1] at h
    by_cases n2 : 0 < Dn a b c d
    · rw [if_pos n2] at h
      unfold crossN at h
      split at h
      · omega
      · simp at h
    · have hD : Dn a b c d = 0 := by omega
      omega
theorem cross_two (h : 2 ≤ (crossP a.1 a.2 b.1 b.2 c.1 c.2 d.1 d.2).length) : sgn (side a.1 a.2 b.1 b.2 c.1 c.2) = 0 ∧ sgn (side a.1 a.2 b.1 b.2 d.1 d.2) = 0 := by
  rw [crossP_eq ha hb hc hd] at h
  have e1 := side_c a b c d
  rw [sgn_zero, sgn_zero]
  by_cases n1 : Dn a b c d < 0
  · rw [if_pos n1] at h
    unfold crossN at h
    split at h <;> simp at h
  · rw [if_neg n1] at h
    by_cases n2 : 0 < Dn a b c d
    · rw [if_pos n2] at h
      unfold crossN at h
      split at h <;> simp at h
    · rw [if_neg n2] at h
      split at h
      · rename_i hz; omega
      · simp at h
theorem cross_small : (crossP a.1 a.2 b.1 b.2 c.1 c.2 d.1 d.2).length ≤ 2 := by
  rw [crossP_eq ha hb hc hd]
  unfold crossN alongP; dsimp only
  repeat' split
  all_goals simp
end
instance (p : Int × Int) : Decidable (InP p) := by unfold InP; infer_instance
def Four (l : List (Int × Int)) : Prop := 4 ≤ l.length ∧ InP (l.getD 0 (0, 0)) ∧ InP (l.getD 1 (0, 0)) ∧ InP (l.getD 2 (0, 0)) ∧ InP (l.getD 3 (0, 0))
instance (l : List (Int × Int)) : Decidable (Four l) := by unfold Four; infer_instance
end Go.Proofs.Ytgnhcdchpeeoaaa.Plane

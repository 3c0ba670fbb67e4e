/- A part of the proof that the law AllG answers true at every input. No conditions. -/
import Derived.Test.YtgnhcdchpeeoaaaQGPureCross
import Derived.Test.YtgnhcdchpeeoaaaQGG5
set_option linter.unusedVariables false
namespace Go.Proofs.Ytgnhcdchpeeoaaa.PG
open Go.RowKit Go.Proofs.YtgnhcdchpeeoaaaW.PrintWords Go.Proofs.YtgnhcdchpeeoaaaW.PrintLast Go.Proofs.YtgnhcdchpeeoaaaW.PrintMore Plane
theorem ev_ifT {α : Type} {c : Prop} [Decidable c] {f g : Nat → Option α} {r : α} (h : c) (e : Ev f r) : Ev (fun k => if c then f k else g k) r :=
  e.congr fun k => if_pos h
theorem ev_ifF {α : Type} {c : Prop} [Decidable c] {f g : Nat → Option α} {r : α} (h : ¬ c) (e : Ev g r) : Ev (fun k => if c then f k else g k) r :=
  e.congr fun k => if_neg h
theorem ev_bindS {α β : Type} {f : Nat → α → Option β} {o : Option α} {a : α} {r : β} (h : o = some a) (k : Ev (fun n => f n a) r) : Ev (fun n => o.bind (f n)) r :=
  k.congr fun n => by rw [h]; rfl
theorem pw64 {x : Int} (h1 : -9223372036854775808 ≤ x) (h2 : x ≤ 9223372036854775807) : wrap64 x = x := by unfold wrap64; omega
theorem pmul {x y A B : Int} (h1 : -A ≤ x) (h2 : x ≤ A) (h3 : -B ≤ y) (h4 : y ≤ B) : -(A * B) ≤ x * y ∧ x * y ≤ A * B := by
  have hA : 0 ≤ A := by omega
  have hB : 0 ≤ B := by omega
  have h : (x * y).natAbs ≤ (A * B).natAbs := by
    rw [Int.natAbs_mul, Int.natAbs_mul]; exact Nat.mul_le_mul (by omega) (by omega)
  have := Int.mul_nonneg hA hB
  omega
theorem side_bd {p q x : Int × Int} (hp : InP p) (hq : InP q) (hx : InP x) : -80000000000 ≤ side p.1 p.2 q.1 q.2 x.1 x.2 ∧ side p.1 p.2 q.1 q.2 x.1 x.2 ≤ 80000000000 := by
  unfold InP InAt at *; unfold side
  have a := pmul (x := q.1 - p.1) (y := x.2 - p.2) (A := 200000) (B := 200000) (by omega) (by omega) (by omega) (by omega)
  have b := pmul (x := q.2 - p.2) (y := x.1 - p.1) (A := 200000) (B := 200000) (by omega) (by omega) (by omega) (by omega)
  omega
theorem sSide_f {p q x : Int × Int} (hp : InP p) (hq : InP q) (hx : InP x) : spec_l03Side.f p.1 p.2 q.1 q.2 x.1 x.2 = some (side p.1 p.2 q.1 q.2 x.1 x.2) := by
  have h := side_bd hp hq hx
  unfold InP InAt at *; unfold side at *; unfold spec_l03Side.f
  have a := pmul (x := q.1 - p.1) (y := x.2 - p.2) (A := 200000) (B := 200000) (by omega) (by omega) (by omega) (by omega)
  have b := pmul (x := q.2 - p.2) (y := x.1 - p.1) (A := 200000) (B := 200000) (by omega) (by omega) (by omega) (by omega)
  rw [pw64 (x := q.1 - p.1) (by omega) (by omega), pw64 (x := x.2 - p.2) (by omega) (by omega), pw64 (x := q.2 - p.2) (by omega) (by omega), pw64 (x := x.1 - p.1) (by omega) (by omega)]
  rw [pw64 (x := (q.1 - p.1) * _) (by omega) (by omega), pw64 (x := (q.2 - p.2) * _) (by omega) (by omega), pw64 (by omega) (by omega)]
theorem sLess_f (p q : Int × Int) : spec_l03Less.f p.1 p.2 q.1 q.2 = some (lessP p q) := by
  unfold spec_l03Less.f lessP
  split
  · rename_i h; simp [h]
  · split <;> (rename_i h1 h2; simp [h1, h2])
theorem sOn_f {a b x : Int × Int} (h : side a.1 a.2 b.1 b.2 x.1 x.2 = 0) : spec_l03On.f a.1 a.2 b.1 b.2 x.1 x.2 = some (onB a.1 a.2 b.1 b.2 x.1 x.2) := by
  unfold spec_l03On.f onB mn mx
  rw [h]
  have e1 : (if b.1 < a.1 then b.1 else a.1) = min a.1 b.1 := by split <;> omega
  have e2 : (if a.1 < b.1 then b.1 else a.1) = max a.1 b.1 := by split <;> omega
  have e3 : (if b.2 < a.2 then b.2 else a.2) = min a.2 b.2 := by split <;> omega
  have e4 : (if a.2 < b.2 then b.2 else a.2) = max a.2 b.2 := by split <;> omega
  rw [e1, e2, e3, e4]
  split
  · split
    · split
      · congr 1; rw [decide_eq_decide]; omega
      · congr 1; symm; rw [decide_eq_false_iff_not]; omega
    · congr 1; symm; rw [decide_eq_false_iff_not]; omega
  · congr 1; symm; rw [decide_eq_false_iff_not]; omega
def tS (t : Int × Int × Int) : S41 := ⟨t.1, t.2.1, t.2.2⟩
theorem pt_eq (p q : Int × Int) : (p.1 == q.1 && (p.2 == q.2)) = true ↔ p = q := by
  rw [Bool.and_eq_true, beq_iff_eq, beq_iff_eq]; exact Prod.ext_iff.symm
theorem sAlong0 {a b c d : Int × Int} (ha : InP a) (hb : InP b) (hc : InP c) (hd : InP d)
    (s1 : side a.1 a.2 b.1 b.2 c.1 c.2 = 0) (s2 : side a.1 a.2 b.1 b.2 d.1 d.2 = 0)
    (s3 : side c.1 c.2 d.1 d.2 a.1 a.2 = 0) (s4 : side c.1 c.2 d.1 d.2 b.1 b.2 = 0)
    (hab : lessP b a = false) (hcd : lessP d c = false) (k : Nat) : spec_l03Along.f (k + 3) a.1 a.2 b.1 b.2 c.1 c.2 d.1 d.2 = some ((alongP a b c d).map tS) := by
  have e1 : mnL a b = a := by simp [mnL, hab]
  have e2 : mxL a b = b := by simp [mxL, hab]
  have e3 : mnL c d = c := by simp [mnL, hcd]
  have e4 : mxL c d = d := by simp [mxL, hcd]
  have kab := key_lt hb ha; have kcd := key_lt hd hc
  rw [hab] at kab; rw [hcd] at kcd; simp at kab kcd
  have ef : (if lessP a c = true then c else a) = mxL a c := by
    unfold mxL
    rw [key_lt ha hc, key_lt hc ha]
    by_cases h1 : key a < key c
    · simp [h1, show ¬ key c < key a by omega]
    · by_cases h2 : key c < key a
      · simp [h1, h2]
      · simp [h1, h2]; exact key_inj ha hc (by omega)
  have et : (if lessP d b = true then d else b) = mnL b d := by unfold mnL; rfl
  have hf := mxL_in ha hc
  have ht := mnL_in hb hd
  have kf := mxL_key ha hc
  have kt := mnL_key hb hd
  unfold alongP
  rw [e1, e2, e3, e4]
  have J1 : ∀ f t : Int × Int, f = mxL a c → t = mnL b d → spec_l03Along.j1 (k + 1) a.1 a.2 b.1 b.2 c.1 c.2 d.1 d.2 f.1 f.2 t.1 t.2 =
      some ((if f = t then [(f.1, f.2, 1)] else if lessP f t = true then [(f.1, f.2, 1), (t.1, t.2, 1)] else []).map tS) := by
    intro f t hf' ht'
    rw [spec_l03Along.j1, sLess_f]
    by_cases he : f = t
    · have of : f = a ∨ f = c := hf' ▸ mxL_or a c
      have ot : f = b ∨ f = d := by rw [he]; exact ht' ▸ mnL_or b d
      have sf1 : side a.1 a.2 b.1 b.2 f.1 f.2 = 0 := by
        rcases of with h | h
        · subst h; unfold side; grind
        · rw [h]; exact s1
      have sf2 : side c.1 c.2 d.1 d.2 f.1 f.2 = 0 := by
        rcases of with h | h
        · rw [h]; exact s3
        · subst h; unfold side; grind
      have inf : InP f := by rw [hf']; exact hf
      have o1 : onB a.1 a.2 b.1 b.2 f.1 f.2 = true := (on_key ha hb inf sf1).2 (by rw [← hf'] at kf; rw [← ht'] at kt; rw [← he] at kt; omega)
      have o2 : onB c.1 c.2 d.1 d.2 f.1 f.2 = true := (on_key hc hd inf sf2).2 (by rw [← hf'] at kf; rw [← ht'] at kt; rw [← he] at kt; omega)
      rw [if_pos ((pt_eq f t).2 he), sOn_f sf1, sOn_f sf2, o1, o2, if_pos he]
      rfl
    · rw [if_neg (fun h => he ((pt_eq f t).1 h)), if_neg he]
      cases hl : lessP f t <;> simp [spec_l03Whole.f, tS]
  have J0 : ∀ f : Int × Int, f = mxL a c → spec_l03Along.j0 (k + 2) a.1 a.2 b.1 b.2 c.1 c.2 d.1 d.2 f.1 f.2 =
      some ((if f = mnL b d then [(f.1, f.2, 1)] else if lessP f (mnL b d) = true then [(f.1, f.2, 1), ((mnL b d).1, (mnL b d).2, 1)] else []).map tS) := by
    intro f hf'
    rw [spec_l03Along.j0, sLess_f]
    simp only [Option.bind_some]
    by_cases h : lessP d b = true
    · rw [if_pos h]; exact (J1 f d hf' (by rw [← et, if_pos h])).trans (by rw [← et, if_pos h])
    · rw [if_neg h]; exact (J1 f b hf' (by rw [← et, if_neg h])).trans (by rw [← et, if_neg h])
  rw [spec_l03Along.f, sLess_f, hab]
  simp only [Option.bind_some]
  rw [if_neg (by decide), sLess_f, hcd]
  simp only [Option.bind_some]
  rw [if_neg (by decide), sLess_f]
  simp only [Option.bind_some]
  by_cases h : lessP a c = true
  · rw [if_pos h]; exact (J0 c (by rw [← ef, if_pos h])).trans (by rw [← ef, if_pos h])
  · rw [if_neg h]; exact (J0 a (by rw [← ef, if_neg h])).trans (by rw [← ef, if_neg h])
theorem alongP_swapL {a b c d : Int × Int} (ha : InP a) (hb : InP b) : alongP b a c d = alongP a b c d := by
  have e1 : mnL b a = mnL a b := key_inj (mnL_in hb ha) (mnL_in ha hb) (by rw [mnL_key hb ha, mnL_key ha hb]; omega)
  have e2 : mxL b a = mxL a b := key_inj (mxL_in hb ha) (mxL_in ha hb) (by rw [mxL_key hb ha, mxL_key ha hb]; omega)
  unfold alongP; rw [e1, e2]
theorem alongP_swapR {a b c d : Int × Int} (hc : InP c) (hd : InP d) : alongP a b d c = alongP a b c d := by
  have e1 : mnL d c = mnL c d := key_inj (mnL_in hd hc) (mnL_in hc hd) (by rw [mnL_key hd hc, mnL_key hc hd]; omega)
  have e2 : mxL d c = mxL c d := key_inj (mxL_in hd hc) (mxL_in hc hd) (by rw [mxL_key hd hc, mxL_key hc hd]; omega)
  unfold alongP; rw [e1, e2]
theorem less_asym {p q : Int × Int} (hp : InP p) (hq : InP q) (h : lessP p q = true) : lessP q p = false := by
  rw [key_lt hp hq] at h; rw [key_lt hq hp]; simp at *; omega
theorem sAlong1 {a b c d : Int × Int} (ha : InP a) (hb : InP b) (hc : InP c) (hd : InP d)
    (s1 : side a.1 a.2 b.1 b.2 c.1 c.2 = 0) (s2 : side a.1 a.2 b.1 b.2 d.1 d.2 = 0)
    (s3 : side c.1 c.2 d.1 d.2 a.1 a.2 = 0) (s4 : side c.1 c.2 d.1 d.2 b.1 b.2 = 0)
    (hab : lessP b a = false) (k : Nat) : spec_l03Along.f (k + 4) a.1 a.2 b.1 b.2 c.1 c.2 d.1 d.2 = some ((alongP a b c d).map tS) := by
  by_cases hcd : lessP d c = true
  · rw [spec_l03Along.f, sLess_f, hab]
    simp only [Option.bind_some]
    rw [if_neg (by decide), sLess_f, hcd]
    simp only [Option.bind_some, if_true]
    rw [sAlong0 ha hb hd hc s2 s1 (by rw [side_swap]; omega) (by rw [side_swap]; omega) hab (less_asym hd hc hcd), alongP_swapR hc hd]; rfl
  · exact sAlong0 ha hb hc hd s1 s2 s3 s4 hab (by simpa using hcd) (k + 1)
theorem sAlong {a b c d : Int × Int} (ha : InP a) (hb : InP b) (hc : InP c) (hd : InP d)
    (s1 : side a.1 a.2 b.1 b.2 c.1 c.2 = 0) (s2 : side a.1 a.2 b.1 b.2 d.1 d.2 = 0)
    (s3 : side c.1 c.2 d.1 d.2 a.1 a.2 = 0) (s4 : side c.1 c.2 d.1 d.2 b.1 b.2 = 0) (k : Nat) : spec_l03Along.f (k + 5) a.1 a.2 b.1 b.2 c.1 c.2 d.1 d.2 = some ((alongP a b c d).map tS) := by
  by_cases hab : lessP b a = true
  · rw [spec_l03Along.f, sLess_f, hab]
    simp only [Option.bind_some, if_true]
    rw [sAlong1 hb ha hc hd (by rw [side_swap]; omega) (by rw [side_swap]; omega) s4 s3 (less_asym hb ha hab), alongP_swapL ha hb]; rfl
  · exact sAlong1 ha hb hc hd s1 s2 s3 s4 (by simpa using hab) (k + 1)
theorem sGcd_tmod (a b : Int) : Int.gcd b (a.tmod b) = Int.gcd a b := by
  rw [Int.gcd_comm a b]
  have h : a.tmod b = a - b * a.tdiv b := by have := Int.mul_tdiv_add_tmod a b; omega
  rw [h, Int.gcd_sub_mul_left_right]
theorem tmod_lt {a b : Int} (h : b ≠ 0) : (a.tmod b).natAbs < b.natAbs := by
  have h1 := Int.tmod_lt_of_pos a (b := (b.natAbs : Int)) (by omega)
  have h2 := Int.lt_tmod_of_pos a (b := (b.natAbs : Int)) (by omega)
  have e : a.tmod (b.natAbs : Int) = a.tmod b := by
    rcases Int.natAbs_eq b with h | h
    · rw [← h]
    · conv => rhs; rw [h]
      rw [Int.tmod_neg]
  rw [e] at h1 h2
  omega
theorem sGcd_l0 : ∀ (n : Nat) (a b : Int), b.natAbs ≤ n → ∃ g, Ev (fun k => spec_l01Gcd.l0 k a b) g ∧ g.natAbs = Int.gcd a b
  | n, a, b, hb => by
    by_cases h : b = 0
    · subst h
      refine ⟨a, Ev.step (fun k => by rw [spec_l01Gcd.l0]) (ev_ifT rfl (Ev.now _)), by rw [Int.gcd_zero_right]⟩
    · have hlt := tmod_lt (a := a) h
      match n, hb with
      | 0, hb => exact absurd hb (by omega)
      | n + 1, hb =>
        obtain ⟨g, e, hg⟩ := sGcd_l0 n b (a.tmod b) (by omega)
        exact ⟨g, Ev.step (fun k => by rw [spec_l01Gcd.l0]) (ev_ifF h e), by rw [hg, sGcd_tmod]⟩
theorem sGcd (a b : Int) : ∃ g, Ev (fun k => spec_l01Gcd.f k a b) g ∧ g.natAbs = Int.gcd a b := sGcd_l0 b.natAbs a b (Nat.le_refl _)
theorem natAbs_gcd (g x : Int) (h : Int) : Int.gcd g x = Int.gcd (g.natAbs : Int) x := by simp [Int.gcd]
theorem sSpot_pos {x y d : Int} (hx : -100000000000000000 ≤ x ∧ x ≤ 100000000000000000) (hy : -100000000000000000 ≤ y ∧ y ≤ 100000000000000000) (hd : 0 < d) (hd2 : d ≤ 100000000000000000) :
    Ev (fun k => (spec_l01Gcd.f k x y).bind fun t188 => ((spec_l01Gcd.f k t188 d).bind fun t189 => ((spec_l01Abs.f t189).bind fun t190 => (if t190 = 0 then (none) else (some (wrap64 (Int.tdiv x t190), wrap64 (Int.tdiv y t190), wrap64 (Int.tdiv d t190))))))) (spot3 x y d) := by
  obtain ⟨g, e, hg⟩ := sGcd x y
  obtain ⟨g', e', hg'⟩ := sGcd g d
  rw [natAbs_gcd g d 0, hg] at hg'
  have hgd : (Int.gcd (Int.gcd x y) d : Int) ≤ d := by
    have := Int.gcd_le_natAbs_right (a := (Int.gcd x y : Int)) (show d ≠ 0 by omega); omega
  have hgp : (Int.gcd (Int.gcd x y) d : Int) ≠ 0 := by
    intro h
    have := (Int.gcd_eq_zero_iff.1 (by omega : Int.gcd (Int.gcd x y) d = 0)).2
    omega
  have hab : spec_l01Abs.f g' = some (Int.gcd (Int.gcd x y) d : Int) := by
    unfold spec_l01Abs.f
    rw [← hg'] at hgd ⊢
    split
    · rw [pw64 (by omega) (by omega)]; congr 1; omega
    · congr 1; omega
  refine e.bind (e'.bind (ev_bindS hab (ev_ifF hgp ?_)))
  have hq : ∀ z : Int, -100000000000000000 ≤ z ∧ z ≤ 100000000000000000 → wrap64 (z.tdiv (Int.gcd (Int.gcd x y) d)) = z.tdiv (Int.gcd (Int.gcd x y) d) := by
    intro z hz
    have := Int.natAbs_tdiv_le_natAbs z (Int.gcd (Int.gcd x y) d : Int)
    exact pw64 (by omega) (by omega)
  rw [hq x hx, hq y hy, hq d ⟨by omega, hd2⟩]
  exact Ev.now _
theorem sSpot_f {x y d : Int} (hx : -100000000000000000 ≤ x ∧ x ≤ 100000000000000000) (hy : -100000000000000000 ≤ y ∧ y ≤ 100000000000000000) (hd : d ≠ 0) (hd2 : -100000000000000000 ≤ d ∧ d ≤ 100000000000000000) :
    Ev (fun k => spec_l03Spot.f k x y d) (if d < 0 then spot3 (-x) (-y) (-d) else spot3 x y d) := by
  by_cases h : d < 0
  · rw [if_pos h]
    refine Ev.congr (fun k => by rw [spec_l03Spot.f, if_pos h, pw64 (x := -x) (by omega) (by omega), pw64 (x := -y) (by omega) (by omega), pw64 (x := -d) (by omega) (by omega)]) (sSpot_pos (x := -x) (y := -y) (d := -d) (by omega) (by omega) (by omega) (by omega))
  · rw [if_neg h]
    refine Ev.congr (fun k => by rw [spec_l03Spot.f, if_neg h]) (sSpot_pos hx hy (by omega) (by omega))
theorem sSign_f (x : Int) : spec_l03Sign.f x = some (if x > 0 then 1 else if x < 0 then -1 else 0) := by
  unfold spec_l03Sign.f; split
  · rfl
  · split <;> rfl
theorem sign_mul (x y : Int) : wrap64 ((if x > 0 then 1 else if x < 0 then -1 else 0) * (if y > 0 then 1 else if y < 0 then -1 else 0)) > 0 ↔ (0 < x ∧ 0 < y) ∨ (x < 0 ∧ y < 0) := by
  by_cases h1 : x > 0 <;> by_cases h2 : x < 0 <;> by_cases h3 : y > 0 <;> by_cases h4 : y < 0 <;> simp [h1, h2, h3, h4, wrap64] <;> omega
theorem sCross_f {a b c d : Int × Int} (ha : InP a) (hb : InP b) (hc : InP c) (hd : InP d) :
    Ev (fun k => spec_l03Cross.f k a.1 a.2 b.1 b.2 c.1 c.2 d.1 d.2) ((crossP a.1 a.2 b.1 b.2 c.1 c.2 d.1 d.2).map tS) := by
  rw [crossP_eq ha hb hc hd]
  have q1 := side_c a b c d; have q2 := side_a a b c d
  have b1 := side_bd ha hb hc; have b2 := side_bd ha hb hd; have b3 := side_bd hc hd ha; have b4 := side_bd hc hd hb
  have rest : (¬ (side a.1 a.2 b.1 b.2 c.1 c.2 = 0 ∧ side c.1 c.2 d.1 d.2 a.1 a.2 = 0 ∧ Dn a b c d = 0)) →
      Ev (fun k => spec_l03Cross.j0 k (side a.1 a.2 b.1 b.2 c.1 c.2) (side a.1 a.2 b.1 b.2 d.1 d.2) (side c.1 c.2 d.1 d.2 a.1 a.2) (side c.1 c.2 d.1 d.2 b.1 b.2) false a.1 a.2 b.1 b.2 c.1 c.2 d.1 d.2)
        ((if Dn a b c d < 0 then crossN a.1 a.2 (b.1 - a.1) (b.2 - a.2) (-side c.1 c.2 d.1 d.2 a.1 a.2) (side a.1 a.2 b.1 b.2 c.1 c.2) (-Dn a b c d)
          else if 0 < Dn a b c d then crossN a.1 a.2 (b.1 - a.1) (b.2 - a.2) (side c.1 c.2 d.1 d.2 a.1 a.2) (-side a.1 a.2 b.1 b.2 c.1 c.2) (Dn a b c d)
          else if side a.1 a.2 b.1 b.2 c.1 c.2 = 0 ∧ side c.1 c.2 d.1 d.2 a.1 a.2 = 0 then alongP a b c d else []).map tS) := by
    intro hz
    refine Ev.step (fun k => by rw [spec_l03Cross.j0]) (ev_ifF (by decide) (ev_bindS (sSign_f _) (ev_bindS (sSign_f _) ?_)))
    by_cases h1 : (0 < side a.1 a.2 b.1 b.2 c.1 c.2 ∧ 0 < side a.1 a.2 b.1 b.2 d.1 d.2) ∨ (side a.1 a.2 b.1 b.2 c.1 c.2 < 0 ∧ side a.1 a.2 b.1 b.2 d.1 d.2 < 0)
    · refine ev_ifT ((sign_mul _ _).2 h1) (Ev.step (fun k => by rw [spec_l03Cross.j1]) (ev_ifT rfl ?_))
      have : (if Dn a b c d < 0 then crossN a.1 a.2 (b.1 - a.1) (b.2 - a.2) (-side c.1 c.2 d.1 d.2 a.1 a.2) (side a.1 a.2 b.1 b.2 c.1 c.2) (-Dn a b c d)
          else if 0 < Dn a b c d then crossN a.1 a.2 (b.1 - a.1) (b.2 - a.2) (side c.1 c.2 d.1 d.2 a.1 a.2) (-side a.1 a.2 b.1 b.2 c.1 c.2) (Dn a b c d)
          else if side a.1 a.2 b.1 b.2 c.1 c.2 = 0 ∧ side c.1 c.2 d.1 d.2 a.1 a.2 = 0 then alongP a b c d else []) = [] := by
        unfold crossN; split
        · rw [if_pos (by omega)]
        · split
          · rw [if_pos (by omega)]
          · rw [if_neg (by omega)]
      rw [this]; exact Ev.now _
    · refine ev_ifF (fun h => h1 ((sign_mul _ _).1 h)) (ev_bindS (sSign_f _) (ev_bindS (sSign_f _) (Ev.step (fun k => by rw [spec_l03Cross.j1]) ?_)))
      by_cases h2 : (0 < side c.1 c.2 d.1 d.2 a.1 a.2 ∧ 0 < side c.1 c.2 d.1 d.2 b.1 b.2) ∨ (side c.1 c.2 d.1 d.2 a.1 a.2 < 0 ∧ side c.1 c.2 d.1 d.2 b.1 b.2 < 0)
      · refine ev_ifT (decide_eq_true ((sign_mul _ _).2 h2)) ?_
        have : (if Dn a b c d < 0 then crossN a.1 a.2 (b.1 - a.1) (b.2 - a.2) (-side c.1 c.2 d.1 d.2 a.1 a.2) (side a.1 a.2 b.1 b.2 c.1 c.2) (-Dn a b c d)
            else if 0 < Dn a b c d then crossN a.1 a.2 (b.1 - a.1) (b.2 - a.2) (side c.1 c.2 d.1 d.2 a.1 a.2) (-side a.1 a.2 b.1 b.2 c.1 c.2) (Dn a b c d)
            else if side a.1 a.2 b.1 b.2 c.1 c.2 = 0 ∧ side c.1 c.2 d.1 d.2 a.1 a.2 = 0 then alongP a b c d else []) = [] := by
          unfold crossN; split
          · rw [if_pos (by omega)]
          · split
            · rw [if_pos (by omega)]
            · rw [if_neg (by omega)]
        rw [this]; exact Ev.now _
      · refine ev_ifF (fun h => h2 ((sign_mul _ _).1 (of_decide_eq_true h))) ?_
        have hD : Dn a b c d ≠ 0 := by omega
        have nab : a ≠ b := fun h => hD (by subst h; unfold Dn; grind)
        have ncd : c ≠ d := fun h => hD (by subst h; unfold Dn; grind)
        refine ev_ifF (fun h => nab ((pt_eq a b).1 h)) (ev_ifF (fun h => ncd ((pt_eq c d).1 h)) ?_)
        have hs : side a.1 a.2 b.1 b.2 c.1 c.2 - side a.1 a.2 b.1 b.2 d.1 d.2 = -Dn a b c d := by omega
        have i1 : c.1 * (-Dn a b c d) + (d.1 - c.1) * side a.1 a.2 b.1 b.2 c.1 c.2 = a.1 * (-Dn a b c d) + (b.1 - a.1) * (-side c.1 c.2 d.1 d.2 a.1 a.2) := by unfold Dn side; grind
        have i2 : c.2 * (-Dn a b c d) + (d.2 - c.2) * side a.1 a.2 b.1 b.2 c.1 c.2 = a.2 * (-Dn a b c d) + (b.2 - a.2) * (-side c.1 c.2 d.1 d.2 a.1 a.2) := by unfold Dn side; grind
        have c1 := hc; have d1 := hd
        unfold InP InAt at c1 d1
        have m1 := pmul (x := c.1) (y := -Dn a b c d) (A := 100000) (B := 160000000000) (by omega) (by omega) (by omega) (by omega)
        have m2 := pmul (x := d.1 - c.1) (y := side a.1 a.2 b.1 b.2 c.1 c.2) (A := 200000) (B := 80000000000) (by omega) (by omega) (by omega) (by omega)
        have m3 := pmul (x := c.2) (y := -Dn a b c d) (A := 100000) (B := 160000000000) (by omega) (by omega) (by omega) (by omega)
        have m4 := pmul (x := d.2 - c.2) (y := side a.1 a.2 b.1 b.2 c.1 c.2) (A := 200000) (B := 80000000000) (by omega) (by omega) (by omega) (by omega)
        rw [hs, pw64 (x := -Dn a b c d) (by omega) (by omega), pw64 (x := d.1 - c.1) (by omega) (by omega), pw64 (x := d.2 - c.2) (by omega) (by omega),
          pw64 (x := c.1 * _) (by omega) (by omega), pw64 (x := c.2 * _) (by omega) (by omega), pw64 (x := (d.1 - c.1) * _) (by omega) (by omega), pw64 (x := (d.2 - c.2) * _) (by omega) (by omega),
          pw64 (x := c.1 * _ + _) (by omega) (by omega), pw64 (x := c.2 * _ + _) (by omega) (by omega)]
        refine Ev.bind (sSpot_f (by omega) (by omega) (by omega) (by omega)) ?_
        rw [i1, i2]
        by_cases hn : Dn a b c d < 0
        · rw [if_pos hn, if_neg (by omega : ¬ -Dn a b c d < 0)]
          unfold crossN
          rw [if_neg (by omega), Int.mul_comm (-side c.1 c.2 d.1 d.2 a.1 a.2) (b.1 - a.1), Int.mul_comm (-side c.1 c.2 d.1 d.2 a.1 a.2) (b.2 - a.2)]
          exact Ev.now _
        · rw [if_neg hn, if_pos (by omega : -Dn a b c d < 0), if_pos (by omega : 0 < Dn a b c d)]
          unfold crossN
          rw [if_neg (by omega)]
          have j1 : -(a.1 * -Dn a b c d + (b.1 - a.1) * -side c.1 c.2 d.1 d.2 a.1 a.2) = a.1 * Dn a b c d + (b.1 - a.1) * side c.1 c.2 d.1 d.2 a.1 a.2 := by grind
          have j2 : -(a.2 * -Dn a b c d + (b.2 - a.2) * -side c.1 c.2 d.1 d.2 a.1 a.2) = a.2 * Dn a b c d + (b.2 - a.2) * side c.1 c.2 d.1 d.2 a.1 a.2 := by grind
          rw [j1, j2, Int.neg_neg, Int.mul_comm (side c.1 c.2 d.1 d.2 a.1 a.2) (b.1 - a.1), Int.mul_comm (side c.1 c.2 d.1 d.2 a.1 a.2) (b.2 - a.2)]
          exact Ev.now _
  unfold spec_l03Cross.f
  refine ev_bindS (sSide_f ha hb hc) (ev_bindS (sSide_f ha hb hd) (ev_bindS (sSide_f hc hd ha) (ev_bindS (sSide_f hc hd hb) ?_)))
  by_cases h1 : side a.1 a.2 b.1 b.2 c.1 c.2 = 0
  · by_cases h2 : side a.1 a.2 b.1 b.2 d.1 d.2 = 0
    · by_cases h3 : side c.1 c.2 d.1 d.2 a.1 a.2 = 0
      · have h4 : side c.1 c.2 d.1 d.2 b.1 b.2 = 0 := by omega
        refine ev_ifT h1 (ev_ifT h2 (ev_ifT h3 (Ev.step (fun k => by rw [spec_l03Cross.j0]) (ev_ifT (by rw [h4]; rfl) ?_))))
        rw [if_neg (by omega), if_neg (by omega), if_pos ⟨h1, h3⟩]
        exact ⟨5, fun k hk => by obtain ⟨m, rfl⟩ : ∃ m, k = m + 5 := ⟨k - 5, by omega⟩; show (spec_l03Along.f (m + 5) a.1 a.2 b.1 b.2 c.1 c.2 d.1 d.2).bind _ = _; rw [sAlong ha hb hc hd h1 h2 h3 h4 m]; rfl⟩
      · exact ev_ifT h1 (ev_ifT h2 (ev_ifF h3 (rest (by omega))))
    · exact ev_ifT h1 (ev_ifF h2 (rest (by omega)))
  · exact ev_ifF h1 (rest (by omega))
end Go.Proofs.Ytgnhcdchpeeoaaa.PG

/- A stock and its part; a tool's columns. No conditions. -/
import Derived.Test.YtnaieiillgncjaaRows
import Derived.WalkKit
import Derived.ProofKit
import Derived.OpenShut
import Derived.ShutString
import Derived.ChangeOld
import Derived.Below
import Derived.SizedLaws
import Derived.Test.YtnaieiillgncjaaMAc
set_option linter.unusedVariables false
set_option linter.unusedSimpArgs false
set_option linter.unusedSectionVars false
namespace Go.Proofs.Ytnaieiillgncjaa.AX
open Go

def ge2 (x : Int × Int) : Bool := !decide (x.1 > x.2)
/-- A stock and a part go together. -/
def pairOk (W H : Int) (t : List Int) (V G : Int) (u : List Int) (r : Int) : Bool :=
  fok W H t && fok V G u && (W == V) && (H == G) && ((decide (r ≥ 0)) && (decide (r ≤ 3))) && (u.zip t).all ge2

theorem F28.l0_ok (W H : Int) (t u : List Int) (h : u.length ≤ 5000) (hl : t.length = u.length) : F28.l0 ((u.length : Int), 0, W, H, u, t) = some (if (u.zip t).all ge2 then .inr () else .inl false) := by
  have hz : (u.zip t).length = u.length := by simp [hl]
  have := lim_scan (f := F28.l0.b) (fun i => ((u.length : Int), (i : Int), W, H, u, t)) (u.zip t) (0, 0) ge2 (y := .inl false) (z := .inr ()) (fun i hi => by
    have e : (u.zip t).getD i (0, 0) = (u.getD i 0, t.getD i 0) := by rw [getD_lt hi, getD_lt (by omega), getD_lt (by omega)]; simp
    rw [e]
    cases hp : ge2 (u.getD i 0, t.getD i 0) with
    | true =>
      have hp' : decide (u.getD i 0 > t.getD i 0) = false := by simpa [ge2] using hp
      simp (disch := omega) only [F28.l0.b, dT, dF, w64, Bool.and_self, cT, cF, Int.toNat_natCast, hp', if_true]; rfl
    | false =>
      have hp' : decide (u.getD i 0 > t.getD i 0) = true := Bool.not_eq_false' .. |>.mp hp
      simp (disch := omega) only [F28.l0.b, dT, dF, w64, Bool.and_self, cT, cF, Int.toNat_natCast, hp']; rfl)
    (by simp (disch := omega) only [F28.l0.b, dT, dF, cF])
  exact this

theorem F27.l0_ok (W H V G : Int) (t u : List Int) (h : u.length ≤ 5000) (hl : t.length = u.length) : F27.l0 (0, W, H, V, G, t, u) = some (if (u.zip t).all ge2 then .inr () else .inl false) := by
  have hz : (u.zip t).length = u.length := by simp [hl]
  have := lim_scan (f := F27.l0.b) (fun i => ((i : Int), W, H, V, G, t, u)) (u.zip t) (0, 0) ge2 (y := .inl false) (z := .inr ()) (fun i hi => by
    have e : (u.zip t).getD i (0, 0) = (u.getD i 0, t.getD i 0) := by rw [getD_lt hi, getD_lt (by omega), getD_lt (by omega)]; simp
    rw [e]
    have d1 : decide ((i : Int) < (u.length : Int)) = true := dT (by omega)
    have d2 : decide ((0 : Int) ≤ (i : Int)) = true := dT (by omega)
    have d3 : decide ((i : Int) < (t.length : Int)) = true := dT (by omega)
    cases hp : ge2 (u.getD i 0, t.getD i 0) with
    | true =>
      have hp' : decide (u.getD i 0 > t.getD i 0) = false := by simpa [ge2] using hp
      simp (disch := omega) only [F27.l0.b, d1, d2, d3, w64, Bool.and_self, cT, cF, Int.toNat_natCast, hp', if_true]; rfl
    | false =>
      have hp' : decide (u.getD i 0 > t.getD i 0) = true := Bool.not_eq_false' .. |>.mp hp
      simp (disch := omega) only [F27.l0.b, d1, d2, d3, w64, Bool.and_self, cT, cF, Int.toNat_natCast, hp']; rfl)
    (by simp (disch := omega) only [F27.l0.b, dT, dF, cF])
  exact this

theorem fok_len {W H : Int} {t : List Int} (h : fok W H t = true) : 1 ≤ W ∧ W ≤ 24 ∧ 1 ≤ H ∧ H ≤ 24 ∧ (t.length : Int) = W * H ∧ t.length ≤ 576 := by
  unfold fok at h
  rw [Bool.and_eq_true] at h
  exact fok_sizes (Bool.not_eq_true' .. |>.mp h.1)

theorem F28.ok (W H : Int) (t : List Int) (V G : Int) (u : List Int) (r : Int) : F28.F ((W, H, t), (V, G, u), r) = some (pairOk W H t V G u r) := by
  unfold pairOk
  cases h1 : fok W H t with
  | false => simp only [F28.F, F39.ok, bS, h1, Bool.not_false, Bool.not_true, Bool.true_or, Bool.or_true, Bool.or_self, cT, cF, Bool.false_and]
  | true =>
    cases h2 : fok V G u with
    | false => simp only [F28.F, F39.ok, bS, h1, h2, Bool.not_false, Bool.not_true, Bool.true_or, Bool.or_true, Bool.or_self, Bool.false_or, cT, cF, Bool.false_and, Bool.true_and]
    | true =>
      by_cases h3 : W = V
      · by_cases h4 : H = G
        · subst h3 h4
          have l1 := fok_len h1
          have l2 := fok_len h2
          have hl : t.length = u.length := by omega
          cases h5 : ((decide (r ≥ 0)) && (decide (r ≤ 3))) with
          | false => simp only [F28.F, F39.ok, F40.F, bS, h1, h2, h5, nF, qT, Bool.not_false, Bool.not_true, Bool.true_or, Bool.or_true, Bool.or_self, Bool.false_or, cT, cF, Bool.false_and, Bool.true_and, Bool.and_false]
          | true =>
            simp only [F28.F, F39.ok, F40.F, bS, h1, h2, h5, nF, qT, Bool.not_false, Bool.not_true, Bool.or_self, cT, cF, Bool.true_and, F28.l0_ok W H t u (by omega) hl]
            cases (u.zip t).all ge2 <;> rfl
        · simp only [F28.F, F39.ok, bS, h1, h2, nT h4, qF h4, Bool.not_false, Bool.not_true, Bool.true_or, Bool.or_true, Bool.or_self, Bool.false_or, cT, cF, Bool.false_and, Bool.true_and, Bool.and_false]
      · simp only [F28.F, F39.ok, bS, h1, h2, nT h3, qF h3, Bool.not_false, Bool.not_true, Bool.true_or, Bool.or_true, Bool.or_self, Bool.false_or, cT, cF, Bool.false_and, Bool.true_and, Bool.and_false]

theorem F27.ok (W H : Int) (t : List Int) (V G : Int) (u : List Int) (r : Int) : F27.F ((W, H, t), (V, G, u), r) = some (pairOk W H t V G u r) := by
  unfold pairOk
  cases h1 : fok W H t with
  | false => simp only [F27.F, F54.ok, bS, h1, Bool.not_false, Bool.not_true, Bool.true_or, Bool.or_true, Bool.or_self, cT, cF, Bool.false_and]
  | true =>
    cases h2 : fok V G u with
    | false => simp only [F27.F, F54.ok, bS, h1, h2, Bool.not_false, Bool.not_true, Bool.true_or, Bool.or_true, Bool.or_self, Bool.false_or, cT, cF, Bool.false_and, Bool.true_and]
    | true =>
      by_cases h3 : W = V
      · by_cases h4 : H = G
        · subst h3 h4
          have l1 := fok_len h1
          have l2 := fok_len h2
          have hl : t.length = u.length := by omega
          cases h5 : ((decide (r ≥ 0)) && (decide (r ≤ 3))) with
          | false => simp only [F27.F, F54.ok, F55.F, bS, h1, h2, h5, nF, qT, Bool.not_false, Bool.not_true, Bool.true_or, Bool.or_true, Bool.or_self, Bool.false_or, cT, cF, Bool.false_and, Bool.true_and, Bool.and_false]
          | true =>
            simp only [F27.F, F54.ok, F55.F, bS, h1, h2, h5, nF, qT, Bool.not_false, Bool.not_true, Bool.or_self, cT, cF, Bool.true_and, F27.l0_ok W H W H t u (by omega) hl]
            cases (u.zip t).all ge2 <;> rfl
        · simp only [F27.F, F54.ok, bS, h1, h2, nT h4, qF h4, Bool.not_false, Bool.not_true, Bool.true_or, Bool.or_true, Bool.or_self, Bool.false_or, cT, cF, Bool.false_and, Bool.true_and, Bool.and_false]
      · simp only [F27.F, F54.ok, bS, h1, h2, nT h3, qF h3, Bool.not_false, Bool.not_true, Bool.true_or, Bool.or_true, Bool.or_self, Bool.false_or, cT, cF, Bool.false_and, Bool.true_and, Bool.and_false]

end Go.Proofs.Ytnaieiillgncjaa.AX

/- A tool's columns. No conditions. -/
namespace Go.Proofs.Ytnaieiillgncjaa.AX
open Go

def mn (a b : Int) : Int := if a < b then a else b
def mx0 (a : Int) : Int := if a > 0 then a else 0
theorem mn_a {a b : Int} : (if a < b then a else b) = mn a b := rfl
theorem mn_b {a b : Int} : (if b < a then b else a) = mn a b := by unfold mn; split <;> split <;> omega
theorem mx_a {a : Int} : (if a > 0 then a else 0) = mx0 a := rfl
theorem mx_b {a : Int} : (if 0 > a then 0 else a) = mx0 a := by unfold mx0; split <;> split <;> omega

def colsRow (W r x y v : Int) : Nat → Int → List Int
  | 0, _ => []
  | n + 1, u => if u ≤ mn (x + r) (W - 1) then (if (u - x) * (u - x) + (v - y) * (v - y) ≤ r * r then [v * W + u] else []) ++ colsRow W r x y v n (u + 1) else []
def colsAll (W H r x y : Int) : Nat → Int → List Int
  | 0, _ => []
  | n + 1, v => if v ≤ mn (y + r) (H - 1) then colsRow W r x y v 25 (mx0 (x - r)) ++ colsAll W H r x y n (v + 1) else []
/-- The columns that a tool takes at a place. -/
def cols (W H r x y : Int) : List Int := colsAll W H r x y 25 (mx0 (y - r))

theorem sq24 {a : Int} (h1 : -30 ≤ a) (h2 : a ≤ 30) : 0 ≤ a * a ∧ a * a ≤ 900 := by
  have h3 := Int.mul_nonneg (a := 30 - a) (b := 30 + a) (by omega) (by omega)
  have h4 := Int.natAbs_mul_self (a := a)
  rw [Int.sub_mul, Int.mul_add, Int.mul_add, Int.mul_comm a 30] at h3
  omega
theorem mulB {v W : Int} (h1 : 0 ≤ v) (h2 : v ≤ 24) (h3 : 1 ≤ W) (h4 : W ≤ 24) : 0 ≤ v * W ∧ v * W ≤ 576 :=
  ⟨Int.mul_nonneg h1 (by omega), Int.mul_le_mul h2 h4 (by omega) (by omega)⟩

theorem row_len {W r x y v : Int} : ∀ {n : Nat} {u : Int}, (colsRow W r x y v n u).length ≤ n
  | 0, u => by simp [colsRow]
  | n + 1, u => by
    have := row_len (W := W) (r := r) (x := x) (y := y) (v := v) (n := n) (u := u + 1)
    unfold colsRow
    split
    · split <;> simp <;> omega
    · simp
theorem all_len {W H r x y : Int} : ∀ {n : Nat} {v : Int}, (colsAll W H r x y n v).length ≤ 25 * n
  | 0, v => by simp [colsAll]
  | n + 1, v => by
    have := all_len (W := W) (H := H) (r := r) (x := x) (y := y) (n := n) (v := v + 1)
    have := row_len (W := W) (r := r) (x := x) (y := y) (v := v) (n := 25) (u := mx0 (x - r))
    unfold colsAll
    split
    · simp; omega
    · simp

section
variable {W H r x y : Int} {t : List Int} (hW : 1 ≤ W) (hW2 : W ≤ 24) (hH : 1 ≤ H) (hH2 : H ≤ 24) (hr : 0 ≤ r) (hr2 : r ≤ 3) (hx : 0 ≤ x) (hx2 : x ≤ 24) (hy : 0 ≤ y) (hy2 : y ≤ 24)
include hW hW2 hH hH2 hr hr2 hx hx2 hy hy2

theorem F31.l2_ok {v : Int} (hv : 0 ≤ v) (hv2 : v ≤ 24) : ∀ (n : Nat) (u : Int) (acc : List Int), mn (x + r) (W - 1) < u + n → 0 ≤ u → u ≤ 24 → acc.length ≤ 5000 - n → n ≤ 100 →
    F31.l2 (r, x, y, v, u, W, H, t, acc) = some (r, x, y, v, W, H, t, acc ++ colsRow W r x y v n u)
  | n, u, acc, h1, h2, h3, h4, h5 => by
    have w1 : Go.IntKind.wrap .i64 (W - 1) = W - 1 := w64 (by omega) (by omega)
    have w2 : Go.IntKind.wrap .i64 (x + r) = x + r := w64 (by omega) (by omega)
    have hm : mn (x + r) (W - 1) ≤ 23 := by unfold mn; split <;> omega
    by_cases hu : u ≤ mn (x + r) (W - 1)
    · cases n with
      | zero => omega
      | succ n =>
        obtain ⟨a1, a2⟩ := sq24 (a := u - x) (by omega) (by omega)
        obtain ⟨b1, b2⟩ := sq24 (a := v - y) (by omega) (by omega)
        obtain ⟨c1, c2⟩ := sq24 (a := r) (by omega) (by omega)
        obtain ⟨e1, e2⟩ := mulB hv hv2 hW hW2
        have w3 : Go.IntKind.wrap .i64 (u - x) = u - x := w64 (by omega) (by omega)
        have w4 : Go.IntKind.wrap .i64 (v - y) = v - y := w64 (by omega) (by omega)
        have w5 : Go.IntKind.wrap .i64 ((u - x) * (u - x)) = (u - x) * (u - x) := w64 (by omega) (by omega)
        have w6 : Go.IntKind.wrap .i64 ((v - y) * (v - y)) = (v - y) * (v - y) := w64 (by omega) (by omega)
        have w7 : Go.IntKind.wrap .i64 ((u - x) * (u - x) + (v - y) * (v - y)) = (u - x) * (u - x) + (v - y) * (v - y) := w64 (by omega) (by omega)
        have w8 : Go.IntKind.wrap .i64 (r * r) = r * r := w64 (by omega) (by omega)
        have w9 : Go.IntKind.wrap .i64 (v * W) = v * W := w64 (by omega) (by omega)
        have w10 : Go.IntKind.wrap .i64 (v * W + u) = v * W + u := w64 (by omega) (by omega)
        have w11 : Go.IntKind.wrap .i64 (u + 1) = u + 1 := w64 (by omega) (by omega)
        have d1 : decide (u ≤ mn (x + r) (W - 1)) = true := dT hu
        have d2 : decide (acc.length + [v * W + u].length ≤ 274877906944) = true := dT (by simp; omega)
        unfold F31.l2 colsRow
        rw [if_pos hu]
        by_cases hs : (u - x) * (u - x) + (v - y) * (v - y) ≤ r * r
        · have ih := F31.l2_ok hv hv2 n (u + 1) (acc ++ [v * W + u]) (by omega) (by omega) (by omega) (by simp; omega) (by omega)
          unfold F31.l2 at ih
          rw [lim_in (x' := (r, x, y, v, u + 1, W, H, t, acc ++ [v * W + u])) (by simp only [F31.l2.b, w1, w2, mn_a, d1, cT, w3, w4, w5, w6, w7, w8, dT hs, w9, w10, w11, d2]), ih, if_pos hs]
          simp
        · have ih := F31.l2_ok hv hv2 n (u + 1) acc (by omega) (by omega) (by omega) (by omega) (by omega)
          unfold F31.l2 at ih
          rw [lim_in (x' := (r, x, y, v, u + 1, W, H, t, acc)) (by simp only [F31.l2.b, w1, w2, mn_a, d1, cT, cF, w3, w4, w5, w6, w7, w8, dF hs, w11]), ih, if_neg hs]
          simp
    · have d1 : decide (u ≤ mn (x + r) (W - 1)) = false := dF hu
      unfold F31.l2
      rw [lim_out (y := (r, x, y, v, W, H, t, acc)) (by simp only [F31.l2.b, w1, w2, mn_a, d1, cF])]
      cases n with
      | zero => simp [colsRow]
      | succ n => simp [colsRow, hu]
  termination_by n => n

theorem F31.l0_ok : ∀ (n : Nat) (v : Int) (acc : List Int), mn (y + r) (H - 1) < v + n → 0 ≤ v → v ≤ 24 → acc.length ≤ 4000 - 25 * n → n ≤ 30 →
    F31.l0 (r, x, y, v, W, H, t, acc) = some (acc ++ colsAll W H r x y n v)
  | n, v, acc, h1, h2, h3, h4, h5 => by
    have w1 : Go.IntKind.wrap .i64 (H - 1) = H - 1 := w64 (by omega) (by omega)
    have w2 : Go.IntKind.wrap .i64 (y + r) = y + r := w64 (by omega) (by omega)
    have w3 : Go.IntKind.wrap .i64 (x - r) = x - r := w64 (by omega) (by omega)
    have hm : mn (y + r) (H - 1) ≤ 23 := by unfold mn; split <;> omega
    by_cases hu : v ≤ mn (y + r) (H - 1)
    · cases n with
      | zero => omega
      | succ n =>
        have w11 : Go.IntKind.wrap .i64 (v + 1) = v + 1 := w64 (by omega) (by omega)
        have d1 : decide (v ≤ mn (y + r) (H - 1)) = true := dT hu
        have m1 : 0 ≤ mx0 (x - r) ∧ mx0 (x - r) ≤ 24 := by unfold mx0; split <;> omega
        have m2 : mn (x + r) (W - 1) ≤ 23 := by unfold mn; split <;> omega
        have e := F31.l2_ok (t := t) hW hW2 hH hH2 hr hr2 hx hx2 hy hy2 (v := v) h2 h3 25 (mx0 (x - r)) acc (by omega) m1.1 m1.2 (by omega) (by omega)
        have hl := row_len (W := W) (r := r) (x := x) (y := y) (v := v) (n := 25) (u := mx0 (x - r))
        have ih := F31.l0_ok n (v + 1) (acc ++ colsRow W r x y v 25 (mx0 (x - r))) (by omega) (by omega) (by omega) (by simp; omega) (by omega)
        unfold F31.l0 colsAll
        unfold F31.l0 at ih
        rw [if_pos hu, lim_in (x' := (r, x, y, v + 1, W, H, t, acc ++ colsRow W r x y v 25 (mx0 (x - r)))) (by simp only [F31.l0.b, w1, w2, w3, mn_a, mx_a, d1, cT, e, bS, w11]), ih]
        simp
    · have d1 : decide (v ≤ mn (y + r) (H - 1)) = false := dF hu
      unfold F31.l0
      rw [lim_out (y := acc) (by simp only [F31.l0.b, w1, w2, mn_a, d1, cF])]
      cases n with
      | zero => simp [colsAll]
      | succ n => simp [colsAll, hu]
  termination_by n => n

theorem F31.ok : F31.F ((W, H, t), r, x, y) = some (cols W H r x y) := by
  have w1 : Go.IntKind.wrap .i64 (y - r) = y - r := w64 (by omega) (by omega)
  have m1 : 0 ≤ mx0 (y - r) ∧ mx0 (y - r) ≤ 24 := by unfold mx0; split <;> omega
  have m2 : mn (y + r) (H - 1) ≤ 23 := by unfold mn; split <;> omega
  have e := F31.l0_ok (t := t) hW hW2 hH hH2 hr hr2 hx hx2 hy hy2 25 (mx0 (y - r)) [] (by omega) m1.1 m1.2 (by simp) (by omega)
  simp only [F31.F, w1, mx_a, e, bS, cols, List.nil_append]

theorem F56.l2_ok {v : Int} (hv : 0 ≤ v) (hv2 : v ≤ 24) : ∀ (n : Nat) (u : Int) (acc : List Int), mn (x + r) (W - 1) < u + n → 0 ≤ u → u ≤ 24 → acc.length ≤ 5000 - n → n ≤ 100 →
    F56.l2 (r, x, y, v, u, W, H, acc, t) = some (r, x, y, v, W, H, acc ++ colsRow W r x y v n u, t)
  | n, u, acc, h1, h2, h3, h4, h5 => by
    have w1 : Go.IntKind.wrap .i64 (W - 1) = W - 1 := w64 (by omega) (by omega)
    have w2 : Go.IntKind.wrap .i64 (x + r) = x + r := w64 (by omega) (by omega)
    have hm : mn (x + r) (W - 1) ≤ 23 := by unfold mn; split <;> omega
    by_cases hu : u ≤ mn (x + r) (W - 1)
    · cases n with
      | zero => omega
      | succ n =>
        obtain ⟨a1, a2⟩ := sq24 (a := u - x) (by omega) (by omega)
        obtain ⟨b1, b2⟩ := sq24 (a := v - y) (by omega) (by omega)
        obtain ⟨c1, c2⟩ := sq24 (a := r) (by omega) (by omega)
        obtain ⟨e1, e2⟩ := mulB hv hv2 hW hW2
        have w3 : Go.IntKind.wrap .i64 (u - x) = u - x := w64 (by omega) (by omega)
        have w4 : Go.IntKind.wrap .i64 (v - y) = v - y := w64 (by omega) (by omega)
        have w5 : Go.IntKind.wrap .i64 ((u - x) * (u - x)) = (u - x) * (u - x) := w64 (by omega) (by omega)
        have w6 : Go.IntKind.wrap .i64 ((v - y) * (v - y)) = (v - y) * (v - y) := w64 (by omega) (by omega)
        have w7 : Go.IntKind.wrap .i64 ((u - x) * (u - x) + (v - y) * (v - y)) = (u - x) * (u - x) + (v - y) * (v - y) := w64 (by omega) (by omega)
        have w8 : Go.IntKind.wrap .i64 (r * r) = r * r := w64 (by omega) (by omega)
        have w9 : Go.IntKind.wrap .i64 (v * W) = v * W := w64 (by omega) (by omega)
        have w10 : Go.IntKind.wrap .i64 (v * W + u) = v * W + u := w64 (by omega) (by omega)
        have w11 : Go.IntKind.wrap .i64 (u + 1) = u + 1 := w64 (by omega) (by omega)
        have d1 : decide (u ≤ mn (x + r) (W - 1)) = true := dT hu
        have d2 : decide (acc.length + [v * W + u].length ≤ 274877906944) = true := dT (by simp; omega)
        unfold F56.l2 colsRow
        rw [if_pos hu]
        by_cases hs : (u - x) * (u - x) + (v - y) * (v - y) ≤ r * r
        · have ih := F56.l2_ok hv hv2 n (u + 1) (acc ++ [v * W + u]) (by omega) (by omega) (by omega) (by simp; omega) (by omega)
          unfold F56.l2 at ih
          rw [lim_in (x' := (r, x, y, v, u + 1, W, H, acc ++ [v * W + u], t)) (by simp only [F56.l2.b, w1, w2, mn_b, d1, cT, w3, w4, w5, w6, w7, w8, dT hs, w9, w10, w11, d2]), ih, if_pos hs]
          simp
        · have ih := F56.l2_ok hv hv2 n (u + 1) acc (by omega) (by omega) (by omega) (by omega) (by omega)
          unfold F56.l2 at ih
          rw [lim_in (x' := (r, x, y, v, u + 1, W, H, acc, t)) (by simp only [F56.l2.b, w1, w2, mn_b, d1, cT, cF, w3, w4, w5, w6, w7, w8, dF hs, w11]), ih, if_neg hs]
          simp
    · have d1 : decide (u ≤ mn (x + r) (W - 1)) = false := dF hu
      unfold F56.l2
      rw [lim_out (y := (r, x, y, v, W, H, acc, t)) (by simp only [F56.l2.b, w1, w2, mn_b, d1, cF])]
      cases n with
      | zero => simp [colsRow]
      | succ n => simp [colsRow, hu]
  termination_by n => n

theorem F56.l0_ok : ∀ (n : Nat) (v : Int) (acc : List Int), mn (y + r) (H - 1) < v + n → 0 ≤ v → v ≤ 24 → acc.length ≤ 4000 - 25 * n → n ≤ 30 →
    F56.l0 (r, x, y, v, W, H, acc, t) = some (acc ++ colsAll W H r x y n v)
  | n, v, acc, h1, h2, h3, h4, h5 => by
    have w1 : Go.IntKind.wrap .i64 (H - 1) = H - 1 := w64 (by omega) (by omega)
    have w2 : Go.IntKind.wrap .i64 (y + r) = y + r := w64 (by omega) (by omega)
    have w3 : Go.IntKind.wrap .i64 (x - r) = x - r := w64 (by omega) (by omega)
    have hm : mn (y + r) (H - 1) ≤ 23 := by unfold mn; split <;> omega
    by_cases hu : v ≤ mn (y + r) (H - 1)
    · cases n with
      | zero => omega
      | succ n =>
        have w11 : Go.IntKind.wrap .i64 (v + 1) = v + 1 := w64 (by omega) (by omega)
        have d1 : decide (v ≤ mn (y + r) (H - 1)) = true := dT hu
        have m1 : 0 ≤ mx0 (x - r) ∧ mx0 (x - r) ≤ 24 := by unfold mx0; split <;> omega
        have m2 : mn (x + r) (W - 1) ≤ 23 := by unfold mn; split <;> omega
        have e := F56.l2_ok (t := t) hW hW2 hH hH2 hr hr2 hx hx2 hy hy2 (v := v) h2 h3 25 (mx0 (x - r)) acc (by omega) m1.1 m1.2 (by omega) (by omega)
        have hl := row_len (W := W) (r := r) (x := x) (y := y) (v := v) (n := 25) (u := mx0 (x - r))
        have ih := F56.l0_ok n (v + 1) (acc ++ colsRow W r x y v 25 (mx0 (x - r))) (by omega) (by omega) (by omega) (by simp; omega) (by omega)
        unfold F56.l0 colsAll
        unfold F56.l0 at ih
        rw [if_pos hu, lim_in (x' := (r, x, y, v + 1, W, H, acc ++ colsRow W r x y v 25 (mx0 (x - r)), t)) (by simp only [F56.l0.b, w1, w2, w3, mn_b, mx_b, d1, cT, e, bS, w11]), ih]
        simp
    · have d1 : decide (v ≤ mn (y + r) (H - 1)) = false := dF hu
      unfold F56.l0
      rw [lim_out (y := acc) (by simp only [F56.l0.b, w1, w2, mn_b, d1, cF])]
      cases n with
      | zero => simp [colsAll]
      | succ n => simp [colsAll, hu]
  termination_by n => n

theorem F56.ok : F56.F ((W, H, t), r, x, y) = some (cols W H r x y) := by
  have w1 : Go.IntKind.wrap .i64 (y - r) = y - r := w64 (by omega) (by omega)
  have m1 : 0 ≤ mx0 (y - r) ∧ mx0 (y - r) ≤ 24 := by unfold mx0; split <;> omega
  have m2 : mn (y + r) (H - 1) ≤ 23 := by unfold mn; split <;> omega
  have e := F56.l0_ok (t := t) hW hW2 hH hH2 hr hr2 hx hx2 hy hy2 25 (mx0 (y - r)) [] (by omega) m1.1 m1.2 (by simp) (by omega)
  simp only [F56.F, w1, mx_b, e, bS, cols, List.nil_append]

end
end Go.Proofs.Ytnaieiillgncjaa.AX

/- A tool at a place. No conditions. -/
namespace Go.Proofs.Ytnaieiillgncjaa.AX
open Go

/-- May it stand there; does it take something? -/
def scanG (p f : List Int) (z : Int) (tk : Bool) (c : Int) : Bool ⊕ Unit := if p.getD c.toNat 0 > z then .inr () else .inl (tk || decide (f.getD c.toNat 0 > z))
/-- It takes: tops, how much, how deep. -/
def cutG (z : Int) (a : List Int × Int × Int) (c : Int) : List Int × Int × Int :=
  if a.1.getD c.toNat 0 - z > 0 then (a.1.set c.toNat z, Go.IntKind.wrap .i64 (a.2.1 + (a.1.getD c.toNat 0 - z)), if a.1.getD c.toNat 0 - z > a.2.2 then a.1.getD c.toNat 0 - z else a.2.2) else a

/-- Columns of a field. -/
def InL (n : Nat) (L : List Int) : Prop := ∀ c ∈ L, 0 ≤ c ∧ c < n
theorem inL_at {n : Nat} {L : List Int} (h : InL n L) {i : Nat} (hi : i < L.length) : 0 ≤ L.getD i 0 ∧ L.getD i 0 < n := by rw [getD_lt hi]; exact h _ (List.getElem_mem hi)

section
variable {z : Int} {fast : Bool} {a0 a1 a3 a5 a6 a7 a8 a9 a11 a12 a13 : Int} {a4 : Bool} {L p f : List Int}

theorem F60.l0_ok (hL : InL f.length L) (hp : p.length = f.length) (hl : L.length ≤ 5000) :
    F60.l0 (z, fast, false, 0, a0, a1, a3, a4, a5, a6, a7, a8, a9, a11, a12, a13, L, p, f) = some (Sum.elim (fun tk => .inr (z, fast, tk, a0, a1, a3, a4, a5, a6, a7, a8, a9, a11, a12, a13, L, p, f)) (fun _ => .inl (16, a0, a1, a3, a4, a5, a6, a7, a8, a9, a11, a12, a13, p, f)) (goL (scanG p f z) L false)) :=
  lim_go (f := F60.l0.b) (fun i tk => (z, fast, tk, (i : Int), a0, a1, a3, a4, a5, a6, a7, a8, a9, a11, a12, a13, L, p, f)) L 0 (scanG p f z) (fun _ => True) (z := fun tk => .inr (z, fast, tk, a0, a1, a3, a4, a5, a6, a7, a8, a9, a11, a12, a13, L, p, f)) (o := fun _ => .inl (16, a0, a1, a3, a4, a5, a6, a7, a8, a9, a11, a12, a13, p, f)) false trivial (fun _ _ _ _ _ _ => trivial) (fun i tk hi _ => by
    obtain ⟨c0, c1⟩ := inL_at hL hi
    have d1 : decide ((i : Int) < (L.length : Int)) = true := dT (by omega)
    have d2 : decide ((0 : Int) ≤ (i : Int)) = true := dT (by omega)
    have d3 : decide (0 ≤ L.getD i 0) = true := dT c0
    have d4 : decide (L.getD i 0 < (p.length : Int)) = true := dT (by omega)
    have d5 : decide (L.getD i 0 < (f.length : Int)) = true := dT (by omega)
    have w : Go.IntKind.wrap .i64 ((i : Int) + 1) = ((i + 1 : Nat) : Int) := by rw [w64 (by omega) (by omega)]; rfl
    by_cases hg : p.getD (L.getD i 0).toNat 0 > z
    · simp only [F60.l0.b, d1, d2, d3, d4, Bool.and_self, cT, Int.toNat_natCast, dT hg, scanG, if_pos hg]
    · simp only [F60.l0.b, d1, d2, d3, d4, d5, Bool.and_self, Bool.or_true, cT, cF, Int.toNat_natCast, dF hg, scanG, if_neg hg, w])
    (fun tk _ => by simp (disch := omega) only [F60.l0.b, dF, cF])

theorem F60.l2_ok {tk : Bool} (hL : InL f.length L) (hl : L.length ≤ 5000) (hz : 0 ≤ z) (hz2 : z ≤ 24) (hf : ∀ x ∈ f, 0 ≤ x ∧ x ≤ 24) :
    F60.l2 (z, fast, tk, 0, a0, a1, a3, a4, a5, a6, a7, a8, a9, a11, a12, a13, L, p, f) = some (let q := L.foldl (cutG z) (f, a11, a13); (fast, tk, a0, a1, a3, a4, a5, a6, a7, a8, a9, q.2.1, a12, q.2.2, p, q.1)) :=
  lim_fold (f := F60.l2.b) (fun i (a : List Int × Int × Int) => (z, fast, tk, (i : Int), a0, a1, a3, a4, a5, a6, a7, a8, a9, a.2.1, a12, a.2.2, L, p, a.1)) L 0 (cutG z) (fun a => a.1.length = f.length ∧ ∀ x ∈ a.1, 0 ≤ x ∧ x ≤ 24) (z := fun q => (fast, tk, a0, a1, a3, a4, a5, a6, a7, a8, a9, q.2.1, a12, q.2.2, p, q.1)) (f, a11, a13) ⟨rfl, hf⟩ (fun a i hi h => by
      unfold cutG
      split
      · refine ⟨by simp [h.1], fun x hx => ?_⟩
        rcases List.mem_or_eq_of_mem_set hx with hx | rfl
        · exact h.2 x hx
        · exact ⟨hz, hz2⟩
      · exact h) (fun i a hi h => by
    obtain ⟨g, b11, b13⟩ := a
    obtain ⟨h1, h2⟩ := h
    dsimp only at h1 h2 ⊢
    obtain ⟨c0, c1⟩ := inL_at hL hi
    have d1 : decide ((i : Int) < (L.length : Int)) = true := dT (by omega)
    have d2 : decide ((0 : Int) ≤ (i : Int)) = true := dT (by omega)
    have d3 : decide (0 ≤ L.getD i 0) = true := dT c0
    have d5 : decide (L.getD i 0 < (g.length : Int)) = true := dT (by omega)
    have w : Go.IntKind.wrap .i64 ((i : Int) + 1) = ((i + 1 : Nat) : Int) := by rw [w64 (by omega) (by omega)]; rfl
    have hx : 0 ≤ g.getD (L.getD i 0).toNat 0 ∧ g.getD (L.getD i 0).toNat 0 ≤ 24 := by rw [getD_lt (by omega)]; exact h2 _ (List.getElem_mem _)
    have w2 : Go.IntKind.wrap .i64 (g.getD (L.getD i 0).toNat 0 - z) = g.getD (L.getD i 0).toNat 0 - z := w64 (by omega) (by omega)
    by_cases hg : g.getD (L.getD i 0).toNat 0 - z > 0
    · simp only [F60.l2.b, d1, d2, d3, d5, Bool.and_self, cT, Int.toNat_natCast, w, w2, dT hg, cutG, if_pos hg]
    · simp only [F60.l2.b, d1, d2, d3, d5, Bool.and_self, cT, cF, Int.toNat_natCast, w, w2, dF hg, cutG, if_neg hg])
    (fun a h => by simp (disch := omega) only [F60.l2.b, dF, cF])
end

end Go.Proofs.Ytnaieiillgncjaa.AX

/- A tool at a place: what the reference does. No conditions. -/
namespace Go.Proofs.Ytnaieiillgncjaa.AX
open Go

theorem row_in {W H r x y v : Int} {m : Nat} (hm : (m : Int) = W * H) (hW : 1 ≤ W) (hv : 0 ≤ v) (hv2 : v < H) : ∀ {n : Nat} {u : Int}, 0 ≤ u → InL m (colsRow W r x y v n u)
  | 0, u, _ => by simp [colsRow, InL]
  | n + 1, u, hu => by
    have ih := row_in (W := W) (H := H) (r := r) (x := x) (y := y) hm hW hv hv2 (n := n) (u := u + 1) (by omega)
    unfold colsRow
    split
    · rename_i h
      have hu2 : u ≤ W - 1 := by unfold mn at h; split at h <;> omega
      have h1 : 0 ≤ v * W := Int.mul_nonneg hv (by omega)
      have h2 : v * W ≤ (H - 1) * W := Int.mul_le_mul_of_nonneg_right (by omega) (by omega)
      rw [Int.sub_mul, Int.one_mul, Int.mul_comm H W] at h2
      intro c hc
      rcases List.mem_append.1 hc with hc | hc
      · split at hc
        · simp at hc; subst hc; omega
        · simp at hc
      · exact ih c hc
    · simp [InL]

theorem all_in {W H r x y : Int} {m : Nat} (hm : (m : Int) = W * H) (hW : 1 ≤ W) : ∀ {n : Nat} {v : Int}, 0 ≤ v → InL m (colsAll W H r x y n v)
  | 0, v, _ => by simp [colsAll, InL]
  | n + 1, v, hv => by
    have ih := all_in (W := W) (H := H) (r := r) (x := x) (y := y) hm hW (n := n) (v := v + 1) (by omega)
    unfold colsAll
    split
    · rename_i h
      have hv2 : v < H := by unfold mn at h; split at h <;> omega
      have hr := row_in (W := W) (H := H) (r := r) (x := x) (y := y) hm hW hv hv2 (n := 25) (u := mx0 (x - r)) (by unfold mx0; split <;> omega)
      intro c hc
      rcases List.mem_append.1 hc with hc | hc
      · exact hr c hc
      · exact ih c hc
    · simp [InL]

theorem cols_in {W H r x y : Int} {m : Nat} (hm : (m : Int) = W * H) (hW : 1 ≤ W) : InL m (cols W H r x y) := all_in hm hW (by unfold mx0; split <;> omega)
theorem cols_len {W H r x y : Int} : (cols W H r x y).length ≤ 625 := all_len

/-- What comes of a place: a code, tops, how much, in the air, how deep. -/
def placeR (W H r x y z : Int) (fast : Bool) (p f : List Int) (cut air depth : Int) : Int × List Int × Int × Int × Int :=
  match goL (scanG p f z) (cols W H r x y) false with
  | .inr _ => (16, f, cut, air, depth)
  | .inl tk => if (fast && tk) = true then (17, f, cut, air, depth) else
    let q := (cols W H r x y).foldl (cutG z) (f, cut, depth)
    (0, q.1, q.2.1, if ((!fast) && (!tk)) = true then Go.IntKind.wrap .i64 (air + 1) else air, q.2.2)

theorem F60.ok {W H r x y z a0 a1 a5 a6 a7 cut air depth : Int} {fast a4 : Bool} {p f : List Int} (hW : 1 ≤ W) (hW2 : W ≤ 24) (hH : 1 ≤ H) (hH2 : H ≤ 24) (hr : 0 ≤ r) (hr2 : r ≤ 3) (hx : 0 ≤ x) (hx2 : x ≤ 24) (hy : 0 ≤ y) (hy2 : y ≤ 24) (hz : 0 ≤ z) (hz2 : z ≤ 24)
    (hf : (f.length : Int) = W * H) (hp : p.length = f.length) (ht : ∀ x ∈ f, 0 ≤ x ∧ x ≤ 24) :
    F60.F ((a0, a1, p, r, a4, a5, a6, a7, W, H, f, cut, air, depth), x, y, z, fast) = some (let q := placeR W H r x y z fast p f cut air depth; (q.1, ((a0, a1, r, a4, a5, a6, a7, W, H, q.2.1, q.2.2.1, q.2.2.2.1, q.2.2.2.2), ()))) := by
  have e56 := F56.ok (t := f) hW hW2 hH hH2 hr hr2 hx hx2 hy hy2
  have hL := cols_in (r := r) (x := x) (y := y) hf hW
  have hl := cols_len (W := W) (H := H) (r := r) (x := x) (y := y)
  have e0 := F60.l0_ok (z := z) (fast := fast) (a0 := a0) (a1 := a1) (a3 := r) (a4 := a4) (a5 := a5) (a6 := a6) (a7 := a7) (a8 := W) (a9 := H) (a11 := cut) (a12 := air) (a13 := depth) (p := p) hL hp (by omega)
  unfold placeR
  cases hg : goL (scanG p f z) (cols W H r x y) false with
  | inr u =>
    rw [hg] at e0
    simp only [Sum.elim_inr] at e0
    simp only [F60.F, e56, bS, e0]
  | inl tk =>
    rw [hg] at e0
    simp only [Sum.elim_inl] at e0
    have e2 := F60.l2_ok (z := z) (fast := fast) (tk := tk) (a0 := a0) (a1 := a1) (a3 := r) (a4 := a4) (a5 := a5) (a6 := a6) (a7 := a7) (a8 := W) (a9 := H) (a11 := cut) (a12 := air) (a13 := depth) (p := p) hL (by omega) hz hz2 ht
    cases hb : (fast && tk) with
    | true => simp only [F60.F, e56, bS, e0, hb, cT, if_true]
    | false =>
      simp only [F60.F, e56, bS, e0, hb, cF, e2, Bool.false_eq_true, if_false]
      cases hc : ((!fast) && (!tk)) with
      | true => simp only [cT, if_true]
      | false => simp only [cF, Bool.false_eq_true, if_false]

end Go.Proofs.Ytnaieiillgncjaa.AX

/- Signs and sizes. No conditions. -/
namespace Go.Proofs.Ytnaieiillgncjaa.AX
open Go

def sg (n : Int) : Int := if n > 0 then 1 else if n < 0 then -1 else 0
def ab (n : Int) : Int := if n < 0 then -n else n

theorem F37.ok (n : Int) : F37.F n = some (sg n) := by
  unfold sg
  by_cases h : n > 0
  · simp only [F37.F, dT h, cT, if_pos h]
  · by_cases h2 : n < 0
    · simp only [F37.F, dF h, cF, dT h2, cT, if_neg h, if_pos h2]
    · simp only [F37.F, dF h, cF, dF h2, if_neg h, if_neg h2]
theorem F59.ok (n : Int) : F59.F n = some (sg n) := F37.ok n
theorem F58.ok {n : Int} (h : -1000000 ≤ n) (h2 : n ≤ 1000000) : F58.F n = some (ab n) := by
  unfold ab
  by_cases h3 : n < 0
  · simp only [F58.F, dT h3, cT, if_pos h3, Option.some.injEq]; rw [w64 (by omega) (by omega)]; omega
  · simp only [F58.F, dF h3, cF, if_neg h3]
theorem F38.ok {n : Int} (h : -1000000 ≤ n) (h2 : n ≤ 1000000) : F38.F n = some (ab n) := by
  unfold ab
  simp only [F38.F, Option.some.injEq]
  rw [w64 (by omega) (by omega)]
  split <;> split <;> omega

def chg (x y z a b c : Int) : Int := (if x = a then 0 else 1) + (if y = b then 0 else 1) + (if z = c then 0 else 1)
theorem F57.ok (g h : Bool) (x y z a b c : Int) : F57.F ((g, x, y, z), (h, a, b, c)) = some (chg x y z a b c) := by
  have w1 : Go.IntKind.wrap .i64 1 = 1 := by decide
  have w2 : Go.IntKind.wrap .i64 2 = 2 := by decide
  have w3 : Go.IntKind.wrap .i64 3 = 3 := by decide
  unfold chg
  by_cases h1 : x = a <;> by_cases h2 : y = b <;> by_cases h3 : z = c <;> simp [F57.F, F57.t4, F57.t6, h1, h2, h3, w1, w2, w3, nT]

end Go.Proofs.Ytnaieiillgncjaa.AX

/- A move, step by step. No conditions. -/
namespace Go.Proofs.Ytnaieiillgncjaa.AX
open Go

/-- A field's tops stay tops. -/
def TopsOk (n : Nat) (f : List Int) : Prop := f.length = n ∧ ∀ x ∈ f, 0 ≤ x ∧ x ≤ 24

theorem cut_tops {n : Nat} {z : Int} (hz : 0 ≤ z) (hz2 : z ≤ 24) : ∀ (L : List Int) (a : List Int × Int × Int), TopsOk n a.1 → TopsOk n (L.foldl (cutG z) a).1
  | [], a, h => h
  | c :: L, a, h => by
    refine cut_tops hz hz2 L _ ?_
    unfold cutG
    split
    · refine ⟨by simp [h.1], fun x hx => ?_⟩
      rcases List.mem_or_eq_of_mem_set hx with hx | rfl
      · exact h.2 x hx
      · exact ⟨hz, hz2⟩
    · exact h

theorem place_tops {n : Nat} {W H r x y z : Int} {fast : Bool} {p f : List Int} {cut air depth : Int} (hz : 0 ≤ z) (hz2 : z ≤ 24) (h : TopsOk n f) : TopsOk n (placeR W H r x y z fast p f cut air depth).2.1 := by
  unfold placeR
  split
  · exact h
  · split
    · exact h
    · exact cut_tops hz hz2 _ _ h

abbrev Mst := List Int × Int × Int × Int
/-- So many steps, from one on. -/
def stepsR (W H r : Int) (p : List Int) (fast : Bool) (x0 y0 z0 sx sy sz : Int) : Nat → Int → Mst → Int × Mst
  | 0, _, s => (0, s)
  | n + 1, k, s => if (placeR W H r (x0 + sx * k) (y0 + sy * k) (z0 + sz * k) fast p s.1 s.2.1 s.2.2.1 s.2.2.2).1 = 0
      then stepsR W H r p fast x0 y0 z0 sx sy sz n (k + 1) (placeR W H r (x0 + sx * k) (y0 + sy * k) (z0 + sz * k) fast p s.1 s.2.1 s.2.2.1 s.2.2.2).2
      else placeR W H r (x0 + sx * k) (y0 + sy * k) (z0 + sz * k) fast p s.1 s.2.1 s.2.2.1 s.2.2.2

theorem F43.l0_ok {W H r x0 y0 z0 x1 y1 z1 a0 a1 a5 a6 a7 : Int} {a4 c0 fast : Bool} {p : List Int} {m : Nat} (hW : 1 ≤ W) (hW2 : W ≤ 24) (hH : 1 ≤ H) (hH2 : H ≤ 24) (hr : 0 ≤ r) (hr2 : r ≤ 3) (hm : (m : Int) = W * H) (hp : p.length = m)
    {N : Int} (hN : N ≤ 100) (hx : ∀ k, 1 ≤ k → k ≤ N → 0 ≤ x0 + sg (x1 - x0) * k ∧ x0 + sg (x1 - x0) * k ≤ 24) (hy : ∀ k, 1 ≤ k → k ≤ N → 0 ≤ y0 + sg (y1 - y0) * k ∧ y0 + sg (y1 - y0) * k ≤ 24) (hz : ∀ k, 1 ≤ k → k ≤ N → 0 ≤ z0 + sg (z1 - z0) * k ∧ z0 + sg (z1 - z0) * k ≤ 24)
    (hx0 : 0 ≤ x0 ∧ x0 ≤ 24) (hy0 : 0 ≤ y0 ∧ y0 ≤ 24) (hz0 : 0 ≤ z0 ∧ z0 ≤ 24) (hx1 : 0 ≤ x1 ∧ x1 ≤ 24) (hy1 : 0 ≤ y1 ∧ y1 ≤ 24) (hz1 : 0 ≤ z1 ∧ z1 ≤ 24) :
    ∀ (n : Nat) (k : Int) (s : Mst), k + n = N + 1 → 1 ≤ k → TopsOk m s.1 →
    ∃ y, F43.l0 (N, k, a0, a1, r, a4, a5, a6, a7, W, H, s.2.1, s.2.2.1, s.2.2.2, fast, x1, y1, z1, c0, x0, y0, z0, p, s.1) = some y ∧
      (let q := stepsR W H r p fast x0 y0 z0 (sg (x1 - x0)) (sg (y1 - y0)) (sg (z1 - z0)) n k s;
       (q.1 = 0 → y = .inr (a0, a1, r, a4, a5, a6, a7, W, H, q.2.2.1, q.2.2.2.1, q.2.2.2.2, fast, x1, y1, z1, p, q.2.1)) ∧ (q.1 ≠ 0 → ∃ t, y = .inl (q.1, t)))
  | 0, k, s, hk, hk1, ht => ⟨_, by unfold F43.l0; exact lim_out (by simp (disch := omega) only [F43.l0.b, dF, cF]; rfl), by simp [stepsR]⟩
  | n + 1, k, s, hk, hk1, ht => by
    obtain ⟨f, cut, air, depth⟩ := s
    dsimp only at ht ⊢
    have bx := hx k hk1 (by omega)
    have bys := hy k hk1 (by omega)
    have bz := hz k hk1 (by omega)
    have e60 := F60.ok (x := x0 + sg (x1 - x0) * k) (y := y0 + sg (y1 - y0) * k) (z := z0 + sg (z1 - z0) * k) (a0 := a0) (a1 := a1) (a5 := a5) (a6 := a6) (a7 := a7) (a4 := a4) (fast := fast) (cut := cut) (air := air) (depth := depth) (p := p) (f := f) hW hW2 hH hH2 hr hr2 bx.1 bx.2 bys.1 bys.2 bz.1 bz.2 (by rw [ht.1]; exact hm) (by rw [ht.1]; exact hp) ht.2
    have htp := place_tops (W := W) (H := H) (r := r) (x := x0 + sg (x1 - x0) * k) (y := y0 + sg (y1 - y0) * k) (fast := fast) (p := p) (cut := cut) (air := air) (depth := depth) bz.1 bz.2 ht
    have w1 : Go.IntKind.wrap .i64 (x1 - x0) = x1 - x0 := w64 (by omega) (by omega)
    have w2 : Go.IntKind.wrap .i64 (y1 - y0) = y1 - y0 := w64 (by omega) (by omega)
    have w3 : Go.IntKind.wrap .i64 (z1 - z0) = z1 - z0 := w64 (by omega) (by omega)
    have w4 : Go.IntKind.wrap .i64 (sg (x1 - x0) * k) = sg (x1 - x0) * k := w64 (by omega) (by omega)
    have w5 : Go.IntKind.wrap .i64 (sg (y1 - y0) * k) = sg (y1 - y0) * k := w64 (by omega) (by omega)
    have w6 : Go.IntKind.wrap .i64 (sg (z1 - z0) * k) = sg (z1 - z0) * k := w64 (by omega) (by omega)
    have w7 : Go.IntKind.wrap .i64 (x0 + sg (x1 - x0) * k) = x0 + sg (x1 - x0) * k := w64 (by omega) (by omega)
    have w8 : Go.IntKind.wrap .i64 (y0 + sg (y1 - y0) * k) = y0 + sg (y1 - y0) * k := w64 (by omega) (by omega)
    have w9 : Go.IntKind.wrap .i64 (z0 + sg (z1 - z0) * k) = z0 + sg (z1 - z0) * k := w64 (by omega) (by omega)
    have w10 : Go.IntKind.wrap .i64 (k + 1) = k + 1 := w64 (by omega) (by omega)
    have d1 : decide (k ≤ N) = true := dT (by omega)
    simp only [stepsR]
    generalize placeR W H r (x0 + sg (x1 - x0) * k) (y0 + sg (y1 - y0) * k) (z0 + sg (z1 - z0) * k) fast p f cut air depth = q at e60 htp ⊢
    obtain ⟨q1, q2⟩ := q
    dsimp only at e60 htp ⊢
    by_cases hq : q1 = 0
    · rw [if_pos hq]
      obtain ⟨y, h1, h2⟩ := F43.l0_ok (c0 := c0) hW hW2 hH hH2 hr hr2 hm hp hN hx hy hz hx0 hy0 hz0 hx1 hy1 hz1 n (k + 1) q2 (by omega) (by omega) htp
      refine ⟨y, ?_, h2⟩
      rw [← h1]
      unfold F43.l0
      exact lim_in (by simp only [F43.l0.b, d1, cT, F59.ok, w1, w2, w3, bS, w4, w5, w6, w7, w8, w9, e60, nF hq, cF, w10])
    · rw [if_neg hq]
      refine ⟨_, by unfold F43.l0; exact lim_out (by simp only [F43.l0.b, d1, cT, F59.ok, w1, w2, w3, bS, w4, w5, w6, w7, w8, w9, e60, nT hq]; rfl), fun h => absurd h hq, fun _ => ⟨_, rfl⟩⟩

end Go.Proofs.Ytnaieiillgncjaa.AX

/- A move: what the reference does. No conditions. -/
namespace Go.Proofs.Ytnaieiillgncjaa.AX
open Go

def outG (W H x y z : Int) : Bool := (((((decide (x < 0)) || (decide (x ≥ W))) || (decide (y < 0))) || (decide (y ≥ H))) || (decide (z < 0))) || (decide (z > 24))
def lenM (x0 y0 z0 x1 y1 z1 : Int) : Int := ab (x1 - x0) + ab (y1 - y0) + ab (z1 - z0)
def cntM (x0 y0 z0 x1 y1 z1 : Int) : Int := if 1 > lenM x0 y0 z0 x1 y1 z1 then 1 else lenM x0 y0 z0 x1 y1 z1
/-- What comes of a move: a code, the state. -/
def moveR (W H r : Int) (p : List Int) (x0 y0 z0 : Int) (v : S58) (s : Mst) : Int × Mst :=
  if outG W H v.f1 v.f2 v.f3 = true then (5, s)
  else if chg x0 y0 z0 v.f1 v.f2 v.f3 > 1 then (13, s)
  else stepsR W H r p v.f0 x0 y0 z0 (sg (v.f1 - x0)) (sg (v.f2 - y0)) (sg (v.f3 - z0)) (cntM x0 y0 z0 v.f1 v.f2 v.f3).toNat 1 s

theorem sg_step {a b k : Int} (ha : 0 ≤ a ∧ a ≤ 24) (hb : 0 ≤ b ∧ b ≤ 24) (hk : 1 ≤ k) (hN : k ≤ ab (b - a) ∨ b = a) : 0 ≤ a + sg (b - a) * k ∧ a + sg (b - a) * k ≤ 24 := by
  unfold sg
  unfold ab at hN
  split
  · split at hN <;> rcases hN with h | h <;> omega
  · split
    · split at hN <;> rcases hN with h | h <;> omega
    · omega

theorem one_of {x0 y0 z0 x1 y1 z1 : Int} (h : ¬ chg x0 y0 z0 x1 y1 z1 > 1) : (y1 = y0 ∧ z1 = z0) ∨ (x1 = x0 ∧ z1 = z0) ∨ (x1 = x0 ∧ y1 = y0) := by
  unfold chg at h
  split at h <;> split at h <;> split at h <;> omega

theorem ab_b {n : Int} (h : -24 ≤ n) (h2 : n ≤ 24) : 0 ≤ ab n ∧ ab n ≤ 24 := by unfold ab; split <;> omega
theorem outG_no {W H x y z : Int} (h : outG W H x y z = false) : 0 ≤ x ∧ x < W ∧ 0 ≤ y ∧ y < H ∧ 0 ≤ z ∧ z ≤ 24 := by
  simp only [outG, Bool.or_eq_false_iff, decide_eq_false_iff_not] at h
  omega

theorem coords {x0 y0 z0 x1 y1 z1 : Int} (hx0 : 0 ≤ x0 ∧ x0 ≤ 24) (hy0 : 0 ≤ y0 ∧ y0 ≤ 24) (hz0 : 0 ≤ z0 ∧ z0 ≤ 24) (hx1 : 0 ≤ x1 ∧ x1 ≤ 24) (hy1 : 0 ≤ y1 ∧ y1 ≤ 24) (hz1 : 0 ≤ z1 ∧ z1 ≤ 24) (hc : ¬ chg x0 y0 z0 x1 y1 z1 > 1) :
    1 ≤ cntM x0 y0 z0 x1 y1 z1 ∧ cntM x0 y0 z0 x1 y1 z1 ≤ 100 ∧ (∀ k, 1 ≤ k → k ≤ cntM x0 y0 z0 x1 y1 z1 → 0 ≤ x0 + sg (x1 - x0) * k ∧ x0 + sg (x1 - x0) * k ≤ 24) ∧
    (∀ k, 1 ≤ k → k ≤ cntM x0 y0 z0 x1 y1 z1 → 0 ≤ y0 + sg (y1 - y0) * k ∧ y0 + sg (y1 - y0) * k ≤ 24) ∧ (∀ k, 1 ≤ k → k ≤ cntM x0 y0 z0 x1 y1 z1 → 0 ≤ z0 + sg (z1 - z0) * k ∧ z0 + sg (z1 - z0) * k ≤ 24) := by
  have z : ab 0 = 0 := rfl
  have key : cntM x0 y0 z0 x1 y1 z1 ≤ 100 ∧ 1 ≤ cntM x0 y0 z0 x1 y1 z1 ∧ (∀ k, k ≤ cntM x0 y0 z0 x1 y1 z1 → (k ≤ ab (x1 - x0) ∨ x1 = x0) ∧ (k ≤ ab (y1 - y0) ∨ y1 = y0) ∧ (k ≤ ab (z1 - z0) ∨ z1 = z0)) := by
    have b1 := ab_b (n := x1 - x0) (by omega) (by omega)
    have b2 := ab_b (n := y1 - y0) (by omega) (by omega)
    have b3 := ab_b (n := z1 - z0) (by omega) (by omega)
    have n1 : x1 ≠ x0 → 1 ≤ ab (x1 - x0) := fun h => by unfold ab; split <;> omega
    have n2 : y1 ≠ y0 → 1 ≤ ab (y1 - y0) := fun h => by unfold ab; split <;> omega
    have n3 : z1 ≠ z0 → 1 ≤ ab (z1 - z0) := fun h => by unfold ab; split <;> omega
    unfold cntM lenM
    refine ⟨by split <;> omega, by split <;> omega, fun k hk => ?_⟩
    rcases one_of hc with ⟨h1, h2⟩ | ⟨h1, h2⟩ | ⟨h1, h2⟩
    · subst h1 h2
      simp only [Int.sub_self, z] at hk ⊢
      refine ⟨?_, .inr trivial, .inr trivial⟩
      by_cases e : x1 = x0
      · exact .inr e
      · have := n1 e; left; split at hk <;> omega
    · subst h1 h2
      simp only [Int.sub_self, z] at hk ⊢
      refine ⟨.inr trivial, ?_, .inr trivial⟩
      by_cases e : y1 = y0
      · exact .inr e
      · have := n2 e; left; split at hk <;> omega
    · subst h1 h2
      simp only [Int.sub_self, z] at hk ⊢
      refine ⟨.inr trivial, .inr trivial, ?_⟩
      by_cases e : z1 = z0
      · exact .inr e
      · have := n3 e; left; split at hk <;> omega
  exact ⟨key.2.1, key.1, fun k h1 h2 => sg_step hx0 hx1 h1 (key.2.2 k h2).1, fun k h1 h2 => sg_step hy0 hy1 h1 (key.2.2 k h2).2.1, fun k h1 h2 => sg_step hz0 hz1 h1 (key.2.2 k h2).2.2⟩

theorem F43.ok {W H r x0 y0 z0 a0 a1 : Int} {c0 : Bool} {p : List Int} {v : S58} {s : Mst} {m : Nat} (hW : 1 ≤ W) (hW2 : W ≤ 24) (hH : 1 ≤ H) (hH2 : H ≤ 24) (hr : 0 ≤ r) (hr2 : r ≤ 3) (hm : (m : Int) = W * H) (hp : p.length = m)
    (hx0 : 0 ≤ x0 ∧ x0 ≤ 24) (hy0 : 0 ≤ y0 ∧ y0 ≤ 24) (hz0 : 0 ≤ z0 ∧ z0 ≤ 24) (ht : TopsOk m s.1) :
    ∃ y, F43.F ((a0, a1, p, r, c0, x0, y0, z0, W, H, s.1, s.2.1, s.2.2.1, s.2.2.2), (v.f0, v.f1, v.f2, v.f3)) = some y ∧ y.1 = (moveR W H r p x0 y0 z0 v s).1 ∧
      ((moveR W H r p x0 y0 z0 v s).1 = 0 → y.2.1 = (a0, a1, r, v.f0, v.f1, v.f2, v.f3, W, H, (moveR W H r p x0 y0 z0 v s).2)) := by
  unfold moveR
  cases ho : outG W H v.f1 v.f2 v.f3 with
  | true =>
    have ho' := ho
    unfold outG at ho'
    rw [if_pos rfl]
    exact ⟨_, by simp only [F43.F, ho', cT]; rfl, rfl, fun h => absurd h (show (5 : Int) ≠ 0 by decide)⟩
  | false =>
    have ho' := ho
    unfold outG at ho'
    obtain ⟨b1, b2, b3, b4, b5, b6⟩ := outG_no ho
    rw [if_neg (by decide)]
    by_cases hc : chg x0 y0 z0 v.f1 v.f2 v.f3 > 1
    · rw [if_pos hc]
      exact ⟨_, by simp only [F43.F, ho', cF, F57.ok, bS, dT hc, cT]; rfl, rfl, fun h => absurd h (show (13 : Int) ≠ 0 by decide)⟩
    · rw [if_neg hc]
      obtain ⟨n1, n2, k1, k2, k3⟩ := coords hx0 hy0 hz0 (x1 := v.f1) (y1 := v.f2) (z1 := v.f3) (by omega) (by omega) (by omega) hc
      have q1 := ab_b (n := v.f1 - x0) (by omega) (by omega)
      have q2 := ab_b (n := v.f2 - y0) (by omega) (by omega)
      have q3 := ab_b (n := v.f3 - z0) (by omega) (by omega)
      have w1 : Go.IntKind.wrap .i64 (v.f1 - x0) = v.f1 - x0 := w64 (by omega) (by omega)
      have w2 : Go.IntKind.wrap .i64 (v.f2 - y0) = v.f2 - y0 := w64 (by omega) (by omega)
      have w3 : Go.IntKind.wrap .i64 (v.f3 - z0) = v.f3 - z0 := w64 (by omega) (by omega)
      have e1 : F58.F (v.f1 - x0) = some (ab (v.f1 - x0)) := F58.ok (by omega) (by omega)
      have e2 : F58.F (v.f2 - y0) = some (ab (v.f2 - y0)) := F58.ok (by omega) (by omega)
      have e3 : F58.F (v.f3 - z0) = some (ab (v.f3 - z0)) := F58.ok (by omega) (by omega)
      have w4 : Go.IntKind.wrap .i64 (ab (v.f1 - x0) + ab (v.f2 - y0)) = ab (v.f1 - x0) + ab (v.f2 - y0) := w64 (by omega) (by omega)
      have w5 : Go.IntKind.wrap .i64 (ab (v.f1 - x0) + ab (v.f2 - y0) + ab (v.f3 - z0)) = ab (v.f1 - x0) + ab (v.f2 - y0) + ab (v.f3 - z0) := w64 (by omega) (by omega)
      have hN : (if 1 > ab (v.f1 - x0) + ab (v.f2 - y0) + ab (v.f3 - z0) then 1 else ab (v.f1 - x0) + ab (v.f2 - y0) + ab (v.f3 - z0)) = cntM x0 y0 z0 v.f1 v.f2 v.f3 := rfl
      obtain ⟨y, h1, h2⟩ := F43.l0_ok (c0 := c0) (a0 := a0) (a1 := a1) (a4 := c0) (a5 := x0) (a6 := y0) (a7 := z0) (fast := v.f0) hW hW2 hH hH2 hr hr2 hm hp n2 k1 k2 k3 hx0 hy0 hz0 (x1 := v.f1) (y1 := v.f2) (z1 := v.f3) (by omega) (by omega) (by omega) (cntM x0 y0 z0 v.f1 v.f2 v.f3).toNat 1 s (by omega) (by omega) ht
      by_cases hq : (stepsR W H r p v.f0 x0 y0 z0 (sg (v.f1 - x0)) (sg (v.f2 - y0)) (sg (v.f3 - z0)) (cntM x0 y0 z0 v.f1 v.f2 v.f3).toNat 1 s).1 = 0
      · rw [h2.1 hq] at h1
        exact ⟨_, by simp only [F43.F, ho', cF, F57.ok, bS, dF hc, w1, w2, w3, w4, w5, e1, e2, e3, hN, h1] <;> rfl, hq.symm, fun _ => rfl⟩
      · obtain ⟨t, ht'⟩ := h2.2 hq
        rw [ht'] at h1
        exact ⟨_, by simp only [F43.F, ho', cF, F57.ok, bS, dF hc, w1, w2, w3, w4, w5, e1, e2, e3, hN, h1] <;> rfl, rfl, fun h => absurd h hq⟩

end Go.Proofs.Ytnaieiillgncjaa.AX

/- Milling: what the reference does. No conditions. -/
namespace Go.Proofs.Ytnaieiillgncjaa.AX
open Go

/-- The moves, one behind the other: a code, a move's number, the state. -/
def movesR (W H r : Int) (p : List Int) : List S58 → Int → Int → Int → Int → Mst → Int × Int × Mst
  | [], _, _, _, _, s => (0, 0, s)
  | v :: l, i, x0, y0, z0, s => if (moveR W H r p x0 y0 z0 v s).1 = 0 then movesR W H r p l (i + 1) v.f1 v.f2 v.f3 (moveR W H r p x0 y0 z0 v s).2
      else ((moveR W H r p x0 y0 z0 v s).1, i, s)

theorem steps_tops {W H r x0 y0 z0 sx sy sz : Int} {p : List Int} {fast : Bool} {m : Nat} {N : Int} (hz : ∀ k, 1 ≤ k → k ≤ N → 0 ≤ z0 + sz * k ∧ z0 + sz * k ≤ 24) :
    ∀ (n : Nat) (k : Int) (s : Mst), k + n = N + 1 → 1 ≤ k → TopsOk m s.1 → TopsOk m (stepsR W H r p fast x0 y0 z0 sx sy sz n k s).2.1
  | 0, k, s, hk, hk1, ht => by simpa [stepsR] using ht
  | n + 1, k, s, hk, hk1, ht => by
    obtain ⟨f, cut, air, depth⟩ := s
    have bz := hz k hk1 (by omega)
    have htp := place_tops (W := W) (H := H) (r := r) (x := x0 + sx * k) (y := y0 + sy * k) (fast := fast) (p := p) (cut := cut) (air := air) (depth := depth) bz.1 bz.2 ht
    simp only [stepsR]
    split
    · exact steps_tops hz n (k + 1) _ (by omega) (by omega) htp
    · exact htp

theorem move_in {W H r x0 y0 z0 : Int} {p : List Int} {v : S58} {s : Mst} (hW2 : W ≤ 24) (hH2 : H ≤ 24) (h : (moveR W H r p x0 y0 z0 v s).1 = 0) : (0 ≤ v.f1 ∧ v.f1 ≤ 24) ∧ (0 ≤ v.f2 ∧ v.f2 ≤ 24) ∧ (0 ≤ v.f3 ∧ v.f3 ≤ 24) := by
  unfold moveR at h
  split at h
  · exact absurd h (show (5 : Int) ≠ 0 by decide)
  · rename_i ho
    have := outG_no (Bool.eq_false_iff.2 ho)
    omega

theorem move_tops {W H r x0 y0 z0 : Int} {p : List Int} {v : S58} {s : Mst} {m : Nat} (hW2 : W ≤ 24) (hH2 : H ≤ 24) (hx0 : 0 ≤ x0 ∧ x0 ≤ 24) (hy0 : 0 ≤ y0 ∧ y0 ≤ 24) (hz0 : 0 ≤ z0 ∧ z0 ≤ 24) (ht : TopsOk m s.1) : TopsOk m (moveR W H r p x0 y0 z0 v s).2.1 := by
  unfold moveR
  split
  · exact ht
  · rename_i ho
    obtain ⟨b1, b2, b3, b4, b5, b6⟩ := outG_no (Bool.eq_false_iff.2 ho)
    split
    · exact ht
    · rename_i hc
      obtain ⟨n1, n2, k1, k2, k3⟩ := coords hx0 hy0 hz0 (x1 := v.f1) (y1 := v.f2) (z1 := v.f3) (by omega) (by omega) (by omega) hc
      exact steps_tops k3 _ _ _ (by omega) (by omega) ht

theorem F42.ok (W H : Int) (t : List Int) (h : t.length ≤ 5000) : F42.F (W, H, t) = some (W, H, t) := by
  have d : decide ((([] : List Int).length + t.length) ≤ 274877906944) = true := dT (by simp only [List.length_nil]; omega)
  simp only [F42.F, d, cT, List.nil_append]

theorem F15.l0_ok {W H r a0 a1 : Int} {p : List Int} {moves : List S58} {m : Nat} (hW : 1 ≤ W) (hW2 : W ≤ 24) (hH : 1 ≤ H) (hH2 : H ≤ 24) (hr : 0 ≤ r) (hr2 : r ≤ 3) (hm : (m : Int) = W * H) (hm2 : m ≤ 5000) (hp : p.length = m) (hl : moves.length ≤ 5000) :
    ∀ (n i : Nat) (c0 : Bool) (x0 y0 z0 : Int) (s : Mst), i + n = moves.length → (0 ≤ x0 ∧ x0 ≤ 24) → (0 ≤ y0 ∧ y0 ≤ 24) → (0 ≤ z0 ∧ z0 ≤ 24) → TopsOk m s.1 →
    ∃ y, F15.l0 ((i : Int), 0, 0, 0, 0, 0, 0, 0, a0, a1, r, c0, x0, y0, z0, W, H, s.2.1, s.2.2.1, s.2.2.2, moves, p, s.1) = some y ∧
      (let q := movesR W H r p (moves.drop i) i x0 y0 z0 s;
       (q.1 = 0 → q.2.1 = 0 ∧ ∃ c x y' z, y = .inr (0, 0, 0, 0, 0, 0, 0, a0, a1, r, c, x, y', z, W, H, q.2.2.2.1, q.2.2.2.2.1, q.2.2.2.2.2, p, q.2.2.1)) ∧ (q.1 ≠ 0 → y = .inl (q.1, q.2.1, W, H, q.2.2.2.1, q.2.2.2.2.1, q.2.2.2.2.2, q.2.2.1)))
  | 0, i, c0, x0, y0, z0, s, hi, hx, hy, hz, ht => by
    have d : decide ((i : Int) < (moves.length : Int)) = false := dF (by omega)
    rw [List.drop_eq_nil_of_le (by omega)]
    exact ⟨_, by unfold F15.l0; exact lim_out (by simp only [F15.l0.b, d, cF]; rfl), fun _ => ⟨rfl, _, _, _, _, rfl⟩, fun h => absurd rfl h⟩
  | n + 1, i, c0, x0, y0, z0, s, hi, hx, hy, hz, ht => by
    have hlt : i < moves.length := by omega
    have d : decide ((i : Int) < (moves.length : Int)) = true := dT (by omega)
    have d2 : decide ((0 : Int) ≤ (i : Int)) = true := dT (by omega)
    have w : Go.IntKind.wrap .i64 ((i : Int) + 1) = ((i + 1 : Nat) : Int) := by rw [w64 (by omega) (by omega)]; rfl
    have e42 := F42.ok W H s.1 (by have := ht.1; omega)
    rw [drop_cons hlt]
    have hg : moves.getD i z58 = moves[i] := getD_lt hlt
    generalize hv : moves[i] = v at hg ⊢
    obtain ⟨y, h1, h2, h3⟩ := F43.ok (a0 := a0) (a1 := a1) (c0 := c0) (v := v) hW hW2 hH hH2 hr hr2 hm hp hx hy hz ht
    have hin := fun h => move_in (r := r) (p := p) (x0 := x0) (y0 := y0) (z0 := z0) (v := v) (s := s) hW2 hH2 h
    have htt := move_tops (r := r) (p := p) (v := v) (s := s) hW2 hH2 hx hy hz ht
    simp only [movesR]
    generalize moveR W H r p x0 y0 z0 v s = q at h2 h3 hin htt ⊢
    obtain ⟨q1, q2⟩ := q
    dsimp only at h2 h3 hin htt ⊢
    by_cases hq : q1 = 0
    · rw [if_pos hq]
      obtain ⟨y1, y2, y3⟩ := y
      dsimp only at h2 h3
      rw [h3 hq] at h1
      have n1 : (y1 != 0) = false := nF (h2.trans hq)
      obtain ⟨z, g1, g2⟩ := F15.l0_ok hW hW2 hH hH2 hr hr2 hm hm2 hp hl n (i + 1) v.f0 v.f1 v.f2 v.f3 q2 (by omega) (hin hq).1 (hin hq).2.1 (hin hq).2.2 htt
      refine ⟨z, ?_, g2⟩
      rw [← g1]
      unfold F15.l0
      exact lim_in (by simp only [F15.l0.b, d, d2, Bool.and_self, cT, e42, bS, Int.toNat_natCast, hg, h1, n1, cF, w])
    · rw [if_neg hq]
      have n1 : (y.1 != 0) = true := nT (by rw [h2]; exact hq)
      refine ⟨_, by unfold F15.l0; exact lim_out (by simp only [F15.l0.b, d, d2, Bool.and_self, cT, e42, bS, Int.toNat_natCast, hg, h1, n1]; rfl), fun h => absurd h hq, fun _ => by rw [h2]⟩

/-- What milling answers. -/
def millR (W H : Int) (t : List Int) (V G : Int) (p : List Int) (r : Int) (moves : List S58) : Int × Int × Int × Int × List Int × Int × Int × Int :=
  if (moves.length : Int) > 4096 then (2, 0, 0, 0, [], 0, 0, 0)
  else if pairOk W H t V G p r = false then (1, 0, 0, 0, [], 0, 0, 0)
  else if (moves.length : Int) > 2000 then (10, 0, 0, 0, [], 0, 0, 0)
  else let q := movesR W H r p moves 0 0 0 24 (t, 0, 0, 0); (q.1, q.2.1, W, H, q.2.2.1, q.2.2.2.1, q.2.2.2.2.1, q.2.2.2.2.2)

theorem pair_ok {W H V G r : Int} {t p : List Int} (h : pairOk W H t V G p r = true) : 1 ≤ W ∧ W ≤ 24 ∧ 1 ≤ H ∧ H ≤ 24 ∧ 0 ≤ r ∧ r ≤ 3 ∧ (t.length : Int) = W * H ∧ t.length ≤ 576 ∧ p.length = t.length ∧ TopsOk t.length t ∧ W = V ∧ H = G := by
  unfold pairOk at h
  simp only [Bool.and_eq_true, decide_eq_true_eq, beq_iff_eq] at h
  obtain ⟨⟨⟨⟨⟨h1, h2⟩, h3⟩, h4⟩, h5, h6⟩, h7⟩ := h
  subst h3 h4
  obtain ⟨a1, a2, a3, a4, a5, a6⟩ := fok_len h1
  obtain ⟨b1, b2, b3, b4, b5, b6⟩ := fok_len h2
  refine ⟨a1, a2, a3, a4, h5, h6, a5, a6, by omega, ⟨rfl, fun x hx => ?_⟩, rfl, rfl⟩
  unfold fok at h1
  rw [Bool.and_eq_true] at h1
  have := List.all_eq_true.1 h1.2 x hx
  simp only [topOk, Bool.not_eq_true', Bool.or_eq_false_iff, decide_eq_false_iff_not] at this
  omega

theorem F15.ok (W H : Int) (t : List Int) (V G : Int) (p : List Int) (r : Int) (moves : List S58) : F15.F ((W, H, t), (V, G, p), r, moves) = some (millR W H t V G p r moves) := by
  unfold millR
  by_cases h0 : (moves.length : Int) > 4096
  · rw [if_pos h0]; simp only [F15.F, dT h0, cT]
  · rw [if_neg h0]
    cases hk : pairOk W H t V G p r with
    | false => rw [if_pos rfl]; simp only [F15.F, dF h0, cF, F27.ok, bS, hk, Bool.not_false, cT]
    | true =>
      rw [if_neg (by decide)]
      by_cases h2 : (moves.length : Int) > 2000
      · rw [if_pos h2]; simp only [F15.F, dF h0, cF, F27.ok, bS, hk, Bool.not_true, dT h2, cT]
      · rw [if_neg h2]
        obtain ⟨a1, a2, a3, a4, a5, a6, a7, a8, a9, a10, rfl, rfl⟩ := pair_ok hk
        obtain ⟨y, g1, g2, g3⟩ := F15.l0_ok (a0 := W) (a1 := H) (moves := moves) a1 a2 a3 a4 a5 a6 a7 (by omega) a9 (by omega) moves.length 0 false 0 0 24 (t, 0, 0, 0) (by omega) (by decide) (by decide) (by decide) a10
        simp only [List.drop_zero] at g1 g2 g3
        have e42 := F42.ok W H t (by omega)
        have g1' : F15.l0 (0, 0, 0, 0, 0, 0, 0, 0, W, H, r, false, 0, 0, 24, W, H, 0, 0, 0, moves, p, t) = some y := g1
        by_cases hq : (movesR W H r p moves 0 0 0 24 (t, 0, 0, 0)).1 = 0
        · obtain ⟨g4, c, x, y', z, rfl⟩ := g2 hq
          simp only [F15.F, dF h0, cF, F27.ok, bS, hk, Bool.not_true, dF h2, e42, g1']
          exact congrArg some (Prod.ext hq.symm (Prod.ext g4.symm rfl))
        · rw [g3 hq] at g1'
          simp only [F15.F, dF h0, cF, F27.ok, bS, hk, Bool.not_true, dF h2, e42, g1']; rfl

end Go.Proofs.Ytnaieiillgncjaa.AX

/- Milling: a tool's steps, by the program. No conditions. -/
namespace Go.Proofs.Ytnaieiillgncjaa.AX
open Go

section
variable {r dx dy dz n k z len i W H V G q1 q2 q3 q4 q5 q6 q7 e0 e1 W2 H2 cut air depth x0 y0 z0 vx vy vz oi o0 o1 o2 o3 o5 o6 o7 : Int} {c0 vf : Bool} {L t p f f0 : List Int} {moves : List S58}

theorem F36.ok {c oi o0 o1 o2 o3 o5 o6 o7 : Int} {g : List Int} : F36.F (c, oi, (o0, o1, o2, o3, g, o5, o6, o7)) = some ((c, oi, o2, o3, o5, o6, o7), oi, c, oi, o2, o3, o5, o6, o7) := rfl

theorem F10.l4_ok (hL : InL f.length L) (hp : p.length = f.length) (hl : L.length ≤ 5000) :
    F10.l4 (r, dx, dy, dz, n, k, z, false, len, i, (L.length : Int), 0, W, H, V, G, q1, q2, q3, q4, q5, q6, q7, e0, e1, W2, H2, cut, air, depth, c0, x0, y0, z0, vf, vx, vy, vz, oi, o0, o1, o2, o3, o5, o6, o7, L, moves, t, p, f, f0) = some (Sum.elim (fun tk => .inr (r, dx, dy, dz, n, k, z, tk, len, i, W, H, V, G, q1, q2, q3, q4, q5, q6, q7, e0, e1, W2, H2, cut, air, depth, c0, x0, y0, z0, vf, vx, vy, vz, oi, o0, o1, o2, o3, o5, o6, o7, L, moves, t, p, f, f0)) (fun _ => .inl (16, oi, o2, o3, o5, o6, o7, f0)) (goL (scanG p f z) L false)) :=
  lim_go (f := F10.l4.b) (fun i' tk => (r, dx, dy, dz, n, k, z, tk, len, i, (L.length : Int), (i' : Int), W, H, V, G, q1, q2, q3, q4, q5, q6, q7, e0, e1, W2, H2, cut, air, depth, c0, x0, y0, z0, vf, vx, vy, vz, oi, o0, o1, o2, o3, o5, o6, o7, L, moves, t, p, f, f0)) L 0 (scanG p f z) (fun _ => True) (z := fun tk => .inr (r, dx, dy, dz, n, k, z, tk, len, i, W, H, V, G, q1, q2, q3, q4, q5, q6, q7, e0, e1, W2, H2, cut, air, depth, c0, x0, y0, z0, vf, vx, vy, vz, oi, o0, o1, o2, o3, o5, o6, o7, L, moves, t, p, f, f0)) (o := fun _ => .inl (16, oi, o2, o3, o5, o6, o7, f0)) false trivial (fun _ _ _ _ _ _ => trivial) (fun i' tk hi _ => by
    obtain ⟨c0, c1⟩ := inL_at hL hi
    have d1 : decide ((i' : Int) < (L.length : Int)) = true := dT (by omega)
    have d2 : decide ((0 : Int) ≤ (i' : Int)) = true := dT (by omega)
    have d3 : decide (0 ≤ L.getD i' 0) = true := dT c0
    have d4 : decide (L.getD i' 0 < (p.length : Int)) = true := dT (by omega)
    have d5 : decide (L.getD i' 0 < (f.length : Int)) = true := dT (by omega)
    have w : Go.IntKind.wrap .i64 ((i' : Int) + 1) = ((i' + 1 : Nat) : Int) := by rw [w64 (by omega) (by omega)]; rfl
    by_cases hg : p.getD (L.getD i' 0).toNat 0 > z
    · simp only [F10.l4.b, d1, d2, d3, d4, Bool.and_self, cT, Int.toNat_natCast, dT hg, scanG, if_pos hg, F36.ok, bS]
    · simp only [F10.l4.b, d1, d2, d3, d4, d5, Bool.and_self, Bool.or_true, cT, cF, Int.toNat_natCast, dF hg, scanG, if_neg hg, w])
    (fun tk _ => by simp (disch := omega) only [F10.l4.b, dF, cF])

theorem F10.l6_ok {tk : Bool} (hL : InL f.length L) (hl : L.length ≤ 5000) (hz : 0 ≤ z) (hz2 : z ≤ 24) (hf : ∀ x ∈ f, 0 ≤ x ∧ x ≤ 24) :
    F10.l6 (r, dx, dy, dz, n, k, z, tk, len, i, (L.length : Int), 0, W, H, V, G, q1, q2, q3, q4, q5, q6, q7, e0, e1, W2, H2, cut, air, depth, c0, x0, y0, z0, vf, vx, vy, vz, oi, o0, o1, o2, o3, o5, o6, o7, moves, L, t, p, f, f0) = some (let q := L.foldl (cutG z) (f, cut, depth); (r, dx, dy, dz, n, k, tk, len, i, W, H, V, G, q1, q2, q3, q4, q5, q6, q7, e0, e1, W2, H2, q.2.1, air, q.2.2, c0, x0, y0, z0, vf, vx, vy, vz, oi, o0, o1, o2, o3, o5, o6, o7, moves, t, p, q.1, f0)) :=
  lim_fold (f := F10.l6.b) (fun i' (a : List Int × Int × Int) => (r, dx, dy, dz, n, k, z, tk, len, i, (L.length : Int), (i' : Int), W, H, V, G, q1, q2, q3, q4, q5, q6, q7, e0, e1, W2, H2, a.2.1, air, a.2.2, c0, x0, y0, z0, vf, vx, vy, vz, oi, o0, o1, o2, o3, o5, o6, o7, moves, L, t, p, a.1, f0)) L 0 (cutG z) (fun a => a.1.length = f.length ∧ ∀ x ∈ a.1, 0 ≤ x ∧ x ≤ 24) (z := fun q => (r, dx, dy, dz, n, k, tk, len, i, W, H, V, G, q1, q2, q3, q4, q5, q6, q7, e0, e1, W2, H2, q.2.1, air, q.2.2, c0, x0, y0, z0, vf, vx, vy, vz, oi, o0, o1, o2, o3, o5, o6, o7, moves, t, p, q.1, f0)) (f, cut, depth) ⟨rfl, hf⟩ (fun a i hi h => by
      unfold cutG
      split
      · refine ⟨by simp [h.1], fun x hx => ?_⟩
        rcases List.mem_or_eq_of_mem_set hx with hx | rfl
        · exact h.2 x hx
        · exact ⟨hz, hz2⟩
      · exact h) (fun i' a hi h => by
    obtain ⟨g, b11, b13⟩ := a
    obtain ⟨h1, h2⟩ := h
    dsimp only at h1 h2 ⊢
    obtain ⟨c0, c1⟩ := inL_at hL hi
    have d1 : decide ((i' : Int) < (L.length : Int)) = true := dT (by omega)
    have d2 : decide ((0 : Int) ≤ (i' : Int)) = true := dT (by omega)
    have d3 : decide (0 ≤ L.getD i' 0) = true := dT c0
    have d5 : decide (L.getD i' 0 < (g.length : Int)) = true := dT (by omega)
    have w : Go.IntKind.wrap .i64 ((i' : Int) + 1) = ((i' + 1 : Nat) : Int) := by rw [w64 (by omega) (by omega)]; rfl
    have hx : 0 ≤ g.getD (L.getD i' 0).toNat 0 ∧ g.getD (L.getD i' 0).toNat 0 ≤ 24 := by rw [getD_lt (by omega)]; exact h2 _ (List.getElem_mem _)
    have w2 : Go.IntKind.wrap .i64 (g.getD (L.getD i' 0).toNat 0 - z) = g.getD (L.getD i' 0).toNat 0 - z := w64 (by omega) (by omega)
    by_cases hg : g.getD (L.getD i' 0).toNat 0 - z > 0
    · simp only [F10.l6.b, d1, d2, d3, d5, Bool.and_self, cT, Int.toNat_natCast, w, w2, dT hg, cutG, if_pos hg]
    · simp only [F10.l6.b, d1, d2, d3, d5, Bool.and_self, cT, cF, Int.toNat_natCast, w, w2, dF hg, cutG, if_neg hg])
    (fun a h => by simp (disch := omega) only [F10.l6.b, dF, cF])
end

theorem F10.l2_ok {W H r n len i V G q1 q2 q3 q4 q5 q6 q7 e0 e1 W2 H2 x0 y0 z0 vx vy vz oi o0 o1 o2 o3 o5 o6 o7 : Int} {c0 vf : Bool} {t p f0 : List Int} {moves : List S58} {m : Nat} (hW : 1 ≤ W) (hW2 : W ≤ 24) (hH : 1 ≤ H) (hH2 : H ≤ 24) (hr : 0 ≤ r) (hr2 : r ≤ 3) (hm : (m : Int) = W * H) (hm2 : m ≤ 576) (hp : p.length = m)
    {N : Int} (hn : (if 1 > n then 1 else n) = N) (hN : N ≤ 100) (hx : ∀ k, 1 ≤ k → k ≤ N → 0 ≤ x0 + sg (vx - x0) * k ∧ x0 + sg (vx - x0) * k ≤ 24) (hy : ∀ k, 1 ≤ k → k ≤ N → 0 ≤ y0 + sg (vy - y0) * k ∧ y0 + sg (vy - y0) * k ≤ 24) (hz : ∀ k, 1 ≤ k → k ≤ N → 0 ≤ z0 + sg (vz - z0) * k ∧ z0 + sg (vz - z0) * k ≤ 24)
    (hx0 : 0 ≤ x0 ∧ x0 ≤ 24) (hy0 : 0 ≤ y0 ∧ y0 ≤ 24) (hz0 : 0 ≤ z0 ∧ z0 ≤ 24) :
    ∀ (n' : Nat) (k : Int) (s : Mst), k + n' = N + 1 → 1 ≤ k → TopsOk m s.1 →
    F10.l2 (r, sg (vx - x0), sg (vy - y0), sg (vz - z0), n, k, len, i, W, H, V, G, q1, q2, q3, q4, q5, q6, q7, e0, e1, W2, H2, s.2.1, s.2.2.1, s.2.2.2, c0, x0, y0, z0, vf, vx, vy, vz, oi, o0, o1, o2, o3, o5, o6, o7, moves, t, p, s.1, f0) = some (
      let q := stepsR W H r p vf x0 y0 z0 (sg (vx - x0)) (sg (vy - y0)) (sg (vz - z0)) n' k s;
      if q.1 = 0 then .inr (r, len, i, W, H, V, G, q1, q2, q3, q4, q5, q6, q7, e0, e1, W2, H2, q.2.2.1, q.2.2.2.1, q.2.2.2.2, c0, x0, y0, z0, vf, vx, vy, vz, moves, t, p, q.2.1) else .inl (q.1, oi, o2, o3, o5, o6, o7, f0))
  | 0, k, s, hk, hk1, ht => by
    have d1 : decide (k ≤ N) = false := dF (by omega)
    simp only [stepsR, if_true]
    unfold F10.l2; exact lim_out (by simp only [F10.l2.b, hn, d1, cF])
  | n' + 1, k, s, hk, hk1, ht => by
    obtain ⟨f, cut, air, depth⟩ := s
    dsimp only at ht ⊢
    have bx := hx k hk1 (by omega)
    have bys := hy k hk1 (by omega)
    have bz := hz k hk1 (by omega)
    have htp := place_tops (W := W) (H := H) (r := r) (x := x0 + sg (vx - x0) * k) (y := y0 + sg (vy - y0) * k) (fast := vf) (p := p) (cut := cut) (air := air) (depth := depth) bz.1 bz.2 ht
    have w4 : Go.IntKind.wrap .i64 (sg (vx - x0) * k) = sg (vx - x0) * k := w64 (by omega) (by omega)
    have w5 : Go.IntKind.wrap .i64 (sg (vy - y0) * k) = sg (vy - y0) * k := w64 (by omega) (by omega)
    have w6 : Go.IntKind.wrap .i64 (sg (vz - z0) * k) = sg (vz - z0) * k := w64 (by omega) (by omega)
    have w7 : Go.IntKind.wrap .i64 (x0 + sg (vx - x0) * k) = x0 + sg (vx - x0) * k := w64 (by omega) (by omega)
    have w8 : Go.IntKind.wrap .i64 (y0 + sg (vy - y0) * k) = y0 + sg (vy - y0) * k := w64 (by omega) (by omega)
    have w9 : Go.IntKind.wrap .i64 (z0 + sg (vz - z0) * k) = z0 + sg (vz - z0) * k := w64 (by omega) (by omega)
    have w10 : Go.IntKind.wrap .i64 (k + 1) = k + 1 := w64 (by omega) (by omega)
    have d1 : decide (k ≤ N) = true := dT (by omega)
    have rc := fun (s' : Mst) (h : TopsOk m s'.1) => F10.l2_ok (r := r) (n := n) (len := len) (i := i) (V := V) (G := G) (q1 := q1) (q2 := q2) (q3 := q3) (q4 := q4) (q5 := q5) (q6 := q6) (q7 := q7) (e0 := e0) (e1 := e1) (W2 := W2) (H2 := H2) (vf := vf) (vx := vx) (vy := vy) (vz := vz) (oi := oi) (o0 := o0) (o1 := o1) (o2 := o2) (o3 := o3) (o5 := o5) (o6 := o6) (o7 := o7) (c0 := c0) (t := t) (p := p) (f0 := f0) (moves := moves) hW hW2 hH hH2 hr hr2 hm hm2 hp hn hN hx hy hz hx0 hy0 hz0 n' (k + 1) s' (by omega) (by omega) h
    have e31 := F31.ok (t := t) hW hW2 hH hH2 hr hr2 bx.1 bx.2 bys.1 bys.2
    have hf : (f.length : Int) = W * H := by rw [ht.1]; exact hm
    have hpf : p.length = f.length := by rw [ht.1]; exact hp
    have hL := cols_in (r := r) (x := x0 + sg (vx - x0) * k) (y := y0 + sg (vy - y0) * k) hf hW
    have hl := cols_len (W := W) (H := H) (r := r) (x := x0 + sg (vx - x0) * k) (y := y0 + sg (vy - y0) * k)
    simp only [stepsR]
    unfold F10.l2
    have e4 := fun L hL hl => F10.l4_ok (r := r) (dx := sg (vx - x0)) (dy := sg (vy - y0)) (dz := sg (vz - z0)) (n := n) (k := k) (z := z0 + sg (vz - z0) * k) (len := len) (i := i) (W := W) (H := H) (V := V) (G := G) (q1 := q1) (q2 := q2) (q3 := q3) (q4 := q4) (q5 := q5) (q6 := q6) (q7 := q7) (e0 := e0) (e1 := e1) (W2 := W2) (H2 := H2) (cut := cut) (air := air) (depth := depth) (x0 := x0) (y0 := y0) (z0 := z0) (vx := vx) (vy := vy) (vz := vz) (oi := oi) (o0 := o0) (o1 := o1) (o2 := o2) (o3 := o3) (o5 := o5) (o6 := o6) (o7 := o7) (c0 := c0) (vf := vf) (L := L) (t := t) (p := p) (f := f) (f0 := f0) (moves := moves) hL hpf hl
    have e6 := fun tk L hL hl => F10.l6_ok (r := r) (dx := sg (vx - x0)) (dy := sg (vy - y0)) (dz := sg (vz - z0)) (n := n) (k := k) (z := z0 + sg (vz - z0) * k) (len := len) (i := i) (W := W) (H := H) (V := V) (G := G) (q1 := q1) (q2 := q2) (q3 := q3) (q4 := q4) (q5 := q5) (q6 := q6) (q7 := q7) (e0 := e0) (e1 := e1) (W2 := W2) (H2 := H2) (cut := cut) (air := air) (depth := depth) (x0 := x0) (y0 := y0) (z0 := z0) (vx := vx) (vy := vy) (vz := vz) (oi := oi) (o0 := o0) (o1 := o1) (o2 := o2) (o3 := o3) (o5 := o5) (o6 := o6) (o7 := o7) (c0 := c0) (vf := vf) (L := L) (t := t) (p := p) (f := f) (f0 := f0) (moves := moves) (tk := tk) hL hl bz.1 bz.2 ht.2
    have e4 := e4 _ hL (by omega)
    have e6 := fun tk => e6 tk _ hL (by omega)
    revert htp
    unfold placeR
    cases hg : goL (scanG p f (z0 + sg (vz - z0) * k)) (cols W H r (x0 + sg (vx - x0) * k) (y0 + sg (vy - y0) * k)) false with
    | inr u =>
      intro htp
      rw [hg] at e4
      simp only [Sum.elim_inr] at e4
      exact lim_out (by simp only [F10.l2.b, hn, d1, cT, w4, w5, w6, w7, w8, w9, e31, bS, e4]; rfl)
    | inl tk =>
      rw [hg] at e4
      simp only [Sum.elim_inl] at e4
      cases hb : (tk && vf) with
      | true =>
        have hb2 : (vf && tk) = true := by rw [Bool.and_comm]; exact hb
        simp only [hb2, if_true]
        intro htp
        exact lim_out (by simp only [F10.l2.b, hn, d1, cT, w4, w5, w6, w7, w8, w9, e31, bS, e4, hb, F36.ok]; rfl)
      | false =>
        have hb2 : (vf && tk) = false := by rw [Bool.and_comm]; exact hb
        simp only [hb2, Bool.false_eq_true, if_false, if_true]
        intro htp
        have e6 := e6 tk
        cases hc : ((!tk) && (!vf)) with
        | true =>
          have hc2 : ((!vf) && (!tk)) = true := by rw [Bool.and_comm]; exact hc
          simp only [hc2, if_true] at htp ⊢
          refine (lim_in ?_).trans (rc _ htp)
          simp only [F10.l2.b, hn, d1, cT, w4, w5, w6, w7, w8, w9, e31, bS, e4, hb, cF, e6, hc, w10]
        | false =>
          have hc2 : ((!vf) && (!tk)) = false := by rw [Bool.and_comm]; exact hc
          simp only [hc2, Bool.false_eq_true, if_false] at htp ⊢
          refine (lim_in ?_).trans (rc _ htp)
          simp only [F10.l2.b, hn, d1, cT, w4, w5, w6, w7, w8, w9, e31, bS, e4, hb, cF, e6, hc, w10]

end Go.Proofs.Ytnaieiillgncjaa.AX

/- Milling: the program answers as the reference. No conditions. -/
namespace Go.Proofs.Ytnaieiillgncjaa.AX
open Go

theorem F35.ok (W H : Int) (t : List Int) (h : t.length ≤ 5000) : F35.F (W, H, t) = some (W, H, t) := by
  have d : decide (t.length ≤ 274877906944) = true := dT (by omega)
  simp only [F35.F, d, cT]

theorem ab_sg {a b : Int} : ab (sg (a - b)) = if b = a then 0 else 1 := by
  unfold ab sg
  split <;> split <;> (try split) <;> omega

theorem sg_b {n : Int} : -1 ≤ sg n ∧ sg n ≤ 1 := by unfold sg; split <;> (try split) <;> omega

def outM (W H : Int) (q : Int × Int × Mst) : (Int × Int × Int × Int × Int × Int × Int × (List Int)) ⊕ (Int × Int × Int × Int × Int × Int × Int × Int × Int × Int × Int × Int × Int × Int × (List Int)) :=
  if q.1 = 0 then .inr (0, 0, 0, 0, 0, 0, 0, 0, 0, W, H, q.2.2.2.1, q.2.2.2.2.1, q.2.2.2.2.2, q.2.2.1) else .inl (q.1, q.2.1, W, H, q.2.2.2.1, q.2.2.2.2.1, q.2.2.2.2.2, q.2.2.1)
theorem outM_0 {W H : Int} {c b : Int} {s : Mst} (h : c = 0) : outM W H (c, b, s) = .inr (0, 0, 0, 0, 0, 0, 0, 0, 0, W, H, s.2.1, s.2.2.1, s.2.2.2, s.1) := if_pos h
theorem outM_1 {W H : Int} {c b : Int} {s : Mst} (h : c ≠ 0) : outM W H (c, b, s) = .inl (c, b, W, H, s.2.1, s.2.2.1, s.2.2.2, s.1) := if_neg h

theorem F10.l0_ok {W H r : Int} {t p : List Int} {moves : List S58} {m : Nat} (hW : 1 ≤ W) (hW2 : W ≤ 24) (hH : 1 ≤ H) (hH2 : H ≤ 24) (hr : 0 ≤ r) (hr2 : r ≤ 3) (hm : (m : Int) = W * H) (hm2 : m ≤ 576) (hp : p.length = m) (hl : moves.length ≤ 5000) :
    ∀ (n i : Nat) (c0 : Bool) (x0 y0 z0 : Int) (s : Mst), i + n = moves.length → (0 ≤ x0 ∧ x0 ≤ 24) → (0 ≤ y0 ∧ y0 ≤ 24) → (0 ≤ z0 ∧ z0 ≤ 24) → TopsOk m s.1 →
    F10.l0 (r, (moves.length : Int), (i : Int), W, H, W, H, 0, 0, 0, 0, 0, 0, 0, 0, 0, W, H, s.2.1, s.2.2.1, s.2.2.2, c0, x0, y0, z0, moves, t, p, s.1) = some (outM W H (movesR W H r p (moves.drop i) i x0 y0 z0 s))
  | 0, i, c0, x0, y0, z0, s, hi, hx, hy, hz, ht => by
    have d : decide ((i : Int) < (moves.length : Int)) = false := dF (by omega)
    rw [List.drop_eq_nil_of_le (by omega)]
    simp only [movesR]
    rw [outM_0 rfl]
    unfold F10.l0; exact lim_out (by simp only [F10.l0.b, d, cF])
  | n + 1, i, c0, x0, y0, z0, s, hi, hx, hy, hz, ht => by
    have hlt : i < moves.length := by omega
    have d : decide ((i : Int) < (moves.length : Int)) = true := dT (by omega)
    have d2 : decide ((0 : Int) ≤ (i : Int)) = true := dT (by omega)
    have w : Go.IntKind.wrap .i64 ((i : Int) + 1) = ((i + 1 : Nat) : Int) := by rw [w64 (by omega) (by omega)]; rfl
    obtain ⟨f, cut, air, depth⟩ := s
    dsimp only at ht ⊢
    have e35 := F35.ok W H f (by have := ht.1; omega)
    rw [drop_cons hlt]
    have hg : moves.getD i z58 = moves[i] := getD_lt hlt
    generalize hv : moves[i] = v at hg ⊢
    simp only [movesR]
    have hin := fun h => move_in (r := r) (p := p) (x0 := x0) (y0 := y0) (z0 := z0) (v := v) (s := (f, cut, air, depth)) hW2 hH2 h
    have htt := move_tops (r := r) (p := p) (v := v) (s := (f, cut, air, depth)) hW2 hH2 hx hy hz ht
    have rc := fun (s' : Mst) h1 h2 h3 h4 => F10.l0_ok (t := t) hW hW2 hH hH2 hr hr2 hm hm2 hp hl n (i + 1) v.f0 v.f1 v.f2 v.f3 s' (by omega) h1 h2 h3 h4
    have hmv : moveR W H r p x0 y0 z0 v (f, cut, air, depth) = if outG W H v.f1 v.f2 v.f3 = true then (5, (f, cut, air, depth)) else if chg x0 y0 z0 v.f1 v.f2 v.f3 > 1 then (13, (f, cut, air, depth))
      else stepsR W H r p v.f0 x0 y0 z0 (sg (v.f1 - x0)) (sg (v.f2 - y0)) (sg (v.f3 - z0)) (cntM x0 y0 z0 v.f1 v.f2 v.f3).toNat 1 (f, cut, air, depth) := rfl
    cases ho : outG W H v.f1 v.f2 v.f3 with
    | true =>
      have ho' := ho
      unfold outG at ho'
      rw [if_pos ho] at hmv
      rw [hmv, if_neg (show (5 : Int) ≠ 0 by decide), outM_1 (show (5 : Int) ≠ 0 by decide)]
      unfold F10.l0
      exact lim_out (by simp only [F10.l0.b, d, d2, Bool.and_self, cT, Int.toNat_natCast, hg, e35, bS, ho', F36.ok])
    | false =>
      have ho' := ho
      unfold outG at ho'
      obtain ⟨b1, b2, b3, b4, b5, b6⟩ := outG_no ho
      rw [if_neg (by rw [ho]; decide)] at hmv
      have w1 : Go.IntKind.wrap .i64 (v.f1 - x0) = v.f1 - x0 := w64 (by omega) (by omega)
      have w2 : Go.IntKind.wrap .i64 (v.f2 - y0) = v.f2 - y0 := w64 (by omega) (by omega)
      have w3 : Go.IntKind.wrap .i64 (v.f3 - z0) = v.f3 - z0 := w64 (by omega) (by omega)
      have q1 := ab_b (n := v.f1 - x0) (by omega) (by omega)
      have q2 := ab_b (n := v.f2 - y0) (by omega) (by omega)
      have q3 := ab_b (n := v.f3 - z0) (by omega) (by omega)
      have e1 : F38.F (v.f1 - x0) = some (ab (v.f1 - x0)) := F38.ok (by omega) (by omega)
      have e2 : F38.F (v.f2 - y0) = some (ab (v.f2 - y0)) := F38.ok (by omega) (by omega)
      have e3 : F38.F (v.f3 - z0) = some (ab (v.f3 - z0)) := F38.ok (by omega) (by omega)
      have g1 := sg_b (n := v.f1 - x0)
      have g2 := sg_b (n := v.f2 - y0)
      have g3 := sg_b (n := v.f3 - z0)
      have e4 : F38.F (sg (v.f1 - x0)) = some (if x0 = v.f1 then 0 else 1) := by rw [← ab_sg]; exact F38.ok (by omega) (by omega)
      have e5 : F38.F (sg (v.f2 - y0)) = some (if y0 = v.f2 then 0 else 1) := by rw [← ab_sg]; exact F38.ok (by omega) (by omega)
      have e6 : F38.F (sg (v.f3 - z0)) = some (if z0 = v.f3 then 0 else 1) := by rw [← ab_sg]; exact F38.ok (by omega) (by omega)
      have w4 : Go.IntKind.wrap .i64 (ab (v.f1 - x0) + ab (v.f2 - y0)) = ab (v.f1 - x0) + ab (v.f2 - y0) := w64 (by omega) (by omega)
      have w5 : Go.IntKind.wrap .i64 (ab (v.f1 - x0) + ab (v.f2 - y0) + ab (v.f3 - z0)) = ab (v.f1 - x0) + ab (v.f2 - y0) + ab (v.f3 - z0) := w64 (by omega) (by omega)
      have w6 : Go.IntKind.wrap .i64 ((if x0 = v.f1 then (0 : Int) else 1) + (if y0 = v.f2 then 0 else 1)) = (if x0 = v.f1 then (0 : Int) else 1) + (if y0 = v.f2 then 0 else 1) := w64 (by split <;> split <;> omega) (by split <;> split <;> omega)
      have w7 : Go.IntKind.wrap .i64 ((if x0 = v.f1 then (0 : Int) else 1) + (if y0 = v.f2 then 0 else 1) + (if z0 = v.f3 then 0 else 1)) = chg x0 y0 z0 v.f1 v.f2 v.f3 := w64 (by split <;> split <;> split <;> omega) (by split <;> split <;> split <;> omega)
      by_cases hc : chg x0 y0 z0 v.f1 v.f2 v.f3 > 1
      · rw [if_pos hc] at hmv
        rw [hmv, if_neg (show (13 : Int) ≠ 0 by decide), outM_1 (show (13 : Int) ≠ 0 by decide)]
        unfold F10.l0
        exact lim_out (by simp only [F10.l0.b, d, d2, Bool.and_self, cT, Int.toNat_natCast, hg, e35, bS, ho', cF, F37.ok, w1, w2, w3, e1, e2, e3, e4, e5, e6, w6, w7, dT hc, F36.ok])
      · rw [if_neg hc] at hmv
        rw [hmv] at hin htt ⊢
        obtain ⟨n1, n2, k1, k2, k3⟩ := coords hx hy hz (x1 := v.f1) (y1 := v.f2) (z1 := v.f3) (by omega) (by omega) (by omega) hc
        have hN : (if 1 > ab (v.f1 - x0) + ab (v.f2 - y0) + ab (v.f3 - z0) then 1 else ab (v.f1 - x0) + ab (v.f2 - y0) + ab (v.f3 - z0)) = cntM x0 y0 z0 v.f1 v.f2 v.f3 := rfl
        have h2 := F10.l2_ok (c0 := c0) (vf := v.f0) (t := t) (f0 := f) (moves := moves) (len := (moves.length : Int)) (i := (i : Int)) (V := W) (G := H) (q1 := 0) (q2 := 0) (q3 := 0) (q4 := 0) (q5 := 0) (q6 := 0) (q7 := 0) (e0 := 0) (e1 := 0) (W2 := W) (H2 := H) (oi := (i : Int)) (o0 := 0) (o1 := 0) (o2 := W) (o3 := H) (o5 := cut) (o6 := air) (o7 := depth)
          hW hW2 hH hH2 hr hr2 hm hm2 hp hN n2 k1 k2 k3 hx hy hz (cntM x0 y0 z0 v.f1 v.f2 v.f3).toNat 1 (f, cut, air, depth) (by omega) (by omega) ht
        dsimp only at h2
        generalize stepsR W H r p v.f0 x0 y0 z0 (sg (v.f1 - x0)) (sg (v.f2 - y0)) (sg (v.f3 - z0)) (cntM x0 y0 z0 v.f1 v.f2 v.f3).toNat 1 (f, cut, air, depth) = q at h2 hin htt ⊢
        obtain ⟨q1, q2⟩ := q
        dsimp only at h2 hin htt ⊢
        by_cases hq : q1 = 0
        · rw [if_pos hq] at h2 ⊢
          obtain ⟨i1, i2, i3⟩ := hin hq
          unfold F10.l0
          refine (lim_in ?_).trans (rc q2 i1 i2 i3 htt)
          simp only [F10.l0.b, d, d2, Bool.and_self, cT, Int.toNat_natCast, hg, e35, bS, ho', cF, F37.ok, w1, w2, w3, w4, w5, e1, e2, e3, e4, e5, e6, w6, w7, dF hc, h2, w]
        · rw [if_neg hq] at h2 ⊢
          rw [outM_1 hq]
          unfold F10.l0
          exact lim_out (by simp only [F10.l0.b, d, d2, Bool.and_self, cT, Int.toNat_natCast, hg, e35, bS, ho', cF, F37.ok, w1, w2, w3, w4, w5, e1, e2, e3, e4, e5, e6, w6, w7, dF hc, h2])

theorem F10.ok (W H : Int) (t : List Int) (V G : Int) (p : List Int) (r : Int) (moves : List S58) : F10.F ((W, H, t), (V, G, p), r, moves) = some (millR W H t V G p r moves) := by
  unfold millR
  by_cases h0 : (moves.length : Int) > 4096
  · rw [if_pos h0]; simp only [F10.F, dT h0, cT]
  · rw [if_neg h0]
    cases hk : pairOk W H t V G p r with
    | false => rw [if_pos rfl]; simp only [F10.F, dF h0, cF, F28.ok, bS, hk, Bool.not_false, cT]
    | true =>
      rw [if_neg (by decide)]
      by_cases h2 : (moves.length : Int) > 2000
      · rw [if_pos h2]; simp only [F10.F, dF h0, cF, F28.ok, bS, hk, Bool.not_true, dT h2, cT]
      · rw [if_neg h2]
        obtain ⟨a1, a2, a3, a4, a5, a6, a7, a8, a9, a10, rfl, rfl⟩ := pair_ok hk
        have g1 := F10.l0_ok (t := t) (moves := moves) a1 a2 a3 a4 a5 a6 a7 a8 a9 (by omega) moves.length 0 false 0 0 24 (t, 0, 0, 0) (by omega) (by decide) (by decide) (by decide) a10
        simp only [List.drop_zero] at g1
        have e35 := F35.ok W H t (by omega)
        have g1' : F10.l0 (r, (moves.length : Int), 0, W, H, W, H, 0, 0, 0, 0, 0, 0, 0, 0, 0, W, H, 0, 0, 0, false, 0, 0, 24, moves, t, p, t) = _ := g1
        have hz : ∀ (l : List S58) (i x y z : Int) (s : Mst), (movesR W H r p l i x y z s).1 = 0 → (movesR W H r p l i x y z s).2.1 = 0 := by
          intro l
          induction l with
          | nil => intros; rfl
          | cons v l ih =>
            intro i x y z s
            simp only [movesR]
            split
            · exact ih _ _ _ _ _
            · rename_i h; exact fun h' => absurd h' h
        have hz := hz moves 0 0 0 24 (t, 0, 0, 0)
        have g2 : F10.l0 (r, (moves.length : Int), 0, W, H, W, H, 0, 0, 0, 0, 0, 0, 0, 0, 0, W, H, 0, 0, 0, false, 0, 0, 24, moves, t, p, t) = some (outM W H (movesR W H r p moves 0 0 0 24 (t, 0, 0, 0))) := g1'
        generalize movesR W H r p moves 0 0 0 24 (t, 0, 0, 0) = q at g2 hz ⊢
        obtain ⟨c, b, s⟩ := q
        dsimp only at hz ⊢
        by_cases hq : c = 0
        · rw [outM_0 hq] at g2
          simp only [F10.F, dF h0, cF, F28.ok, bS, hk, Bool.not_true, dF h2, e35, g2]
          rw [hq, hz hq]
        · rw [outM_1 hq] at g2
          simp only [F10.F, dF h0, cF, F28.ok, bS, hk, Bool.not_true, dF h2, e35, g2]

end Go.Proofs.Ytnaieiillgncjaa.AX

/- What the functions of the law of milling answer. No conditions. -/
namespace Go.Proofs.Ytnaieiillgncjaa.AX
open Go

theorem F44.ok (l : List Int) (h : l.length ≤ 1048576) : F44.F l = some l := by
  have := lim_run (f := F44.l0.b) (fun i => ((i : Int), l, upTo id 0 l i)) l.length (y := l) (fun i hi => by
    have e := upTo_set (c := id) (z := 0) (d := 0) hi
    simp (disch := omega) only [F44.l0.b, dT, dF, w64, upTo_len, Bool.and_self, cT, bS, Int.toNat_natCast]
    exact congrArg (fun q => some (Sum.inl (((i + 1 : Nat) : Int), l, q))) e)
    (by simp (disch := omega) only [F44.l0.b, dT, dF, cF, upTo_all, List.map_id])
  simp (disch := omega) only [F44.F, dT, Bool.and_self, cT, Int.toNat_natCast, ← upTo_zero (c := id) (z := (0 : Int)) (l := l)]
  exact congrArg (fun q => Option.bind q fun y => some y) this

theorem F17.ok (l : List S58) (h : l.length ≤ 1048576) : F17.F l = some l := by
  have := lim_run (f := F17.l0.b) (fun i => ((i : Int), l, upTo id z58 l i)) l.length (y := l) (fun i hi => by
    have e := upTo_set (c := id) (z := z58) (d := z58) hi
    simp (disch := omega) only [F17.l0.b, F45.F, dT, dF, w64, upTo_len, Bool.and_self, cT, bS, Int.toNat_natCast]
    exact congrArg (fun q => some (Sum.inl (((i + 1 : Nat) : Int), l, q))) e)
    (by simp (disch := omega) only [F17.l0.b, dT, dF, cF, upTo_all, List.map_id])
  simp (disch := omega) only [F17.F, dT, Bool.and_self, cT, Int.toNat_natCast, ← upTo_zero (c := id) (z := z58) (l := l)]
  exact congrArg (fun q => Option.bind q fun y => some y) this

theorem F16.ok (a b : Int) (l : List Int) (h : l.length ≤ 1048576) : F16.F (a, b, l) = some (a, b, l) := by
  simp only [F16.F, F44.ok l h, bS]

theorem F46.ok (p : List Int) (h : p.length ≤ 1048576) : F46.F (p, p) = some true := by
  have := lim_run (f := F46.l0.b) (fun i => ((i : Int), p, p)) p.length (y := .inr ()) (fun i hi => by
    simp (disch := omega) only [F46.l0.b, dT, dF, nF, w64, Bool.and_self, cT, cF, bS, Bool.not_true]; rfl)
    (by simp (disch := omega) only [F46.l0.b, dT, dF, cF])
  simp (disch := omega) only [F46.F, nF, cF, dT]
  exact congrArg (fun q : Option (Bool ⊕ Unit) => q.bind fun q => match q with | .inl y => some y | .inr y => some true) this

theorem F47.ok (a : Bool × Int × Int × Int) : F47.F (a, a) = some true := by
  obtain ⟨a0, a1, a2, a3⟩ := a
  simp (disch := rfl) only [F47.F, qT, nF, Bool.not_true, cF]

theorem F20.ok (p : List S58) (h : p.length ≤ 1048576) : F20.F (p, p) = some true := by
  have := lim_run (f := F20.l0.b) (fun i => ((i : Int), p, p)) p.length (y := .inr ()) (fun i hi => by
    simp (disch := omega) only [F20.l0.b, F47.ok, dT, dF, w64, Bool.and_self, cT, cF, bS, Bool.not_true]; rfl)
    (by simp (disch := omega) only [F20.l0.b, dT, dF, cF])
  simp (disch := omega) only [F20.F, nF, cF, dT]
  exact congrArg (fun q : Option (Bool ⊕ Unit) => q.bind fun q => match q with | .inl y => some y | .inr y => some true) this

theorem F19.ok (a b : Int) (l : List Int) (h : l.length ≤ 1048576) : F19.F ((a, b, l), (a, b, l)) = some true := by
  simp (disch := rfl) only [F19.F, nF, cF, F46.ok l h, bS, Bool.not_true]

theorem F18.ok (c0 c1 a b : Int) (l : List Int) (c2 c3 c4 : Int) (h : l.length ≤ 1048576) : F18.F ((c0, c1, a, b, l, c2, c3, c4), (c0, c1, a, b, l, c2, c3, c4)) = some true := by
  simp (disch := rfl) only [F18.F, nF, cF, F19.ok _ _ l h, bS, Bool.not_true]

def g48 (k : Int) (_ : Int) : Int := k

theorem F48.ok (l : List Int) (k : Int) (h : l.length ≤ 1048576) (hk : 0 ≤ k) (hk2 : k ≤ 100000000) : F48.F (l, k) = some (k + (l.length : Int), mkL g48 (fun _ => 1) k l, ()) := by
  have := lim_run (f := F48.l0.b) (fun i => (mkK (fun _ => 1) k (l.take i), (i : Int), mkAt g48 (fun _ => 1) k l i)) l.length (y := (k + (l.length : Int), mkL g48 (fun _ => 1) k l)) (fun i hi => by
    have e := mkAt_set (g := g48) (c := fun _ => 1) (k := k) (d := 0) hi
    have e2 : mkK (fun _ => (1 : Int)) k (l.take i) = k + i := by rw [mkK_const]; simp; omega
    have e3 : mkK (fun _ => (1 : Int)) k (l.take (i + 1)) = k + (i + 1 : Nat) := by rw [mkK_const]; simp; omega
    have hl : (mkAt g48 (fun _ => 1) k l i).length = l.length := mkAt_len
    simp (disch := omega) only [F48.l0.b, dT, dF, w64, hl, e2, e3, List.length_set, Bool.and_self, cT, Int.toNat_natCast, getD_set, List.set_set, g48] at e ⊢
    rw [← e]
    simp only [Option.some.injEq, Sum.inl.injEq, Prod.mk.injEq]
    exact ⟨by omega, by omega, trivial⟩)
    (by simp (disch := omega) only [F48.l0.b, dT, dF, cF, mkAt_all, mkAt_len, List.take_length, mkK_const, mkL_len]; simp)
  simp (disch := omega) only [F48.F]
  exact congrArg (fun q : Option (Int × List Int) => q.bind fun y => some (y.1, y.2, ())) (by simpa [mkAt_zero, mkK] using this)

theorem F61.ok (l : List Int) (k : Int) (h : l.length ≤ 1048576) (hk : 0 ≤ k) (hk2 : k ≤ 100000000) : F61.F (mkL g48 (fun _ => 1) k l, k) = some (k + (l.length : Int)) := by
  have := lim_run (f := F61.l0.b) (fun i => (mkK (fun _ => 1) k (l.take i), (i : Int), mkL g48 (fun _ => 1) k l)) l.length (y := .inr (k + (l.length : Int))) (fun i hi => by
    have e := mkL_get (g := g48) (c := fun _ => 1) (k := k) (d := 0) hi
    have e2 : mkK (fun _ => (1 : Int)) k (l.take i) = k + i := by rw [mkK_const]; simp; omega
    have e3 : mkK (fun _ => (1 : Int)) k (l.take (i + 1)) = k + (i + 1 : Nat) := by rw [mkK_const]; simp; omega
    simp (disch := omega) only [F61.l0.b, dT, dF, w64, nT, nF, mkL_len, e, e2, e3, Bool.and_self, cT, cF, Int.toNat_natCast, g48]
    simp only [Option.some.injEq, Sum.inl.injEq, Prod.mk.injEq]
    exact ⟨by omega, by omega, trivial⟩)
    (by simp (disch := omega) only [F61.l0.b, dT, dF, cF, List.take_length, mkK_const, mkL_len]; simp)
  simp (disch := omega) only [F61.F]
  exact congrArg (fun q : Option (Int ⊕ Int) => q.bind fun q => match q with | .inl y => some y | .inr y => some y) (by simpa [mkK] using this)

def g58 (k : Int) (_ : S58) : S58 := ⟨Int.tmod k 3 == 0, k + 1, k + 1 + 1, k + 1 + 1 + 1⟩

theorem F22.ok (l : List S58) (k : Int) (h : l.length ≤ 1048576) (hk : 0 ≤ k) (hk2 : k ≤ 100000000) : F22.F (l, k) = some (k + 4 * (l.length : Int), mkL g58 (fun _ => 4) k l, ()) := by
  have := lim_run (f := F22.l0.b) (fun i => (mkK (fun _ => 4) k (l.take i), (i : Int), mkAt g58 (fun _ => 4) k l i)) l.length (y := (k + 4 * (l.length : Int), mkL g58 (fun _ => 4) k l)) (fun i hi => by
    have e := mkAt_set (g := g58) (c := fun _ => 4) (k := k) (d := z58) hi
    have e2 : mkK (fun _ => (4 : Int)) k (l.take i) = k + 4 * i := by rw [mkK_const]; simp; omega
    have e3 : mkK (fun _ => (4 : Int)) k (l.take (i + 1)) = k + 4 * (i + 1 : Nat) := by rw [mkK_const]; simp; omega
    have hl : (mkAt g58 (fun _ => 4) k l i).length = l.length := mkAt_len
    simp (disch := omega) only [F22.l0.b, dT, dF, w64, hl, e2, e3, List.length_set, Bool.and_self, cT, Int.toNat_natCast, getD_set, List.set_set, g58] at e ⊢
    rw [← e]
    simp only [Option.some.injEq, Sum.inl.injEq, Prod.mk.injEq]
    exact ⟨by omega, by omega, trivial⟩)
    (by simp (disch := omega) only [F22.l0.b, dT, dF, cF, mkAt_all, mkAt_len, List.take_length, mkK_const, mkL_len])
  simp (disch := omega) only [F22.F]
  exact congrArg (fun q : Option (Int × List S58) => q.bind fun y => some (y.1, y.2, ())) (by simpa [mkAt_zero, mkK] using this)

theorem millR_len {W H V G r : Int} {t p : List Int} {moves : List S58} : (millR W H t V G p r moves).2.2.2.2.1.length ≤ 576 := by
  unfold millR
  split
  · simp
  · split
    · simp
    · rename_i hk
      have hk : pairOk W H t V G p r = true := by simpa using hk
      obtain ⟨a1, a2, a3, a4, a5, a6, a7, a8, a9, a10, rfl, rfl⟩ := pair_ok hk
      split
      · simp
      · dsimp only
        have key : ∀ (l : List S58) (i x0 y0 z0 : Int) (s : Mst), (0 ≤ x0 ∧ x0 ≤ 24) → (0 ≤ y0 ∧ y0 ≤ 24) → (0 ≤ z0 ∧ z0 ≤ 24) → TopsOk t.length s.1 → TopsOk t.length (movesR W H r p l i x0 y0 z0 s).2.2.1 := by
          intro l
          induction l with
          | nil => intro i x0 y0 z0 s _ _ _ h; exact h
          | cons v l ih =>
            intro i x0 y0 z0 s hx hy hz h
            simp only [movesR]
            split
            · rename_i h0
              have := move_in a2 a4 h0
              exact ih _ _ _ _ _ this.1 this.2.1 this.2.2 (move_tops a2 a4 hx hy hz h)
            · exact h
        have := (key moves 0 0 0 24 (t, 0, 0, 0) (by decide) (by decide) (by decide) a10).1
        omega

end Go.Proofs.Ytnaieiillgncjaa.AX

/- The law of milling, plainly. No conditions. -/
namespace Go.Proofs.Ytnaieiillgncjaa.AX
open Go

theorem F41.ok (l : List Int) (k : Int) (h : (l.length : Int) ≤ 9223372036854775807) (hk : 0 ≤ k) (hk2 : k ≤ 1048576) : F41.F (l, k) = some (if k - l.length < 0 then -1 else k - l.length) := by
  have w : Go.IntKind.wrap .i64 (k - (l.length : Int)) = k - l.length := w64 (by omega) (by omega)
  by_cases h0 : k - (l.length : Int) < 0
  · simp only [F41.F, w, dT h0, cT, if_pos h0]
  · simp only [F41.F, w, dF h0, cF, if_neg h0]

theorem F13.ok (a b : Int) (l : List Int) (k : Int) (h : (l.length : Int) ≤ 9223372036854775807) (hk : 0 ≤ k) (hk2 : k ≤ 1048576) : F13.F ((a, b, l), k) = some (if k - l.length < 0 then -1 else k - l.length) := by
  by_cases h0 : k - (l.length : Int) < 0
  · simp only [F13.F, F41.ok l k h hk hk2, bS, if_pos h0]; rfl
  · simp only [F13.F, F41.ok l k h hk hk2, bS, if_neg h0, dF h0, cF]

theorem F14.ok (l : List S58) (k : Int) (h : (l.length : Int) ≤ 9223372036854775807) (hk : 0 ≤ k) (hk2 : k ≤ 1048576) : F14.F (l, k) = some (if k - l.length < 0 then -1 else k - l.length) := by
  have w : Go.IntKind.wrap .i64 (k - (l.length : Int)) = k - l.length := w64 (by omega) (by omega)
  by_cases h0 : k - (l.length : Int) < 0
  · simp only [F14.F, w, dT h0, cT, if_pos h0]
  · simp only [F14.F, w, dF h0, cF, if_neg h0]

theorem F4.law_of (W H : Int) (t : List Int) (V G : Int) (p : List Int) (r : Int) (moves : List S58) (ht : (t.length : Int) ≤ 9223372036854775807) (hp : (p.length : Int) ≤ 9223372036854775807) (hm : (moves.length : Int) ≤ 9223372036854775807) :
    F4.F ((W, H, t), (V, G, p), r, moves) = some true := by
  have m1 : decide ((-1 : Int) < 0) = true := rfl
  have e1 := F13.ok W H t 1048576 ht (by decide) (by decide)
  by_cases h1 : 1048576 - (t.length : Int) < 0
  · rw [if_pos h1] at e1; simp only [F4.F, e1, bS, m1, cT]
  rw [if_neg h1] at e1
  have e2 := F13.ok V G p (1048576 - t.length) hp (by omega) (by omega)
  by_cases h2 : 1048576 - (t.length : Int) - p.length < 0
  · rw [if_pos h2] at e2; simp only [F4.F, e1, dF h1, cF, e2, bS, m1, cT]
  rw [if_neg h2] at e2
  have e3 := F14.ok moves (1048576 - t.length - p.length) hm (by omega) (by omega)
  by_cases h3 : 1048576 - (t.length : Int) - p.length - moves.length < 0
  · rw [if_pos h3] at e3; simp only [F4.F, e1, dF h1, cF, e2, dF h2, e3, bS, m1, cT]
  rw [if_neg h3] at e3
  have f1 := F16.ok W H t (by omega)
  have f2 := F16.ok V G p (by omega)
  have f3 := F17.ok moves (by omega)
  have hlen := millR_len (W := W) (H := H) (V := V) (G := G) (r := r) (t := t) (p := p) (moves := moves)
  have g1 := F15.ok W H t V G p r moves
  have g2 := F10.ok W H t V G p r moves
  generalize millR W H t V G p r moves = q at hlen g1 g2
  obtain ⟨c0, c1, a, b, l, c2, c3, c4⟩ := q
  dsimp only at hlen
  have e18 := F18.ok c0 c1 a b l c2 c3 c4 (by omega)
  have e19 := F19.ok W H t (by omega)
  have e19' := F19.ok V G p (by omega)
  have e20 := F20.ok moves (by omega)
  have k1 := F48.ok t 1 (by omega) (by decide) (by decide)
  have k2 := F48.ok p (1 + t.length) (by omega) (by omega) (by omega)
  have k3 := F22.ok moves (1 + t.length + p.length) (by omega) (by omega) (by omega)
  have k4 := F48.ok l 1 (by omega) (by decide) (by decide)
  have k5 := F61.ok l 1 (by omega) (by decide) (by decide)
  have d3 : decide (1 + (t.length : Int) + p.length + 4 * moves.length < 0) = false := dF (by omega)
  have d4 : decide (1 + (l.length : Int) < 0) = false := dF (by omega)
  have n1 : (1 + (l.length : Int) != 1 + (l.length : Int)) = false := nF rfl
  simp only [F4.F, e1, dF h1, cF, e2, dF h2, e3, dF h3, bS, f1, f2, f3, g1, g2, e18, e19, e19', e20, F21.F, F23.F, F24.F, F49.F, k1, k2, k3, k4, k5, d3, d4, n1, Bool.not_true, Bool.not_false, cT, Bool.or_self, Bool.false_or]

theorem F4.law {P : Prop} (x y : Int × Int × List Int) (r : Int) (moves : List S58) (h0 : ∀ n, TsOf (U := uni) (RowOk (U := uni) ky n) [.int .i64, .int .i64, .row 1] [.lit (.int .i64 x.1), .lit (.int .i64 x.2.1), .row 1 x.2.2]) (h1 : ∀ n, TsOf (U := uni) (RowOk (U := uni) ky n) [.int .i64, .int .i64, .row 1] [.lit (.int .i64 y.1), .lit (.int .i64 y.2.1), .row 1 y.2.2]) (h2 : P) (h3 : ∀ n, RowOk (U := uni) ky n 3 moves) : F4.F (x, y, r, moves) = some true := by
  obtain ⟨W, H, t⟩ := x
  obtain ⟨V, G, p⟩ := y
  have a0 : t.length ≤ maxLen := (h0 1).2.2.1.2.1
  have a1 : p.length ≤ maxLen := (h1 1).2.2.1.2.1
  have a3 : moves.length ≤ maxLen := (h3 0).1
  unfold maxLen at a0 a1 a3
  exact F4.law_of W H t V G p r moves (by omega) (by omega) (by omega)

end Go.Proofs.Ytnaieiillgncjaa.AX

/- The law FnExactMill answers true at every input. No conditions. -/
namespace Go.Proofs.Ytnaieiillgncjaa.fnExactMill
open Go.ChangeShapes Go.WideShapes Go.ChangeAt Go.RowKit Go.Proofs.Ytnaieiillgncjaa.AX
open Go.ChangeMaps (open_string shut_string)
theorem own : ownKnob Try.prog.godebug = none := by kernel_rfl
theorem laidOut : laidOutB Try.prog = true := by kernel_rfl
theorem flat23t : Flat Try.prog uni ky 23 [.row 1] := .slice 23 1 Try.underlying23 (List.cons_ne_nil _ _)
theorem flat41t : Flat Try.prog uni ky 41 [.int .i64, .int .i64, .row 1] := .struct 41 _ [.int .i64, .int .i64, .row 1] Try.underlying41 rfl (.cons _ _ _ [.int .i64] _ rfl flat3t rfl (.cons _ _ _ [.int .i64] _ rfl flat3t rfl (.cons _ _ _ [.row 1] _ rfl flat23t rfl (.nil _))))
theorem parts41 {ts : List (T El)} (o : ∀ n, TsOf (U := uni) (RowOk (U := uni) ky n) [.int .i64, .int .i64, .row 1] ts) : ∃ (x0 : Int) (x1 : Int) (x2 : List (El 1)), ts = [.lit (.int .i64 x0), .lit (.int .i64 x1), .row 1 x2] ∧ ∀ n, TsOf (U := uni) (RowOk (U := uni) ky n) [.int .i64, .int .i64, .row 1] [.lit (.int .i64 x0), .lit (.int .i64 x1), .row 1 x2] :=
  match ts, o, o 0 with
  | [.lit (.int k0 x0), .lit (.int k1 x1), .row k2 x2], o, ⟨⟨h0, _⟩, ⟨h1, _⟩, ⟨h2, _⟩, _⟩ => by subst h0; subst h1; subst h2; exact ⟨x0, x1, x2, rfl, o⟩
set_option maxRecDepth 100000 in
theorem lifted (os : Os) (started : os.Started) (H : Type) (enc : TypeId × Value → H) :
    ReturnsInHanded {} Try.checked os 4 .any (Rows.fnExactMillSpec.pre6 enc Try.prog Try.f4 Rows.fnExactMillRow.domain false) (Rows.fnExactMillSpec.post enc Try.prog Try.f4 false true false false) := by
  refine returnsInHanded_of_change_sized (C := Try.checked) own started (by kernel_rfl) Try.func4
    (ChangeSpec.witness6 (enc := enc) (C := Try.checked) false ⟨#[], #[.agg #[.int .i64 0, .int .i64 0, .slice none 0 0], .agg #[.int .i64 0, .int .i64 0, .slice none 0 0], .int .i64 0, .slice none 0 0], []⟩ 8 (by kernel_rfl) (by kernel_rfl) (by kernel_rfl) (by kernel_rfl)) ?_
  intro W base args ds gs before hval0 hW hcnd hsz0 _
  have hval : ∀ (j : Nat) t v, Try.f4.params[j]? = some t → args[j]? = some v → Value.okWide Try.prog W .any base t v := hval0
  have hW' := hW
  obtain ⟨p, q, hA0, hV, rfl, hfz, hnd⟩ := hW
  have hA : DataW.TrodAll enc Try.prog W 0 (fun _ => true) true Try.f4.params.toList args.toList ds p := hA0
  rw [Try.params4] at hA hval
  obtain ⟨v0, vs0, d0, ds0, p0, q0, hargs, rfl, rfl, h0, r0⟩ := trodAll_cons hA
  obtain ⟨v1, vs1, d1, ds1, p1, q1, rfl, rfl, rfl, h1, r1⟩ := trodAll_cons r0
  obtain ⟨v2, vs2, d2, ds2, p2, q2, rfl, rfl, rfl, h2, r2⟩ := trodAll_cons r1
  obtain ⟨v3, vs3, d3, ds3, p3, q3, rfl, rfl, rfl, h3, r3⟩ := trodAll_cons r2
  obtain ⟨rfl, rfl, rfl⟩ := trodAll_nil r3
  obtain rfl : args = #[v0, v1, v2, v3] := by cases args; simp_all
  obtain ⟨rfl, rfl⟩ := trodVars_none hV
  have k0 := h0
  have lt0 : ∀ x ∈ p0, x.block < W.heap.size := by obtain ⟨m, hm⟩ := k0; exact DataW.trod_lt m _ _ _ hm
  obtain ⟨ts0, F0, i0, o0⟩ := open_parts kindsOk Try.underlying41 flat41t (hval 0 41 v0 rfl rfl) h0
  obtain ⟨c0_0, c0_1, c0_2, rfl, w0⟩ := parts41 o0
  have k1 := h1
  have lt1 : ∀ x ∈ p1, x.block < W.heap.size := by obtain ⟨m, hm⟩ := k1; exact DataW.trod_lt m _ _ _ hm
  obtain ⟨ts1, F1, i1, o1⟩ := open_parts kindsOk Try.underlying41 flat41t (hval 1 41 v1 rfl rfl) h1
  obtain ⟨c1_0, c1_1, c1_2, rfl, w1⟩ := parts41 o1
  obtain ⟨a2, rfl, rfl, rfl, w2⟩ := open_int Try.underlying3 (hval 2 3 v2 rfl rfl) h2
  have k3 := h3
  have lt3 : ∀ x ∈ p3, x.block < W.heap.size := by obtain ⟨m, hm⟩ := k3; exact DataW.trod_lt m _ _ _ hm
  obtain ⟨l3, F3, i3, o3⟩ := open_slice kindsOk (k := 3) Try.underlying42 (List.cons_ne_nil _ _) (hval 3 42 v3 rfl rfl) h3
  clear hA0 hval0 hsz0
  have hcon := F4.con ((c0_0, c0_1, c0_2), (c1_0, c1_1, c1_2), a2, l3) true (F4.law (c0_0, c0_1, c0_2) (c1_0, c1_1, c1_2) a2 l3 w0 w1 w2 o3) [v0, v1, .int .i64 a2, v3] W [] _ ⟨[], [], F0, _, i0, ⟨[], [], F1, _, i1, ⟨[], [], [], _, ⟨rfl, rfl, rfl⟩, ⟨[], [], F3, _, i3, ⟨rfl, rfl⟩, rfl, rfl⟩, rfl, rfl⟩, rfl, rfl⟩, rfl, rfl⟩ (by simp) (by simp)
  refine hcon.mono fun e W' ⟨rs, vs, G, E', hr, hR, he, hO, hfr, _, _⟩ => ?_
  obtain rfl : rs = [.val (.bool true)] := by injection hr with hr; exact hr.symm
  obtain rfl : vs = [.bool true] := by
    match vs, hR with
    | [v], ⟨_, _, ⟨h, _⟩, _, _⟩ => rw [h]
  subst he
  have bel := below_of hfr
  exact ⟨_, rfl, _, _, _, [], _, [], hW', trodAll_mk1 (shut_bool Try.underlying4 _), (trodAll_cons_mk (Below.trod laidOut (by kernel_rfl) (of_decide_eq_true (by kernel_rfl)) k0 bel lt0) (trodAll_cons_mk (Below.trod laidOut (by kernel_rfl) (of_decide_eq_true (by kernel_rfl)) k1 bel lt1) (trodAll_cons_mk (shut_int Try.underlying3 w2) (trodAll_cons_mk (Below.trod laidOut (by kernel_rfl) (of_decide_eq_true (by kernel_rfl)) k3 bel lt3) trodAll_mk0)))), rfl, bel.frame _, fun h => by cases h⟩
theorem over : Rows.fnExactMillRow.holds Try.pinned (OpenSpec.ofChange Rows.fnExactMillSpec) :=
  OpenClaim.holds_of_wide 4 Try.f4 rfl rfl rfl rfl rfl rfl rfl ⟨rfl, rfl, rfl, rfl, rfl⟩ rfl rfl rfl rfl rfl (by kernel_rfl) Try.func4 (by kernel_rfl)
    (of_decide_eq_true (by kernel_rfl)) (by unfold Func.isWrapper; first | (rw [if_pos (by decide +kernel)]; kernel_rfl) | (rw [if_neg (by decide +kernel)]; exact ⟨rfl, rfl⟩))
    (fun os started H enc _ => lifted os started H enc)
theorem proved : Rows.FnExactMillSaid := over
end Go.Proofs.Ytnaieiillgncjaa.fnExactMill
namespace Go.Proofs.Ytnaieiillgncjaa
theorem fnExactMill_holds : Rows.FnExactMillSaid := fnExactMill.proved
end Go.Proofs.Ytnaieiillgncjaa

import Derived.Test.YtkijhilmgljegaaQTT0
import Derived.Test.YtkijhilmgljegaaVTk
import Derived.Lib.Hide
import Derived.Shelf.GgSortFunc.Tiny
import Derived.StillTailTactics
import Derived.Test.YtkijhilmgljegaaQTBySize
import Derived.Test.YtkijhilmgljegaaQTSort
import Derived.Test.YtkijhilmgljegaaQTSymW
namespace Go.Proofs.Ytkijhilmgljegaa.PT
open Go.RowKit Go.Proofs.YtkijhilmgljegaaW.PrintWords Go.Proofs.YtkijhilmgljegaaW.PrintLast Go.Proofs.YtkijhilmgljegaaW.PrintMore
attribute [local go_sem] max2_int min2_int max_two min_two max_three min_three max_four min_four
set_option linter.unusedVariables false
set_option linter.unusedSimpArgs false
mutual
def impl_matesCode.j0 : Nat → List Int → List Int → Int → Int → Bool → Option (Int)
 | 0, _, _, _, _, _ => none
 | k + 1, x0, x1, x2, x3, x18 => if x18 = true then (some 2) else (if (x0.length : Int) > 200 then (impl_matesCode.j1 k x0 x1 true) else (if (x1.length : Int) > 200 then (impl_matesCode.j1 k x0 x1 true) else (if x2 < (-100000) then (impl_matesCode.j1 k x0 x1 true) else (if x2 > 100000 then (impl_matesCode.j1 k x0 x1 true) else (if x3 < (-100000) then (impl_matesCode.j1 k x0 x1 true) else (if x3 > 100000 then (impl_matesCode.j1 k x0 x1 true) else (impl_matesCode.j1 k x0 x1 (decide (x2 > x3)))))))))
def impl_matesCode.j1 : Nat → List Int → List Int → Bool → Option (Int)
 | 0, _, _, _ => none
 | k + 1, x0, x1, x47 => if x47 = true then (some 1) else (if ([] : List Int).length + x0.length < 17592186044416 then ((some (([] : List Int) ++ x0 : List Int)).bind fun y178 => (if y178.length + x1.length < 17592186044416 then ((some (y178 ++ x1 : List Int)).bind fun y181 => (impl_matesCode.l0 k y181 (y181.length : Int) 0)) else (none))) else (none))
def impl_matesCode.l0 : Nat → List Int → Int → Int → Option (Int)
 | 0, _, _, _ => none
 | k + 1, x51, x52, x53 => if x53 < x52 then (if 0 ≤ x53 then (if x53 < (x51.length : Int) then (if (rd x51 x53) < 0 then (some 1) else (if (rd x51 x53) > 100000 then (some 1) else (impl_matesCode.l0 k x51 x52 (wrap64 (x53 + 1))))) else (none)) else (none)) else (some 0)
end
def impl_matesCode.f (k : Nat) (l0 : List Int) (l1 : List Int) (a2 : Int) (a3 : Int) : Option (Int) := if (l0.length : Int) > 4096 then (impl_matesCode.j0 k l0 l1 a2 a3 true) else (impl_matesCode.j0 k l0 l1 a2 a3 (decide ((l1.length : Int) > 4096)))
set_option maxHeartbeats 8000000 in
set_option maxRecDepth 100000 in
theorem impl_matesCode.calls (k : Nat) (A0 : Option Addr) (c0 : Nat) (l0 : List Int) (A1 : Option Addr) (c1 : Nat) (l1 : List Int) (a2 : Int) (a3 : Int) (r : Int) (w : World) (hr0 : Kd.C (Kd.int .i64) w A0 l0.length l0) (hc0 : l0.length ≤ c0) (hr1 : Kd.C (Kd.int .i64) w A1 l1.length l1) (hc1 : l1.length ≤ c1) (h : impl_matesCode.f k l0 l1 a2 a3 = some r) :
  Calls Try.prog 20 #[.slice A0 l0.length c0, .slice A1 l1.length c1, .int .i64 a2, .int .i64 a3] w fun e w' => e = .returned (.int .i64 r) ∧ Below w.heap.size w w' := by
 have HR0 := Kp.a hr0
 have HC0 := Kp.a hc0
 clear hr0 hc0
 have HR1 := Kp.a hr1
 have HC1 := Kp.a hc1
 clear hr1 hc1
 have HB := Kp.a (Below.refl w.heap.size w)
 have H : (if (l0.length : Int) > 4096 then (impl_matesCode.j0 k l0 l1 a2 a3 true) else (impl_matesCode.j0 k l0 l1 a2 a3 (decide ((l1.length : Int) > 4096)))) = some r := h
 clear h
 have HC5 := Kp.a H
 clear H
 go_enter Try.func20, Try.ntmps20
 go_upto_region 1 with (fail)
 go_cut [18] (fun v18 wc => ∃ (kq : Nat) (x18_4 : Bool), v18 = .bool x18_4 ∧ Aside0 (impl_matesCode.j0 kq l0 l1 a2 a3 x18_4 = some r) ∧ Aside0 (kq ≤ k) ∧ Aside0 (Below w.heap.size w wc))
 case first =>
  have H := HC5.out
  clear HC5
  by_cases c6 : (l0.length : Int) > 4096
  ·rw [if_pos c6] at H
   have c6b0 : decide (4096 < (l0.length : Int)) = true := decide_eq_true c6
   have c6b1 : decide (4096 < l0.length) = true := decide_eq_true (by omega)
   clear c6
   (first | rw [c6b0] | (simp only [i64_w, i32_w]; rw [c6b0]) | skip)
   have H' := Kp.a H
   clear H
   go_wp2
   go_meet
   case rel => exact ⟨_, (true), (by first | rfl | (simp; done) | (simp [*]; done)), H', ⟨by first | omega | exact Nat.le_refl _⟩, ⟨Kp.kpL HB.out⟩⟩
  rw [if_neg c6] at H
  have c6b0 : decide (4096 < (l0.length : Int)) = false := decide_eq_false c6
  have c6b1 : decide (4096 < l0.length) = false := decide_eq_false (by omega)
  clear c6
  (first | rw [c6b0] | (simp only [i64_w, i32_w]; rw [c6b0]) | skip)
  have H' := Kp.a H
  clear H
  go_wp2
  go_meet
  case rel => exact ⟨_, (decide ((l1.length : Int) > 4096)), (by first | rfl | (simp; done) | (simp [*]; done)), H', ⟨by first | omega | exact Nat.le_refl _⟩, ⟨Kp.kpL HB.out⟩⟩
 clear HC5
 try clear c1
 try clear c2
 try clear p2
 try clear c6
 try clear c6b0
 try clear c6b1
 obtain ⟨kq, x18_4, rfl, HA, HJ4, HB⟩ := hcut
 cases kq with
 | zero => exact absurd HA.out (by simp [impl_matesCode.j0])
 | succ kj4 =>
  have H := HA.out
  clear HA
  simp only [impl_matesCode.j0] at H
  by_cases c7 : x18_4 = true
  ·subst c7
   have H1 : (some 2) = some r := by rw [if_pos rfl] at H; exact H
   clear H
   have H := H1
   clear H1
   obtain rfl := Option.some.inj H
   go_wp2
   go_ret
   exact ⟨by first | rfl | (simp [errW_none, errW_some] <;> rfl) | (simp [*, errW_none, errW_some] <;> rfl), Kp.kpL HB.out⟩
  replace c7 := Bool.eq_false_iff.mpr c7
  subst c7
  have H1 : (if (l0.length : Int) > 200 then (impl_matesCode.j1 kj4 l0 l1 true) else (if (l1.length : Int) > 200 then (impl_matesCode.j1 kj4 l0 l1 true) else (if a2 < (-100000) then (impl_matesCode.j1 kj4 l0 l1 true) else (if a2 > 100000 then (impl_matesCode.j1 kj4 l0 l1 true) else (if a3 < (-100000) then (impl_matesCode.j1 kj4 l0 l1 true) else (if a3 > 100000 then (impl_matesCode.j1 kj4 l0 l1 true) else (impl_matesCode.j1 kj4 l0 l1 (decide (a2 > a3))))))))) = some r := by rw [if_neg (show ¬ (false = true) by decide)] at H; exact H
  clear H
  have H := H1
  clear H1
  have HC8 := Kp.a H
  clear H
  go_upto_region 3 with (fail)
  go_cut [47] (fun v47 wc => ∃ (kq : Nat) (x47_7 : Bool), v47 = .bool x47_7 ∧ Aside0 (impl_matesCode.j1 kq l0 l1 x47_7 = some r) ∧ Aside0 (kq ≤ kj4) ∧ Aside0 (Below w.heap.size w wc))
  case first =>
   have H := HC8.out
   clear HC8
   by_cases c9 : (l0.length : Int) > 200
   ·rw [if_pos c9] at H
    have c9b0 : decide (200 < (l0.length : Int)) = true := decide_eq_true c9
    have c9b1 : decide (200 < l0.length) = true := decide_eq_true (by omega)
    clear c9
    (first | rw [c9b0] | (simp only [i64_w, i32_w]; rw [c9b0]) | skip)
    have H' := Kp.a H
    clear H
    go_wp2
    go_meet
    case rel => exact ⟨_, (true), (by first | rfl | (simp; done) | (simp [*]; done)), H', ⟨by have := HJ4.out; first | omega | exact Nat.le_refl _⟩, ⟨Kp.kpL HB.out⟩⟩
   rw [if_neg c9] at H
   have c9b0 : decide (200 < (l0.length : Int)) = false := decide_eq_false c9
   have c9b1 : decide (200 < l0.length) = false := decide_eq_false (by omega)
   clear c9
   (first | rw [c9b0] | (simp only [i64_w, i32_w]; rw [c9b0]) | skip)
   by_cases c10 : (l1.length : Int) > 200
   ·rw [if_pos c10] at H
    have c10b0 : decide (200 < (l1.length : Int)) = true := decide_eq_true c10
    have c10b1 : decide (200 < l1.length) = true := decide_eq_true (by omega)
    clear c10
    have H' := Kp.a H
    clear H
    go_wp2
    go_meet
    case rel => exact ⟨_, (true), (by first | rfl | (simp; done) | (simp [*]; done)), H', ⟨by have := HJ4.out; first | omega | exact Nat.le_refl _⟩, ⟨Kp.kpL HB.out⟩⟩
   rw [if_neg c10] at H
   have c10b0 : decide (200 < (l1.length : Int)) = false := decide_eq_false c10
   have c10b1 : decide (200 < l1.length) = false := decide_eq_false (by omega)
   clear c10
   by_cases c11 : a2 < (-100000)
   ·rw [if_pos c11] at H
    have c11b0 : decide (a2 < (-100000)) = true := decide_eq_true c11
    clear c11
    have H' := Kp.a H
    clear H
    go_wp2
    go_meet
    case rel => exact ⟨_, (true), (by first | rfl | (simp; done) | (simp [*]; done)), H', ⟨by have := HJ4.out; first | omega | exact Nat.le_refl _⟩, ⟨Kp.kpL HB.out⟩⟩
   rw [if_neg c11] at H
   have c11b0 : decide (a2 < (-100000)) = false := decide_eq_false c11
   clear c11
   by_cases c12 : a2 > 100000
   ·rw [if_pos c12] at H
    have c12b0 : decide (100000 < a2) = true := decide_eq_true c12
    clear c12
    have H' := Kp.a H
    clear H
    go_wp2
    go_meet
    case rel => exact ⟨_, (true), (by first | rfl | (simp; done) | (simp [*]; done)), H', ⟨by have := HJ4.out; first | omega | exact Nat.le_refl _⟩, ⟨Kp.kpL HB.out⟩⟩
   rw [if_neg c12] at H
   have c12b0 : decide (100000 < a2) = false := decide_eq_false c12
   clear c12
   by_cases c13 : a3 < (-100000)
   ·rw [if_pos c13] at H
    have c13b0 : decide (a3 < (-100000)) = true := decide_eq_true c13
    clear c13
    have H' := Kp.a H
    clear H
    go_wp2
    go_meet
    case rel => exact ⟨_, (true), (by first | rfl | (simp; done) | (simp [*]; done)), H', ⟨by have := HJ4.out; first | omega | exact Nat.le_refl _⟩, ⟨Kp.kpL HB.out⟩⟩
   rw [if_neg c13] at H
   have c13b0 : decide (a3 < (-100000)) = false := decide_eq_false c13
   clear c13
   by_cases c14 : a3 > 100000
   ·rw [if_pos c14] at H
    have c14b0 : decide (100000 < a3) = true := decide_eq_true c14
    clear c14
    have H' := Kp.a H
    clear H
    go_wp2
    go_meet
    case rel => exact ⟨_, (true), (by first | rfl | (simp; done) | (simp [*]; done)), H', ⟨by have := HJ4.out; first | omega | exact Nat.le_refl _⟩, ⟨Kp.kpL HB.out⟩⟩
   rw [if_neg c14] at H
   have c14b0 : decide (100000 < a3) = false := decide_eq_false c14
   clear c14
   have H' := Kp.a H
   clear H
   go_wp2
   go_meet
   case rel => exact ⟨_, (decide (a2 > a3)), (by first | rfl | (simp; done) | (simp [*]; done)), H', ⟨by have := HJ4.out; first | omega | exact Nat.le_refl _⟩, ⟨Kp.kpL HB.out⟩⟩
  clear HC8
  try clear c1
  try clear c2
  try clear p2
  try clear c6
  try clear c6b0
  try clear c6b1
  try clear c7
  try clear c9
  try clear c9b0
  try clear c9b1
  try clear c10
  try clear c10b0
  try clear c10b1
  try clear c11
  try clear c11b0
  try clear c12
  try clear c12b0
  try clear c13
  try clear c13b0
  try clear c14
  try clear c14b0
  try clear p2
  obtain ⟨kq, x47_7, rfl, HA, HJ7, HB⟩ := hcut
  cases kq with
  | zero => exact absurd HA.out (by simp [impl_matesCode.j1])
  | succ kj7 =>
   have H := HA.out
   clear HA
   simp only [impl_matesCode.j1] at H
   by_cases c15 : x47_7 = true
   ·subst c15
    have H1 : (some 1) = some r := by rw [if_pos rfl] at H; exact H
    clear H
    have H := H1
    clear H1
    obtain rfl := Option.some.inj H
    go_wp2
    go_ret
    exact ⟨by first | rfl | (simp [errW_none, errW_some] <;> rfl) | (simp [*, errW_none, errW_some] <;> rfl), Kp.kpL HB.out⟩
   replace c15 := Bool.eq_false_iff.mpr c15
   subst c15
   have H1 : (if ([] : List Int).length + l0.length < 17592186044416 then ((some (([] : List Int) ++ l0 : List Int)).bind fun y178 => (if y178.length + l1.length < 17592186044416 then ((some (y178 ++ l1 : List Int)).bind fun y181 => (impl_matesCode.l0 kj7 y181 (y181.length : Int) 0)) else (none))) else (none)) = some r := by rw [if_neg (show ¬ (false = true) by decide)] at H; exact H
   clear H
   have H := H1
   clear H1
   by_cases c16 : ([] : List Int).length + l0.length < 17592186044416
   rotate_left
   ·rw [if_neg c16] at H
    exact absurd H (by simp)
   rw [if_pos c16] at H
   have LMc16 := Kp.a c16
   clear c16
   obtain ⟨y178, hy178⟩ : ∃ y_ : List Int, y_ = (([] : List Int) ++ l0) := ⟨_, rfl⟩
   replace H : (if y178.length + l1.length < 17592186044416 then ((some (y178 ++ l1 : List Int)).bind fun y181 => (impl_matesCode.l0 kj7 y181 (y181.length : Int) 0)) else (none)) = some r := by first | (rw [hy178]; with_reducible exact H) | (have H2_ := (Option.bind_some _ _).symm.trans H; rw [hy178]; with_reducible exact H2_) | (have H2_ := (Option.bind_some _ _).symm.trans H; with_reducible exact H2_) | with_reducible exact H | (rw [hy178]; exact H) | exact H
   have Ny178 := Kp.a hy178
   clear hy178
   by_cases c17 : y178.length + l1.length < 17592186044416
   rotate_left
   ·rw [if_neg c17] at H
    exact absurd H (by simp)
   rw [if_pos c17] at H
   have LMc17 := Kp.a c17
   clear c17
   obtain ⟨y181, hy181⟩ : ∃ y_ : List Int, y_ = (y178 ++ l1) := ⟨_, rfl⟩
   replace H : (impl_matesCode.l0 kj7 y181 (y181.length : Int) 0) = some r := by first | (rw [hy181]; with_reducible exact H) | (have H2_ := (Option.bind_some _ _).symm.trans H; rw [hy181]; with_reducible exact H2_) | (have H2_ := (Option.bind_some _ _).symm.trans H; with_reducible exact H2_) | with_reducible exact H | (rw [hy181]; exact H) | exact H
   have Ny181 := Kp.a hy181
   clear hy181
   have H' := Kp.a H
   clear H
   go_wp2_with (first | ((with_reducible refine gate_builtin (b := .append) (xs := #[.const (.slice none 0 0), .tmp 48]) rfl ?_); (try (refine gate_guard (by rfl) ?_; dsimp only)); at_builtin; refine Kd.R_append_rows (Kd.int .i64) (w0 := w) w.heap.size rfl (.const (.slice none 0 0)) (.tmp 48) 22 3 (.int .i64 0) 8 rfl Try.underlying22 info3 rfl (by decide) (by omega) (.slice none 0 0) ([] : List Int) l0 _ _ _ (fun _ => True) (fun _ => False) rfl rfl ?aO ?aR (fun _ _ h => h) (fun _ h => h.elim) ?aF ?aB ?aS ?aL ?_; (case aR => repeat (first | exact (Kd.C_below HR0.out HB.out) | (with_reducible refine Kd.C_alloc ?_ _) | (with_reducible refine Kd.C_drewN ?_ _) | (with_reducible refine Kd.C_drew ?_))); (case aB => exact (Kp.kpL HB.out)); (case aF => exact (fun _ _ => trivial)); (case aO => exact ((Kd.R_nil _ _ _ _ (fun _ => True)))); (case aS => exact (below_size (Kp.kpL HB.out))); (case aL => have := LMc16.out; omega); intro v179 w18 ho hb hg hat; rw [← Ny178.out] at ho; have n0_ := Kp.a (hb); have n1_ := Kp.a (ho); clear HB; have HB := n0_; have HO180 := n1_; clear n0_ n1_; clear ho hb hg hat) | ((with_reducible refine gate_builtin (b := .append) (xs := #[.tmp 49, .tmp 50]) rfl ?_); (try (refine gate_guard (by rfl) ?_; dsimp only)); at_builtin; refine Kd.R_append_rows (Kd.int .i64) (w0 := w) w.heap.size rfl (.tmp 49) (.tmp 50) 22 3 (.int .i64 0) 8 rfl Try.underlying22 info3 rfl (by decide) (by omega) v179 y178 l1 _ _ _ (fun _ => True) (fun _ => False) rfl rfl ?aO ?aR (fun _ _ h => h) (fun _ h => h.elim) ?aF ?aB ?aS ?aL ?_; (case aR => repeat (first | exact (Kd.C_below HR1.out HB.out) | (with_reducible refine Kd.C_alloc ?_ _) | (with_reducible refine Kd.C_drewN ?_ _) | (with_reducible refine Kd.C_drew ?_))); (case aB => exact (Kp.kpL HB.out)); (case aF => exact (fun _ _ => trivial)); (case aO => exact (Kp.kpR HO180.out)); (case aS => exact (below_size (Kp.kpL HB.out))); (case aL => have := LMc17.out; omega); intro v182 w19 ho hb hg hat; rw [← Ny181.out] at ho; have n0_ := Kp.a (hb); have n1_ := Kp.a (ho); clear HB; clear HO180; have HB := n0_; have HO183 := n1_; clear n0_ n1_; clear ho hb hg hat; obtain ⟨Ao20, co20, eo20⟩ := Kd.R_slice HO183.out; subst eo20))
   go_loopg [53] kj7 (fun kq v53 w' => ∃ (x53_3 : Int), v53 = .int .i64 x53_3 ∧ Aside0 (impl_matesCode.l0 kq y181 (y181.length : Int) x53_3 = some r) ∧ Aside0 (kq ≤ kj7) ∧ Aside0 (Kd.R (Kd.int .i64) 3 w' w.heap.size (fun _ => True) (.slice Ao20 y181.length co20) y181) ∧ Aside0 (Below w.heap.size w w'))
   case atStart => exact ⟨(0), (by first | rfl | (simp; done) | (simp [*]; done)), H', ⟨Nat.le_refl _⟩, ⟨Kp.kpR HO183.out⟩, ⟨Kp.kpL HB.out⟩⟩
   clear H'
   try clear c1
   try clear c2
   try clear p2
   try clear c6
   try clear c6b0
   try clear c6b1
   try clear c7
   try clear c9
   try clear c9b0
   try clear c9b1
   try clear c10
   try clear c10b0
   try clear c10b1
   try clear c11
   try clear c11b0
   try clear c12
   try clear c12b0
   try clear c13
   try clear c13b0
   try clear c14
   try clear c14b0
   try clear c15
   try clear c16
   try clear c17
   try clear c20
   try clear p2
   obtain ⟨x53_3, rfl, HA, HK3, HO_51, HB⟩ := hrel
   cases gk with
   | zero => exact absurd HA.out (by simp [impl_matesCode.l0])
   | succ k3 =>
    have H := HA.out
    clear HA
    simp only [impl_matesCode.l0] at H
    by_cases c21 : x53_3 < (y181.length : Int)
    rotate_left
    ·rw [if_neg c21] at H
     have c21b0 : decide (x53_3 < (y181.length : Int)) = false := decide_eq_false c21
     clear c21
     obtain rfl := Option.some.inj H
     go_wp2
     go_ret
     exact ⟨by first | rfl | (simp [errW_none, errW_some] <;> rfl) | (simp [*, errW_none, errW_some] <;> rfl), Kp.kpL HB.out⟩
    rw [if_pos c21] at H
    have c21b0 : decide (x53_3 < (y181.length : Int)) = true := decide_eq_true c21
    clear c21
    by_cases c22 : 0 ≤ x53_3
    rotate_left
    ·rw [if_neg c22] at H
     exact absurd H (by simp)
    rw [if_pos c22] at H
    have c22b0 : decide (0 ≤ x53_3) = true := decide_eq_true c22
    clear c22
    by_cases c23 : x53_3 < (y181.length : Int)
    rotate_left
    ·rw [if_neg c23] at H
     exact absurd H (by simp)
    rw [if_pos c23] at H
    have c23b0 : decide (x53_3 < (y181.length : Int)) = true := decide_eq_true c23
    clear c23
    by_cases c24 : (rd y181 x53_3) < 0
    ·rw [if_pos c24] at H
     have c24b0 : decide ((rd y181 x53_3) < 0) = true := decide_eq_true c24
     clear c24
     obtain rfl := Option.some.inj H
     have p184 : 0 ≤ (x53_3 : Int) := Kp.d
     have q184 : x53_3 < (y181.length : Int) := Kp.d
     obtain ⟨ad184, e184, hx184_0⟩ := Kd.at_int (Kd.R_reads' HO_51.out).2.2 x53_3 p184 q184
     cases e184
     replace p184 := eq_true p184
     replace q184 := eq_true q184
     go_wp2
     go_ret
     exact ⟨by first | rfl | (simp [errW_none, errW_some] <;> rfl) | (simp [*, errW_none, errW_some] <;> rfl), Kp.kpL HB.out⟩
    rw [if_neg c24] at H
    have c24b0 : decide ((rd y181 x53_3) < 0) = false := decide_eq_false c24
    clear c24
    by_cases c25 : (rd y181 x53_3) > 100000
    ·rw [if_pos c25] at H
     have c25b0 : decide (100000 < (rd y181 x53_3)) = true := decide_eq_true c25
     clear c25
     obtain rfl := Option.some.inj H
     have p184 : 0 ≤ (x53_3 : Int) := Kp.d
     have q184 : x53_3 < (y181.length : Int) := Kp.d
     obtain ⟨ad184, e184, hx184_0⟩ := Kd.at_int (Kd.R_reads' HO_51.out).2.2 x53_3 p184 q184
     cases e184
     replace p184 := eq_true p184
     replace q184 := eq_true q184
     go_wp2
     go_ret
     exact ⟨by first | rfl | (simp [errW_none, errW_some] <;> rfl) | (simp [*, errW_none, errW_some] <;> rfl), Kp.kpL HB.out⟩
    rw [if_neg c25] at H
    have c25b0 : decide (100000 < (rd y181 x53_3)) = false := decide_eq_false c25
    clear c25
    have H' := Kp.a H
    clear H
    have p184 : 0 ≤ (x53_3 : Int) := Kp.d
    have q184 : x53_3 < (y181.length : Int) := Kp.d
    obtain ⟨ad184, e184, hx184_0⟩ := Kd.at_int (Kd.R_reads' HO_51.out).2.2 x53_3 p184 q184
    cases e184
    replace p184 := eq_true p184
    replace q184 := eq_true q184
    go_wp2
    go_roundg k3
    case measure => have := HJ4.out; have := HJ7.out; have := HK3.out; omega
    case rel => exact ⟨(wrap64 (x53_3 + 1)), (by first | rfl | (simp; done) | (simp [*]; done)), H', ⟨by have := HJ4.out; have := HJ7.out; have := HK3.out; omega⟩, ⟨Kp.kpR HO_51.out⟩, ⟨Kp.kpL HB.out⟩⟩
def impl_bySize.f (l0 : List Int) : Option (List Int) := if l0.length ≤ 1048576 then some (BySize.bySizeP l0) else none
structure BS (w wr : World) (S B : Nat) (A0 : Option Addr) (n c0 : Nat) (v : Value) (xs : List Int) : Prop where
 eS : S = w.heap.size
 bel : Below w.heap.size w wr
 bl : wr.heap[S]? = some (.cells #[.slice A0 n c0] 22 (0, 0))
 ba : wr.heap[B]? = some (.cells #[v] 22 (0, 0))
 row : Kd.R (Kd.int .i64) 3 wr S (fun k => k ≠ S ∧ k ≠ B) v xs
theorem BS.put {w wr : World} {S B : Nat} {A0 : Option Addr} {n c0 g cap : Nat} {xs : List Int} (h : BS w wr S B A0 n c0 (.slice (some ⟨g, 0, none⟩) n cap) xs) (i : Nat) (x : Int) :
  BS w (wr.setCell ⟨g, i, none⟩ (.int .i64 x)) S B A0 n c0 (.slice (some ⟨g, 0, none⟩) n cap) (xs.set i x) := by
 have hg := h.row.1 g rfl
 have hb := Kd.R_base h.row g rfl
 have hp := (Kd.R_putg h.row (i : Int) x).1
 rw [Int.toNat_natCast] at hp
 exact ⟨h.eS, below_set h.bel (h.eS ▸ hb), (Below.heap_setCell wr ⟨g, i, none⟩ _ S (fun e => hg.1 e.symm)).trans h.bl, (Below.heap_setCell wr ⟨g, i, none⟩ _ B (fun e => hg.2 e.symm)).trans h.ba, hp⟩
def encN (n x : Nat) : Value := .int .i64 ((x % n : Nat) : Int)
theorem holds_of_N {W : World} {base : Nat} {ok : Nat → Prop} {g c n : Nat} {l : List Int} (hl : l.length = n) (ho : Kd.R (Kd.int .i64) 3 W base ok (.slice (some ⟨g, 0, none⟩) n c) ((Array.range n).toList.map (BySize.num l))) :
  Sort.Holds (encN n) W g 0 (Array.range n) ∧ (0 < n → g < W.heap.size) := by
 subst hl
 refine ⟨fun j hj => ?_, fun _ => Kd.R_lt ho g rfl⟩
 have hj' : j < l.length := by simpa using hj
 obtain ⟨h1, h2⟩ := Kd.R_celln 0 ho (j : Int) (by omega) (by omega)
 rw [Int.toNat_natCast] at h1 h2
 rw [Nat.zero_add]
 refine ⟨h1.trans ?_, h2⟩
 simp [rdOf, encN, BySize.num, hj', Nat.mod_eq_of_lt hj']
theorem sw_block {n : Nat} {W : World} {g m : Nat} {dk : Array Nat} {os : Array Obj} {cur : Array Value} {e : TypeId} {fr : Nat × Nat} (h : W.heap[g]? = some (.cells cur e fr)) :
  (Sort.grow (Sort.putRow (encN n) (Sort.ahead W m) g 0 dk) os).heap[g]? = some (.cells (Sort.putCells (encN n) 0 dk cur) e fr) := by
 have hb := blk_lt h
 rw [Sort.heap_grow_old _ _ (by rw [Sort.size_putRow]; exact hb)]
 unfold Sort.putRow Sort.mapBlock
 simp only [Array.getElem?_modify, if_true, Sort.heap_ahead, h, Option.map_some, Sort.onCells]
theorem sw_other {n : Nat} {W : World} {g m : Nat} {dk : Array Nat} {os : Array Obj} {k : Nat} (hk : k < W.heap.size) (hne : k ≠ g) : (Sort.grow (Sort.putRow (encN n) (Sort.ahead W m) g 0 dk) os).heap[k]? = W.heap[k]? := by
 rw [Sort.heap_grow_old _ _ (by rw [Sort.size_putRow]; exact hk)]
 unfold Sort.putRow Sort.mapBlock
 simp only [Array.getElem?_modify, if_neg (Ne.symm hne), Sort.heap_ahead]
theorem sw_grown {n : Nat} {W : World} {g m : Nat} {dk : Array Nat} {os : Array Obj} : W.grownBy (Sort.grow (Sort.putRow (encN n) (Sort.ahead W m) g 0 dk) os) (some g) :=
 ⟨rfl, rfl, rfl, by rw [Sort.size_grow, Sort.size_putRow]; exact Nat.le_add_right _ _, fun k hk hne => sw_other hk (fun h => hne (by rw [h]))⟩
theorem R_sortedN {W : World} {base : Nat} {ok : Nat → Prop} {g c n m : Nat} {l : List Int} {os : Array Obj} (hl : l.length = n) (hn : 0 < n) (ho : Kd.R (Kd.int .i64) 3 W base ok (.slice (some ⟨g, 0, none⟩) n c) ((Array.range n).toList.map (BySize.num l)))
  (d' : Array Nat) (hd : d'.size = n) : Kd.R (Kd.int .i64) 3 (Sort.grow (Sort.putRow (encN n) (Sort.ahead W m) g 0 d') os) base ok (.slice (some ⟨g, 0, none⟩) n c) (d'.toList.map (BySize.num l)) := by
 obtain ⟨h0, inner, ⟨hlen, hown⟩, hr⟩ := ho
 have hlen0 : ((Array.range n).toList.map (BySize.num l)).length = n := by simp
 rw [hlen0] at hlen hown
 rcases hown with ⟨h1, h2⟩ | ⟨g', cap, cur, hv, hb, hh, hc1, hc2, hc3, hc4⟩
 ·simp at h1
 injection hv with hv1 hv2 hv3
 injection hv1 with hv1
 injection hv1 with hv1
 subst hv1 hv3
 have hsz : (Kd.int .i64).sz = 1 := rfl
 rw [hsz] at hc3 hc4 hlen
 have hb2 := sw_block (n := n) (m := m) (dk := d') (os := os) hh
 have hdl : (d'.toList.map (BySize.num l)).length = n := by simpa using hd
 have hcl : (d'.toList.map (encN n)).length = n := by simpa using hd
 refine ⟨h0, d'.toList.map (encN n), ⟨?_, .inr ⟨g, c, _, ?_, hb, hb2, ?_, hc2, ?_, ?_⟩⟩, ?_⟩
 ·rw [hcl, hdl, hsz, Nat.mul_one]
 ·rw [hdl]
 ·rw [hdl]; exact hc1
 ·rw [hsz]; simp [Sort.putCells, hc3]
 ·rw [hsz, hdl]
  apply List.ext_getElem?
  intro j
  by_cases hj : j < n
  rotate_left
  ·rw [List.getElem?_eq_none (by rw [List.length_take]; omega), List.getElem?_eq_none (by omega)]
  have hcs : n ≤ cur.size := by rw [hc3]; omega
  rw [List.getElem?_take_of_lt (by omega)]
  have e1 : j < d'.size := by omega
  simp [Sort.putCells, e1, show j < cur.size by omega]
 refine ⟨by rw [hcl, hdl]; show n = n * 1; omega, fun j p hj => ?_⟩
 have hj' : j < n := by rw [← hdl]; exact (List.getElem?_eq_some_iff.1 hj).1
 rw [List.getElem?_map] at hj
 have e1 : j < d'.size := by omega
 simp only [Array.getElem?_toList, Array.getElem?_eq_getElem e1, Option.map_some, Option.some.injEq] at hj
 show (((d'.toList.map (encN n)).drop (j * 1)).take 1) = [Value.int .i64 p]
 rw [Nat.mul_one, List.drop_eq_getElem_cons (by omega), List.take_succ_cons, List.take_zero]
 simp [encN, ← hj, BySize.num, hl]
set_option maxHeartbeats 2000000 in
set_option maxRecDepth 100000 in
theorem bs_less (W : World) (S B g n c c0 : Nat) (A0 : Option Addr) (ad : Addr) (hA : A0 = some ad) (G : Nat → Nat) (L : Nat → Int) (hS : W.cell? ⟨S, 0, none⟩ = some (.slice A0 n c0)) (hB : W.cell? ⟨B, 0, none⟩ = some (.slice (some ⟨g, 0, none⟩) n c))
  (hG : ∀ t, t < n → G t < n) (hrow : ∀ t, t < n → W.cell? ⟨g, t, none⟩ = some (.int .i64 (G t : Nat))) (hL : ∀ t, t < n → W.cell? (ad.add t) = some (.int .i64 (L t))) (i j : Nat) (hi : i < n) (hj : j < n) (hn : n ≤ 1048576) :
  Calls Try.prog 29 #[.int .i64 i, .int .i64 j, .pointer (some ⟨S, 0, none⟩), .pointer (some ⟨B, 0, none⟩)] W fun e w' => e = .returned (.bool (decide (L (G i) < L (G j)))) ∧ ∃ q, w' = W.drewN q := by
 subst hA
 have ri := hrow i hi
 have rj := hrow j hj
 have gi := hG i hi
 have gj := hG j hj
 have li := hL (G i) gi
 have lj := hL (G j) gj
 generalize hx : L (G i) = x at *
 generalize hy : L (G j) = y at *
 generalize G i = p at *
 generalize G j = q at *
 clear hrow hG hL hx hy
 go_enter Try.func29, Try.ntmps29
 go_wp2
 go_quiet (fail)
 go_wp2
 go_ret
 exact ⟨rfl, nq, rfl⟩
noncomputable def bsT : TypeInfo := (Try.prog.info? 22).get (by kernel_rfl)
noncomputable def bsE : TypeInfo := (Try.prog.info? 3).get (by kernel_rfl)
theorem bsK (n : Nat) (h2 : 2 ≤ n) : Lib.swapperK n bsE 2 = 5 := by
 have a : bsE.hasPointers = false := by kernel_rfl
 have b : bsE.bytes = 8 := by kernel_rfl
 have c : (n == 0) = false := by simp; omega
 have d : (n == 1) = false := by simp; omega
 simp [Lib.swapperK, a, b, c, d]
theorem bs_sort (w W : World) (S B g c c0 : Nat) (A0 : Option Addr) (l : List Int) (n : Nat) (hl : l.length = n) (h2 : 2 ≤ n) (hn : n ≤ 1048576) (hC : Kd.C (Kd.int .i64) w A0 n l) (H : BS w W S B A0 n c0 (.slice (some ⟨g, 0, none⟩) n c) ((Array.range n).toList.map (BySize.num l))) :
  Calls Try.prog 28 #[.iface 22 (.slice (some ⟨g, 0, none⟩) n c), .func (.func 29) #[] #[.pointer (some ⟨S, 0, none⟩), .pointer (some ⟨B, 0, none⟩)]] W fun e w' =>
   e = .returned (.tuple #[]) ∧ BS w w' S B A0 n c0 (.slice (some ⟨g, 0, none⟩) n c) (BySize.bySizeP l) := by
 obtain ⟨hH, hg'⟩ := holds_of_N hl H.row
 have hg := hg' (by omega)
 obtain ⟨gS, gB⟩ := H.row.1 g rfl
 have hgb := Kd.R_base H.row g rfl
 obtain ⟨ad, eA, _⟩ := Kd.at_int hC 0 (by omega) (by omega)
 have hL : ∀ t, t < n → w.cell? (ad.add t) = some (.int .i64 (l.getD t 0)) := fun t ht => by
  obtain ⟨ad', e', hc⟩ := Kd.at_int hC (t : Int) (by omega) (by omega)
  rw [eA] at e'; injection e' with e'; subst e'
  rw [Int.toNat_natCast] at hc
  rw [hc]; simp [rd]
 have hz : (Array.range n).size = n := by simp
 have hless : LessReads Try.prog 29 #[.pointer (some ⟨S, 0, none⟩), .pointer (some ⟨B, 0, none⟩)] (encN n) (BySize.ltK l) g 0 (Array.range n).size W := by
  rw [hz]
  intro m os dk hk i j hi hj
  have ec : ∀ a : Addr, a.block ≠ g → a.block < W.heap.size → (sortWorld (encN n) W g 0 m dk os).cell? a = W.cell? a := fun a h1 h3 => Sym.cell_sw (encN n) W g 0 m dk os a h1 h3
  have hh : Sort.Holds (encN n) (sortWorld (encN n) W g 0 m dk os) g 0 dk := holds_sortWorld (encN n) W g 0 m (Array.range n) dk os hg hH (by rw [hk, hz])
  refine (bs_less (sortWorld (encN n) W g 0 m dk os) S B g n c c0 A0 ad eA (fun t => dk[t]! % n) (fun t => l.getD t 0) ?_ ?_ ?_ ?_ ?_ i j hi hj hn).mono ?_
  ·rw [ec _ (fun e => gS e.symm) (blk_lt H.bl)]; exact blk_cell H.bl 0
  ·rw [ec _ (fun e => gB e.symm) (blk_lt H.ba)]; exact blk_cell H.ba 0
  ·intro t ht; exact Nat.mod_lt _ (by omega)
  ·intro t ht
   have := (hh t (by omega)).1
   rw [Nat.zero_add] at this
   exact this
  ·intro t ht
   have h1 := hL t ht
   have hb := World.block_lt_of_cell? w _ h1
   have hbS : (ad.add t).block < S := by rw [H.eS]; exact hb
   rw [ec _ (by omega) (by have := blk_lt H.bl; omega), H.bel.cell hb]
   exact h1
  rintro e w' ⟨rfl, q, rfl⟩
  refine ⟨?_, q, rfl⟩
  simp only [BySize.ltK, BySize.key, hl]
 have hs := Sym.SliceStable_w Try.sv8 22 3 bsT bsE (by kernel_rfl) (by kernel_rfl) (by kernel_rfl) (by kernel_rfl) 2 (fun _ => by kernel_rfl) (by kernel_rfl) (fun _ => by kernel_rfl) (encN n) (fun _ => rfl) (BySize.ltK l) 29 #[.pointer (some ⟨S, 0, none⟩), .pointer (some ⟨B, 0, none⟩)]
  (enters_of Try.func29 (by kernel_rfl) rfl) g 0 c (Array.range n) (by omega) (by omega) 44 (by rw [hz, bsK _ h2]; kernel_rfl) true
  (fun args W => run_callFunc_extern Try.func44 (by kernel_rfl) (by kernel_rfl) (by kernel_rfl) (e := Extern.ReflectliteSwapper.swap true) (by kernel_rfl) args W) W hless hH hg
 rw [hz] at hs
 have hs' : Calls Try.prog 28 #[.iface 22 (.slice (some ⟨g, 0, none⟩) n c), .func (.func 29) #[] #[.pointer (some ⟨S, 0, none⟩), .pointer (some ⟨B, 0, none⟩)]] W _ := hs
 refine hs'.mono ?_
 rintro e w' ⟨rfl, m, os, rfl⟩
 refine ⟨rfl, H.eS, H.bel.grown sw_grown (by have := blk_lt H.bl; have := H.eS; omega) (fun k hk => by injection hk with hk; have := H.eS; omega), (sw_other (blk_lt H.bl) (fun e => gS e.symm)).trans H.bl, (sw_other (blk_lt H.ba) (fun e => gB e.symm)).trans H.ba, ?_⟩
 have hd : (Sym.stable (BySize.ltK l) (Array.range n)).size = n := by rw [Sym.size_stable, hz]
 have := R_sortedN (m := m) (os := os) hl (by omega) H.row (Sym.stable (BySize.ltK l) (Array.range n)) hd
 rw [BySize.bySizeP, hl]
 exact this
theorem bs_tiny (w W : World) (S B c0 : Nat) (A0 : Option Addr) (l : List Int) (n : Nat) (hl : l.length = n) (h2 : n ≤ 1) (Aq : Option Addr) (cq : Nat) (H : BS w W S B A0 n c0 (.slice Aq n cq) ((Array.range n).toList.map (BySize.num l))) :
  Calls Try.prog 28 #[.iface 22 (.slice Aq n cq), .func (.func 29) #[] #[.pointer (some ⟨S, 0, none⟩), .pointer (some ⟨B, 0, none⟩)]] W fun e w' =>
   e = .returned (.tuple #[]) ∧ BS w w' S B A0 n c0 (.slice Aq n cq) (BySize.bySizeP l) := by
 have hk : Lib.swapperK n bsE 2 = 1 ∨ Lib.swapperK n bsE 2 = 2 := by
  have : n = 0 ∨ n = 1 := by omega
  rcases this with rfl | rfl
  ·left; simp [Lib.swapperK]
  right; simp [Lib.swapperK]
 obtain ⟨f, hf⟩ : ∃ f, Try.prog.funcs.findIdx? (·.name == "internal/reflectlite" ++ ".Swapper$" ++ toString (Lib.swapperK n bsE 2)) = some f := by
  rcases hk with h | h
  ·exact ⟨40, by rw [h]; kernel_rfl⟩
  exact ⟨41, by rw [h]; kernel_rfl⟩
 have hs := Any.sort_SliceStable_tiny Try.sv8 22 3 bsT bsE (by kernel_rfl) (by kernel_rfl) (by kernel_rfl) (by kernel_rfl) 2 (fun _ => by kernel_rfl) Aq n cq h2 f hf (.func 29) #[] #[.pointer (some ⟨S, 0, none⟩), .pointer (some ⟨B, 0, none⟩)] W
 have hs' : Calls Try.prog 28 #[.iface 22 (.slice Aq n cq), .func (.func 29) #[] #[.pointer (some ⟨S, 0, none⟩), .pointer (some ⟨B, 0, none⟩)]] W _ := hs
 refine hs'.mono ?_
 rintro e w' ⟨rfl, os, rfl⟩
 have hb : Below W.heap.size W (Sort.grow W os) := ⟨rfl, rfl, rfl, by rw [Sort.size_grow]; omega, fun k hk => Sort.heap_grow_old W os hk⟩
 have he : Sym.stable (BySize.ltK l) (Array.range n) = Array.range n := Sym.stable_tiny _ _ (by simpa using h2)
 refine ⟨rfl, H.eS, H.bel.trans (hb.mono (by have := blk_lt H.bl; have := H.eS; omega)), (Sort.heap_grow_old W os (blk_lt H.bl)).trans H.bl, (Sort.heap_grow_old W os (blk_lt H.ba)).trans H.ba, ?_⟩
 rw [BySize.bySizeP, hl, he]
 exact Kd.R_below H.row hb
theorem bs_new (w : World) (o : Obj) : (w.alloc o).heap[w.heap.size]? = some o := by
 show (w.heap.push o)[w.heap.size]? = some o
 simp
set_option maxHeartbeats 8000000 in
set_option maxRecDepth 100000 in
theorem impl_bySize.calls (A0 : Option Addr) (c0 : Nat) (l0 : List Int) (r : List Int) (w : World) (hr0 : Kd.C (Kd.int .i64) w A0 l0.length l0) (hc0 : l0.length ≤ c0) (h : impl_bySize.f l0 = some r) :
  Calls Try.prog 21 #[.slice A0 l0.length c0] w fun e w' => ∃ v0_ : Value, e = .returned (v0_) ∧ Kd.R (Kd.int .i64) 3 w' w.heap.size (fun _ => True) v0_ r ∧ Below w.heap.size w w' := by
 have hl : l0.length ≤ 1048576 := by
  unfold impl_bySize.f at h; split at h
  ·assumption
  exact absurd h (by simp)
 have hr : r = BySize.bySizeP l0 := by
  unfold impl_bySize.f at h; rw [if_pos hl] at h; exact (Option.some.inj h).symm
 obtain ⟨n, hn⟩ : ∃ n, l0.length = n := ⟨_, rfl⟩
 rw [hn] at hr0 hc0 hl ⊢
 have HR := Lib.hid hr
 have HC := Lib.hid hr0
 have HN := Lib.hid hn
 clear hr h hr0 hn
 go_enter Try.func21, Try.ntmps21
 have h00 : (0 : Int) ≤ (n : Int) := by omega
 go_wp2_with (first | ((with_reducible refine gate_dst (N := 7) rfl ?_); refine Kd.R_make (Kd.int .i64) _ 3 rfl (N := 7) rfl 22 _ _ rfl (n : Int) rfl rfl Try.underlying22 (.int .i64 0) 8 info3 rfl (by decide) (by omega) 0 (ok := fun k => k ≠ w.heap.size) (okp := fun _ => False) rfl (fun _ hk => hk.elim) (by simp) h00 (by omega) (Below.refl _ _) (Nat.le_refl _) ?_; intro v4 w4 ho5 hb5 hg5 hn5; obtain ⟨Aq, cq, e4⟩ : ∃ Aq cq, v4 = .slice Aq n cq := (by obtain ⟨Aq, cq, e⟩ := Kd.R_slice ho5; exact ⟨Aq, cq, by simpa using e⟩); subst e4; have HO := Lib.hid ho5; have HB := Lib.hid hb5; clear ho5 hb5 hg5 hn5))
 have hB0 : Below w.heap.size w w4 := ((Below.refl _ _).alloc (Nat.le_refl _) _).trans (HB.out.mono (by simp))
 have hsz4 : w.heap.size < w4.heap.size := by have := HB.out.size; simp at this; omega
 have hS4 : w4.heap[w.heap.size]? = some (.cells #[.slice A0 n c0] 22 (0, 0)) := by
  rw [HB.out.block w.heap.size (by simp)]; exact bs_new _ _
 have hbs : BS w (w4.alloc (.cells #[.slice Aq n cq] 22)) w.heap.size w4.heap.size A0 n c0 (.slice Aq n cq) (BySize.initL n 0) := by
  refine ⟨rfl, hB0.alloc (by omega) _, blk_alloc hS4 _, bs_new _ _, ?_⟩
  have h1 := HO.out
  rw [Int.toNat_natCast, ← BySize.initL_zero] at h1
  have h2 := Kd.R_lower (base' := w.heap.size) h1 (by simp)
  have h3 : Kd.R (Kd.int .i64) 3 w4 w.heap.size (fun k => k ≠ w.heap.size ∧ k ≠ w4.heap.size) (.slice Aq n cq) (BySize.initL n 0) :=
   Kd.R_mono (Kd.R_bound h2) (fun k hk => ⟨hk.1, by have := hk.2.2.1; omega⟩)
  exact Kd.R_below h3 ((Below.refl _ _).alloc (Nat.le_refl _) _)
 obtain ⟨B, hBe⟩ : ∃ B, B = w4.heap.size := ⟨_, rfl⟩
 obtain ⟨W1, hW1⟩ : ∃ W1, W1 = w4.alloc (.cells #[.slice Aq n cq] 22) := ⟨_, rfl⟩
 rw [← hW1] at hbs ⊢
 rw [← hBe] at hbs ⊢
 clear hW1 hBe hsz4 hS4 hB0 HO HB
 go_loopg [10] n (fun k s10 wr => ∃ i : Nat, s10 = .int .i64 i ∧ i ≤ n ∧ n - i ≤ k ∧ BS w wr w.heap.size B A0 n c0 (.slice Aq n cq) (BySize.initL n i))
 case atStart => exact ⟨0, rfl, by omega, by omega, hbs⟩
 clear hbs
 obtain ⟨i, rfl, hi, hk, H⟩ := hrel
 have qB := blk_cell H.ba 0
 by_cases hlt : i < n
 ·obtain ⟨g, cap, e, hb, hgl, _⟩ := Kd.R_form H.row (by rw [BySize.initL_len]; omega)
  rw [BySize.initL_len] at e
  injection e with e1 _ e3
  subst e1 e3
  obtain ⟨x1, x2⟩ := Kd.R_celln 0 H.row (i : Int) (by omega) (by omega)
  rw [Int.toNat_natCast] at x1 x2
  have H2 := H.put i (i : Int)
  rw [BySize.initL_set n i hlt] at H2
  have hlt2 : (i : Int) < (n : Int) := by omega
  have hnn : n ≤ 1048576 := hl
  clear H hb hgl
  go_wp2
  go_roundg (n - (i + 1))
  case measure => omega
  case rel => exact ⟨i + 1, by go_num, hlt, Nat.le_refl _, H2⟩
 obtain rfl : i = n := by omega
 have H1 : BS w wr w.heap.size B A0 i c0 (.slice Aq i cq) ((Array.range i).toList.map (BySize.num l0)) := by
  have := H; rw [← HN.out, BySize.initL_all] at this; rw [← HN.out]; exact this
 have hs : Calls Try.prog 28 #[.iface 22 (.slice Aq i cq), .func (.func 29) #[] #[.pointer (some ⟨w.heap.size, 0, none⟩), .pointer (some ⟨B, 0, none⟩)]] wr fun e w' =>
   e = .returned (.tuple #[]) ∧ BS w w' w.heap.size B A0 i c0 (.slice Aq i cq) (BySize.bySizeP l0) := by
  by_cases h2 : 2 ≤ i
  rotate_left
  ·exact bs_tiny w wr w.heap.size B c0 A0 l0 i HN.out (by omega) Aq cq H1
  obtain ⟨g, cap, e, _⟩ := Kd.R_form H.row (by rw [BySize.initL_len]; omega)
  rw [BySize.initL_len] at e
  injection e with e1 _ e3
  subst e1 e3
  exact bs_sort w wr w.heap.size B g cq c0 A0 l0 i HN.out h2 hl HC.out H1
 clear H H1
 go_wp2_with (go_at_call 28; refine hs.mono ?_; rintro e w2 ⟨rfl, H3⟩; have q3 := blk_cell H3.ba 0)
 go_ret
 refine ⟨_, rfl, ?_, H3.bel⟩
 rw [HR.out]
 exact Kd.R_mono H3.row (fun _ _ => trivial)
end Go.Proofs.Ytkijhilmgljegaa.PT


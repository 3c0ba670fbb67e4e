import Derived.Test.YtkijhilmgljegaaQTT0
import Derived.Test.YtkijhilmgljegaaVTk
namespace Go.Proofs.Ytkijhilmgljegaa.PT
open Go.RowKit Go.Proofs.YtkijhilmgljegaaW.PrintWords Go.Proofs.YtkijhilmgljegaaW.PrintLast Go.Proofs.YtkijhilmgljegaaW.PrintMore
attribute [local go_sem] max2_int min2_int max_two min_two max_three min_three max_four min_four
set_option linter.unusedVariables false
set_option linter.unusedSimpArgs false
def spec_l07Size.f (a0 : Int) : Option (Bool) := if a0 ≥ 0 then (some (decide (a0 ≤ 100000))) else (some false)
set_option maxHeartbeats 8000000 in
set_option maxRecDepth 100000 in
theorem spec_l07Size.calls (a0 : Int) (r : Bool) (w : World) (h : spec_l07Size.f a0 = some r) :
  Calls Try.prog 33 #[.int .i64 a0] w fun e w' => e = .returned (.bool r) ∧ Drawn0 w w' := by
 have H : (if a0 ≥ 0 then (some (decide (a0 ≤ 100000))) else (some false)) = some r := h
 clear h
 by_cases c2 : a0 ≥ 0
 ·rw [if_pos c2] at H
  have c2b0 : decide (0 ≤ a0) = true := decide_eq_true c2
  clear c2
  obtain rfl := Option.some.inj H
  go_enter Try.func33, Try.ntmps33
  go_wp2
  go_ret
  exact ⟨by first | rfl | (simp; done) | (simp [*]; done), by repeat (first | exact Drawn0.refl _ | apply Drawn0.step)⟩
 rw [if_neg c2] at H
 have c2b0 : decide (0 ≤ a0) = false := decide_eq_false c2
 clear c2
 obtain rfl := Option.some.inj H
 go_enter Try.func33, Try.ntmps33
 go_wp2
 go_ret
 exact ⟨by first | rfl | (simp; done) | (simp [*]; done), by repeat (first | exact Drawn0.refl _ | apply Drawn0.step)⟩
def spec_l08Sizes.l0 : Nat → List Int → Int → Option (Bool)
 | 0, _, _ => none
 | k + 1, x0, x3 => if x3 < (x0.length : Int) then (if 0 ≤ x3 then ((spec_l07Size.f (rd x0 x3)).bind fun t102 => (if t102 = true then (spec_l08Sizes.l0 k x0 (wrap64 (x3 + 1))) else (some false))) else (none)) else (some true)
def spec_l08Sizes.f (k : Nat) (l0 : List Int) : Option (Bool) := if (l0.length : Int) > 200 then (some false) else (spec_l08Sizes.l0 k l0 0)
set_option maxHeartbeats 8000000 in
set_option maxRecDepth 100000 in
theorem spec_l08Sizes.calls (k : Nat) (A0 : Option Addr) (c0 : Nat) (l0 : List Int) (r : Bool) (w : World) (hr0 : Kd.C (Kd.int .i64) w A0 l0.length l0) (hc0 : l0.length ≤ c0) (h : spec_l08Sizes.f k l0 = some r) :
  Calls Try.prog 27 #[.slice A0 l0.length c0] w fun e w' => e = .returned (.bool r) ∧ Drawn0 w w' := by
 have HR0 := Kp.a hr0
 have HC0 := Kp.a hc0
 clear hr0 hc0
 have H : (if (l0.length : Int) > 200 then (some false) else (spec_l08Sizes.l0 k l0 0)) = some r := h
 clear h
 by_cases c2 : (l0.length : Int) > 200
 ·rw [if_pos c2] at H
  have c2b0 : decide (200 < (l0.length : Int)) = true := decide_eq_true c2
  have c2b1 : decide (200 < l0.length) = true := decide_eq_true (by omega)
  clear c2
  obtain rfl := Option.some.inj H
  go_enter Try.func27, Try.ntmps27
  go_wp2
  go_ret
  exact ⟨by first | rfl | (simp; done) | (simp [*]; done), by repeat (first | exact Drawn0.refl _ | apply Drawn0.step)⟩
 rw [if_neg c2] at H
 have c2b0 : decide (200 < (l0.length : Int)) = false := decide_eq_false c2
 have c2b1 : decide (200 < l0.length) = false := decide_eq_false (by omega)
 clear c2
 have H' := Kp.a H
 clear H
 go_enter Try.func27, Try.ntmps27
 go_wp2
 go_loopg [3] k (fun kq v3 w' => ∃ (x3_1 : Int), v3 = .int .i64 x3_1 ∧ Aside0 (spec_l08Sizes.l0 kq l0 x3_1 = some r) ∧ Aside0 (kq ≤ k) ∧ Drawn0 w w')
 case atStart => exact ⟨(0), (by first | rfl | (simp; done) | (simp [*]; done)), H', ⟨Nat.le_refl _⟩, by repeat (first | exact Drawn0.refl _ | apply Drawn0.step)⟩
 clear H'
 try clear c2
 try clear c2b0
 try clear c2b1
 try clear p2
 obtain ⟨x3_1, rfl, HA, HK1, ⟨m1, rfl⟩⟩ := hrel
 cases gk with
 | zero => exact absurd HA.out (by simp [spec_l08Sizes.l0])
 | succ k1 =>
  have H := HA.out
  clear HA
  simp only [spec_l08Sizes.l0] at H
  by_cases c3 : x3_1 < (l0.length : Int)
  rotate_left
  ·rw [if_neg c3] at H
   have c3b0 : decide (x3_1 < (l0.length : Int)) = false := decide_eq_false c3
   clear c3
   obtain rfl := Option.some.inj H
   go_wp2
   go_ret
   exact ⟨by first | rfl | (simp; done) | (simp [*]; done), by repeat (first | exact Drawn0.refl _ | apply Drawn0.step)⟩
  rw [if_pos c3] at H
  have c3b0 : decide (x3_1 < (l0.length : Int)) = true := decide_eq_true c3
  clear c3
  by_cases c4 : 0 ≤ x3_1
  rotate_left
  ·rw [if_neg c4] at H
   exact absurd H (by simp)
  rw [if_pos c4] at H
  have c4b0 : decide (0 ≤ x3_1) = true := decide_eq_true c4
  clear c4
  replace H := Option.bind_eq_some_iff.mp H
  obtain ⟨t102, A50, H⟩ := H
  replace H : (if t102 = true then (spec_l08Sizes.l0 k1 l0 (wrap64 (x3_1 + 1))) else (some false)) = some r := H
  have A5 := Kp.a A50
  clear A50
  by_cases c6 : t102 = true
  ·subst c6
   have H1 : (spec_l08Sizes.l0 k1 l0 (wrap64 (x3_1 + 1))) = some r := by rw [if_pos rfl] at H; exact H
   clear H
   have H := H1
   clear H1
   have H' := Kp.a H
   clear H
   have p101 : 0 ≤ (x3_1 : Int) := Kp.d
   have q101 : x3_1 < (l0.length : Int) := Kp.d
   obtain ⟨ad101, e101, hx101_0⟩ := Kd.at_int HR0.out x3_1 p101 q101
   cases e101
   replace p101 := eq_true p101
   replace q101 := eq_true q101
   go_wp2_with (first | ((with_reducible refine gate_callee (f := 33) rfl ?_); refine goesL_ (some 17) rfl rfl Try.func33 (by kernel_rfl) rfl #[.int .i64 (rd l0 x3_1)] rfl (by (try simp only [List.map_toArray, List.map_cons, List.map_nil]); first | done | rfl | (simp only [List.length_drop, List.length_take]; rfl)) ?_; (with_reducible refine (spec_l07Size.calls (rd l0 x3_1) true _ A5.out).mono ?_); rintro e w' ⟨rfl, ⟨nd, rfl⟩⟩; refine ⟨_, rfl, ?_⟩))
   go_roundg k1
   case measure => have := HK1.out; omega
   case rel => exact ⟨(wrap64 (x3_1 + 1)), (by first | rfl | (simp; done) | (simp [*]; done)), H', ⟨by have := HK1.out; omega⟩, by repeat (first | exact Drawn0.refl _ | apply Drawn0.step)⟩
  replace c6 := Bool.eq_false_iff.mpr c6
  subst c6
  have H1 : (some false) = some r := by rw [if_neg (show ¬ (false = true) by decide)] at H; exact H
  clear H
  have H := H1
  clear H1
  obtain rfl := Option.some.inj H
  have p101 : 0 ≤ (x3_1 : Int) := Kp.d
  have q101 : x3_1 < (l0.length : Int) := Kp.d
  obtain ⟨ad101, e101, hx101_0⟩ := Kd.at_int HR0.out x3_1 p101 q101
  cases e101
  replace p101 := eq_true p101
  replace q101 := eq_true q101
  go_wp2_with (first | ((with_reducible refine gate_callee (f := 33) rfl ?_); refine goesL_ (some 17) rfl rfl Try.func33 (by kernel_rfl) rfl #[.int .i64 (rd l0 x3_1)] rfl (by (try simp only [List.map_toArray, List.map_cons, List.map_nil]); first | done | rfl | (simp only [List.length_drop, List.length_take]; rfl)) ?_; (with_reducible refine (spec_l07Size.calls (rd l0 x3_1) false _ A5.out).mono ?_); rintro e w' ⟨rfl, ⟨nd, rfl⟩⟩; refine ⟨_, rfl, ?_⟩))
  go_ret
  exact ⟨by first | rfl | (simp; done) | (simp [*]; done), by repeat (first | exact Drawn0.refl _ | apply Drawn0.step)⟩
def spec_l08Code.j0 : Nat → List Int → List Int → Int → Int → Bool → Option (Int)
 | 0, _, _, _, _, _ => none
 | k + 1, x0, x1, x2, x3, x16 => if x16 = true then (some 2) else ((spec_l08Sizes.f k x0).bind fun t103 => (if t103 = true then ((spec_l08Sizes.f k x1).bind fun t104 => (if t104 = true then (if x2 < (-100000) then (some 1) else (if x2 > 100000 then (some 1) else (if x3 < (-100000) then (some 1) else (if x3 > 100000 then (some 1) else (if x2 > x3 then (some 1) else (some 0)))))) else (some 1))) else (some 1)))
def spec_l08Code.f (k : Nat) (l0 : List Int) (l1 : List Int) (a2 : Int) (a3 : Int) : Option (Int) := if (l0.length : Int) > 4096 then (spec_l08Code.j0 k l0 l1 a2 a3 true) else (spec_l08Code.j0 k l0 l1 a2 a3 (decide ((l1.length : Int) > 4096)))
set_option maxHeartbeats 8000000 in
set_option maxRecDepth 100000 in
theorem spec_l08Code.calls (k : Nat) (A0 : Option Addr) (c0 : Nat) (l0 : List Int) (A1 : Option Addr) (c1 : Nat) (l1 : List Int) (a2 : Int) (a3 : Int) (r : Int) (w : World) (hr0 : Kd.C (Kd.int .i64) w A0 l0.length l0) (hc0 : l0.length ≤ c0) (hr1 : Kd.C (Kd.int .i64) w A1 l1.length l1) (hc1 : l1.length ≤ c1) (h : spec_l08Code.f k l0 l1 a2 a3 = some r) :
  Calls Try.prog 18 #[.slice A0 l0.length c0, .slice A1 l1.length c1, .int .i64 a2, .int .i64 a3] w fun e w' => e = .returned (.int .i64 r) ∧ Drawn0 w w' := by
 have HR0 := Kp.a hr0
 have HC0 := Kp.a hc0
 clear hr0 hc0
 have HR1 := Kp.a hr1
 have HC1 := Kp.a hc1
 clear hr1 hc1
 have H : (if (l0.length : Int) > 4096 then (spec_l08Code.j0 k l0 l1 a2 a3 true) else (spec_l08Code.j0 k l0 l1 a2 a3 (decide ((l1.length : Int) > 4096)))) = some r := h
 clear h
 have HC5 := Kp.a H
 clear H
 go_enter Try.func18, Try.ntmps18
 go_upto_region 1 with (fail)
 go_cut [16] (fun v16 wc => ∃ (kq : Nat) (x16_4 : Bool), v16 = .bool x16_4 ∧ Aside0 (spec_l08Code.j0 kq l0 l1 a2 a3 x16_4 = some r) ∧ Aside0 (kq ≤ k) ∧ Drawn0 w wc)
 case first =>
  have H := HC5.out
  clear HC5
  by_cases c6 : (l0.length : Int) > 4096
  ·rw [if_pos c6] at H
   have c6b0 : decide (4096 < (l0.length : Int)) = true := decide_eq_true c6
   have c6b1 : decide (4096 < l0.length) = true := decide_eq_true (by omega)
   clear c6
   (first | rw [c6b0] | (simp only [i64_w, i32_w]; rw [c6b0]) | skip)
   have H' := Kp.a H
   clear H
   go_wp2
   go_meet
   case rel => exact ⟨_, (true), (by first | rfl | (simp; done) | (simp [*]; done)), H', ⟨by first | omega | exact Nat.le_refl _⟩, by repeat (first | exact Drawn0.refl _ | apply Drawn0.step)⟩
  rw [if_neg c6] at H
  have c6b0 : decide (4096 < (l0.length : Int)) = false := decide_eq_false c6
  have c6b1 : decide (4096 < l0.length) = false := decide_eq_false (by omega)
  clear c6
  (first | rw [c6b0] | (simp only [i64_w, i32_w]; rw [c6b0]) | skip)
  have H' := Kp.a H
  clear H
  go_wp2
  go_meet
  case rel => exact ⟨_, (decide ((l1.length : Int) > 4096)), (by first | rfl | (simp; done) | (simp [*]; done)), H', ⟨by first | omega | exact Nat.le_refl _⟩, by repeat (first | exact Drawn0.refl _ | apply Drawn0.step)⟩
 clear HC5
 try clear c1
 try clear p2
 try clear c6
 try clear c6b0
 try clear c6b1
 obtain ⟨kq, x16_4, rfl, HA, HJ4, ⟨mc4, rfl⟩⟩ := hcut
 cases kq with
 | zero => exact absurd HA.out (by simp [spec_l08Code.j0])
 | succ kj4 =>
  have H := HA.out
  clear HA
  simp only [spec_l08Code.j0] at H
  by_cases c7 : x16_4 = true
  ·subst c7
   have H1 : (some 2) = some r := by rw [if_pos rfl] at H; exact H
   clear H
   have H := H1
   clear H1
   obtain rfl := Option.some.inj H
   go_wp2
   go_ret
   exact ⟨by first | rfl | (simp; done) | (simp [*]; done), by repeat (first | exact Drawn0.refl _ | apply Drawn0.step)⟩
  replace c7 := Bool.eq_false_iff.mpr c7
  subst c7
  have H1 : ((spec_l08Sizes.f kj4 l0).bind fun t103 => (if t103 = true then ((spec_l08Sizes.f kj4 l1).bind fun t104 => (if t104 = true then (if a2 < (-100000) then (some 1) else (if a2 > 100000 then (some 1) else (if a3 < (-100000) then (some 1) else (if a3 > 100000 then (some 1) else (if a2 > a3 then (some 1) else (some 0)))))) else (some 1))) else (some 1))) = some r := by rw [if_neg (show ¬ (false = true) by decide)] at H; exact H
  clear H
  have H := H1
  clear H1
  replace H := Option.bind_eq_some_iff.mp H
  obtain ⟨t103, A80, H⟩ := H
  replace H : (if t103 = true then ((spec_l08Sizes.f kj4 l1).bind fun t104 => (if t104 = true then (if a2 < (-100000) then (some 1) else (if a2 > 100000 then (some 1) else (if a3 < (-100000) then (some 1) else (if a3 > 100000 then (some 1) else (if a2 > a3 then (some 1) else (some 0)))))) else (some 1))) else (some 1)) = some r := H
  have A8 := Kp.a A80
  clear A80
  by_cases c9 : t103 = true
  rotate_left
  ·replace c9 := Bool.eq_false_iff.mpr c9
   subst c9
   have H1 : (some 1) = some r := by rw [if_neg (show ¬ (false = true) by decide)] at H; exact H
   clear H
   have H := H1
   clear H1
   obtain rfl := Option.some.inj H
   go_wp2_with (first | ((with_reducible refine gate_callee (f := 27) rfl ?_); refine goesL_ (some 18) rfl rfl Try.func27 (by kernel_rfl) rfl #[.slice A0 l0.length c0] rfl (by (try simp only [List.map_toArray, List.map_cons, List.map_nil]); first | done | rfl | (simp only [List.length_drop, List.length_take]; rfl)) ?_; (with_reducible refine (spec_l08Sizes.calls kj4 _ _ l0 false _ ?side1 ?side2 A8.out).mono ?_); (case side1 => repeat (first | exact HR0.out | (with_reducible refine Kd.C_alloc ?_ _) | (with_reducible refine Kd.C_drewN ?_ _) | (with_reducible refine Kd.C_drew ?_))); (case side2 => exact HC0.out); rintro e w' ⟨rfl, ⟨nd, rfl⟩⟩; refine ⟨_, rfl, ?_⟩))
   go_ret
   exact ⟨by first | rfl | (simp; done) | (simp [*]; done), by repeat (first | exact Drawn0.refl _ | apply Drawn0.step)⟩
  subst c9
  have H1 : ((spec_l08Sizes.f kj4 l1).bind fun t104 => (if t104 = true then (if a2 < (-100000) then (some 1) else (if a2 > 100000 then (some 1) else (if a3 < (-100000) then (some 1) else (if a3 > 100000 then (some 1) else (if a2 > a3 then (some 1) else (some 0)))))) else (some 1))) = some r := by rw [if_pos rfl] at H; exact H
  clear H
  have H := H1
  clear H1
  replace H := Option.bind_eq_some_iff.mp H
  obtain ⟨t104, A100, H⟩ := H
  replace H : (if t104 = true then (if a2 < (-100000) then (some 1) else (if a2 > 100000 then (some 1) else (if a3 < (-100000) then (some 1) else (if a3 > 100000 then (some 1) else (if a2 > a3 then (some 1) else (some 0)))))) else (some 1)) = some r := H
  have A10 := Kp.a A100
  clear A100
  by_cases c11 : t104 = true
  rotate_left
  ·replace c11 := Bool.eq_false_iff.mpr c11
   subst c11
   have H1 : (some 1) = some r := by rw [if_neg (show ¬ (false = true) by decide)] at H; exact H
   clear H
   have H := H1
   clear H1
   obtain rfl := Option.some.inj H
   go_wp2_with (first | ((with_reducible refine gate_callee (f := 27) rfl ?_); refine goesL_ (some 18) rfl rfl Try.func27 (by kernel_rfl) rfl #[.slice A0 l0.length c0] rfl (by (try simp only [List.map_toArray, List.map_cons, List.map_nil]); first | done | rfl | (simp only [List.length_drop, List.length_take]; rfl)) ?_; (with_reducible refine (spec_l08Sizes.calls kj4 _ _ l0 true _ ?side1 ?side2 A8.out).mono ?_); (case side1 => repeat (first | exact HR0.out | (with_reducible refine Kd.C_alloc ?_ _) | (with_reducible refine Kd.C_drewN ?_ _) | (with_reducible refine Kd.C_drew ?_))); (case side2 => exact HC0.out); rintro e w' ⟨rfl, ⟨nd, rfl⟩⟩; refine ⟨_, rfl, ?_⟩) | (go_at_call 27; (with_reducible refine (spec_l08Sizes.calls kj4 _ _ l1 false _ ?side1 ?side2 A10.out).mono ?_); (case side1 => repeat (first | exact HR1.out | (with_reducible refine Kd.C_alloc ?_ _) | (with_reducible refine Kd.C_drewN ?_ _) | (with_reducible refine Kd.C_drew ?_))); (case side2 => exact HC1.out); rintro e w' ⟨rfl, ⟨nd, rfl⟩⟩))
   go_ret
   exact ⟨by first | rfl | (simp; done) | (simp [*]; done), by repeat (first | exact Drawn0.refl _ | apply Drawn0.step)⟩
  subst c11
  have H1 : (if a2 < (-100000) then (some 1) else (if a2 > 100000 then (some 1) else (if a3 < (-100000) then (some 1) else (if a3 > 100000 then (some 1) else (if a2 > a3 then (some 1) else (some 0)))))) = some r := by rw [if_pos rfl] at H; exact H
  clear H
  have H := H1
  clear H1
  by_cases c12 : a2 < (-100000)
  ·rw [if_pos c12] at H
   have c12b0 : decide (a2 < (-100000)) = true := decide_eq_true c12
   clear c12
   obtain rfl := Option.some.inj H
   go_wp2_with (first | ((with_reducible refine gate_callee (f := 27) rfl ?_); refine goesL_ (some 18) rfl rfl Try.func27 (by kernel_rfl) rfl #[.slice A0 l0.length c0] rfl (by (try simp only [List.map_toArray, List.map_cons, List.map_nil]); first | done | rfl | (simp only [List.length_drop, List.length_take]; rfl)) ?_; (with_reducible refine (spec_l08Sizes.calls kj4 _ _ l0 true _ ?side1 ?side2 A8.out).mono ?_); (case side1 => repeat (first | exact HR0.out | (with_reducible refine Kd.C_alloc ?_ _) | (with_reducible refine Kd.C_drewN ?_ _) | (with_reducible refine Kd.C_drew ?_))); (case side2 => exact HC0.out); rintro e w' ⟨rfl, ⟨nd, rfl⟩⟩; refine ⟨_, rfl, ?_⟩) | (go_at_call 27; (with_reducible refine (spec_l08Sizes.calls kj4 _ _ l1 true _ ?side1 ?side2 A10.out).mono ?_); (case side1 => repeat (first | exact HR1.out | (with_reducible refine Kd.C_alloc ?_ _) | (with_reducible refine Kd.C_drewN ?_ _) | (with_reducible refine Kd.C_drew ?_))); (case side2 => exact HC1.out); rintro e w' ⟨rfl, ⟨nd, rfl⟩⟩))
   go_ret
   exact ⟨by first | rfl | (simp; done) | (simp [*]; done), by repeat (first | exact Drawn0.refl _ | apply Drawn0.step)⟩
  rw [if_neg c12] at H
  have c12b0 : decide (a2 < (-100000)) = false := decide_eq_false c12
  clear c12
  by_cases c13 : a2 > 100000
  ·rw [if_pos c13] at H
   have c13b0 : decide (100000 < a2) = true := decide_eq_true c13
   clear c13
   obtain rfl := Option.some.inj H
   go_wp2_with (first | ((with_reducible refine gate_callee (f := 27) rfl ?_); refine goesL_ (some 18) rfl rfl Try.func27 (by kernel_rfl) rfl #[.slice A0 l0.length c0] rfl (by (try simp only [List.map_toArray, List.map_cons, List.map_nil]); first | done | rfl | (simp only [List.length_drop, List.length_take]; rfl)) ?_; (with_reducible refine (spec_l08Sizes.calls kj4 _ _ l0 true _ ?side1 ?side2 A8.out).mono ?_); (case side1 => repeat (first | exact HR0.out | (with_reducible refine Kd.C_alloc ?_ _) | (with_reducible refine Kd.C_drewN ?_ _) | (with_reducible refine Kd.C_drew ?_))); (case side2 => exact HC0.out); rintro e w' ⟨rfl, ⟨nd, rfl⟩⟩; refine ⟨_, rfl, ?_⟩) | (go_at_call 27; (with_reducible refine (spec_l08Sizes.calls kj4 _ _ l1 true _ ?side1 ?side2 A10.out).mono ?_); (case side1 => repeat (first | exact HR1.out | (with_reducible refine Kd.C_alloc ?_ _) | (with_reducible refine Kd.C_drewN ?_ _) | (with_reducible refine Kd.C_drew ?_))); (case side2 => exact HC1.out); rintro e w' ⟨rfl, ⟨nd, rfl⟩⟩))
   go_ret
   exact ⟨by first | rfl | (simp; done) | (simp [*]; done), by repeat (first | exact Drawn0.refl _ | apply Drawn0.step)⟩
  rw [if_neg c13] at H
  have c13b0 : decide (100000 < a2) = false := decide_eq_false c13
  clear c13
  by_cases c14 : a3 < (-100000)
  ·rw [if_pos c14] at H
   have c14b0 : decide (a3 < (-100000)) = true := decide_eq_true c14
   clear c14
   obtain rfl := Option.some.inj H
   go_wp2_with (first | ((with_reducible refine gate_callee (f := 27) rfl ?_); refine goesL_ (some 18) rfl rfl Try.func27 (by kernel_rfl) rfl #[.slice A0 l0.length c0] rfl (by (try simp only [List.map_toArray, List.map_cons, List.map_nil]); first | done | rfl | (simp only [List.length_drop, List.length_take]; rfl)) ?_; (with_reducible refine (spec_l08Sizes.calls kj4 _ _ l0 true _ ?side1 ?side2 A8.out).mono ?_); (case side1 => repeat (first | exact HR0.out | (with_reducible refine Kd.C_alloc ?_ _) | (with_reducible refine Kd.C_drewN ?_ _) | (with_reducible refine Kd.C_drew ?_))); (case side2 => exact HC0.out); rintro e w' ⟨rfl, ⟨nd, rfl⟩⟩; refine ⟨_, rfl, ?_⟩) | (go_at_call 27; (with_reducible refine (spec_l08Sizes.calls kj4 _ _ l1 true _ ?side1 ?side2 A10.out).mono ?_); (case side1 => repeat (first | exact HR1.out | (with_reducible refine Kd.C_alloc ?_ _) | (with_reducible refine Kd.C_drewN ?_ _) | (with_reducible refine Kd.C_drew ?_))); (case side2 => exact HC1.out); rintro e w' ⟨rfl, ⟨nd, rfl⟩⟩))
   go_ret
   exact ⟨by first | rfl | (simp; done) | (simp [*]; done), by repeat (first | exact Drawn0.refl _ | apply Drawn0.step)⟩
  rw [if_neg c14] at H
  have c14b0 : decide (a3 < (-100000)) = false := decide_eq_false c14
  clear c14
  by_cases c15 : a3 > 100000
  ·rw [if_pos c15] at H
   have c15b0 : decide (100000 < a3) = true := decide_eq_true c15
   clear c15
   obtain rfl := Option.some.inj H
   go_wp2_with (first | ((with_reducible refine gate_callee (f := 27) rfl ?_); refine goesL_ (some 18) rfl rfl Try.func27 (by kernel_rfl) rfl #[.slice A0 l0.length c0] rfl (by (try simp only [List.map_toArray, List.map_cons, List.map_nil]); first | done | rfl | (simp only [List.length_drop, List.length_take]; rfl)) ?_; (with_reducible refine (spec_l08Sizes.calls kj4 _ _ l0 true _ ?side1 ?side2 A8.out).mono ?_); (case side1 => repeat (first | exact HR0.out | (with_reducible refine Kd.C_alloc ?_ _) | (with_reducible refine Kd.C_drewN ?_ _) | (with_reducible refine Kd.C_drew ?_))); (case side2 => exact HC0.out); rintro e w' ⟨rfl, ⟨nd, rfl⟩⟩; refine ⟨_, rfl, ?_⟩) | (go_at_call 27; (with_reducible refine (spec_l08Sizes.calls kj4 _ _ l1 true _ ?side1 ?side2 A10.out).mono ?_); (case side1 => repeat (first | exact HR1.out | (with_reducible refine Kd.C_alloc ?_ _) | (with_reducible refine Kd.C_drewN ?_ _) | (with_reducible refine Kd.C_drew ?_))); (case side2 => exact HC1.out); rintro e w' ⟨rfl, ⟨nd, rfl⟩⟩))
   go_ret
   exact ⟨by first | rfl | (simp; done) | (simp [*]; done), by repeat (first | exact Drawn0.refl _ | apply Drawn0.step)⟩
  rw [if_neg c15] at H
  have c15b0 : decide (100000 < a3) = false := decide_eq_false c15
  clear c15
  by_cases c16 : a2 > a3
  ·rw [if_pos c16] at H
   have c16b0 : decide (a3 < a2) = true := decide_eq_true c16
   clear c16
   obtain rfl := Option.some.inj H
   go_wp2_with (first | ((with_reducible refine gate_callee (f := 27) rfl ?_); refine goesL_ (some 18) rfl rfl Try.func27 (by kernel_rfl) rfl #[.slice A0 l0.length c0] rfl (by (try simp only [List.map_toArray, List.map_cons, List.map_nil]); first | done | rfl | (simp only [List.length_drop, List.length_take]; rfl)) ?_; (with_reducible refine (spec_l08Sizes.calls kj4 _ _ l0 true _ ?side1 ?side2 A8.out).mono ?_); (case side1 => repeat (first | exact HR0.out | (with_reducible refine Kd.C_alloc ?_ _) | (with_reducible refine Kd.C_drewN ?_ _) | (with_reducible refine Kd.C_drew ?_))); (case side2 => exact HC0.out); rintro e w' ⟨rfl, ⟨nd, rfl⟩⟩; refine ⟨_, rfl, ?_⟩) | (go_at_call 27; (with_reducible refine (spec_l08Sizes.calls kj4 _ _ l1 true _ ?side1 ?side2 A10.out).mono ?_); (case side1 => repeat (first | exact HR1.out | (with_reducible refine Kd.C_alloc ?_ _) | (with_reducible refine Kd.C_drewN ?_ _) | (with_reducible refine Kd.C_drew ?_))); (case side2 => exact HC1.out); rintro e w' ⟨rfl, ⟨nd, rfl⟩⟩))
   go_ret
   exact ⟨by first | rfl | (simp; done) | (simp [*]; done), by repeat (first | exact Drawn0.refl _ | apply Drawn0.step)⟩
  rw [if_neg c16] at H
  have c16b0 : decide (a3 < a2) = false := decide_eq_false c16
  clear c16
  obtain rfl := Option.some.inj H
  go_wp2_with (first | ((with_reducible refine gate_callee (f := 27) rfl ?_); refine goesL_ (some 18) rfl rfl Try.func27 (by kernel_rfl) rfl #[.slice A0 l0.length c0] rfl (by (try simp only [List.map_toArray, List.map_cons, List.map_nil]); first | done | rfl | (simp only [List.length_drop, List.length_take]; rfl)) ?_; (with_reducible refine (spec_l08Sizes.calls kj4 _ _ l0 true _ ?side1 ?side2 A8.out).mono ?_); (case side1 => repeat (first | exact HR0.out | (with_reducible refine Kd.C_alloc ?_ _) | (with_reducible refine Kd.C_drewN ?_ _) | (with_reducible refine Kd.C_drew ?_))); (case side2 => exact HC0.out); rintro e w' ⟨rfl, ⟨nd, rfl⟩⟩; refine ⟨_, rfl, ?_⟩) | (go_at_call 27; (with_reducible refine (spec_l08Sizes.calls kj4 _ _ l1 true _ ?side1 ?side2 A10.out).mono ?_); (case side1 => repeat (first | exact HR1.out | (with_reducible refine Kd.C_alloc ?_ _) | (with_reducible refine Kd.C_drewN ?_ _) | (with_reducible refine Kd.C_drew ?_))); (case side2 => exact HC1.out); rintro e w' ⟨rfl, ⟨nd, rfl⟩⟩))
  go_ret
  exact ⟨by first | rfl | (simp; done) | (simp [*]; done), by repeat (first | exact Drawn0.refl _ | apply Drawn0.step)⟩
mutual
def spec_l08Order.l0 : Nat → List Int → List Int → Int → Option (List Int)
 | 0, _, _, _ => none
 | k + 1, x0, x3, x4 => if x4 < (x0.length : Int) then (spec_l08Order.l1 k x0 x3 x4 (x3.length : Int)) else (some x3)
def spec_l08Order.l1 : Nat → List Int → List Int → Int → Int → Option (List Int)
 | 0, _, _, _, _ => none
 | k + 1, x0, x3, x4, x5 => if x5 > 0 then (if 0 ≤ x4 then (if x4 < (x0.length : Int) then (if 0 ≤ (wrap64 (x5 - 1)) then (if (wrap64 (x5 - 1)) < (x3.length : Int) then (if 0 ≤ (rd x3 (wrap64 (x5 - 1))) then (if (rd x3 (wrap64 (x5 - 1))) < (x0.length : Int) then (if (rd x0 x4) < (rd x0 (rd x3 (wrap64 (x5 - 1)))) then (spec_l08Order.l1 k x0 x3 x4 (wrap64 (x5 - 1))) else ((some (([] : List Int) : List Int)).bind fun y111 => (if 0 ≤ x5 then (if x5 ≤ (x3.length : Int) then ((some (x3.drop (x5 : Int).toNat : List Int)).bind fun y114 => (if y111.length + y114.length < 17592186044416 then ((some (y111 ++ y114 : List Int)).bind fun y118 => ((some (x3.take (x5 : Int).toNat : List Int)).bind fun y121 => (if y121.length < 17592186044416 then ((some (y121 ++ [x4] : List Int)).bind fun y124 => (if y124.length + y118.length < 17592186044416 then (spec_l08Order.l0 k x0 (y124 ++ y118) (wrap64 (x4 + 1))) else (none))) else (none)))) else (none))) else (none)) else (none)))) else (none)) else (none)) else (none)) else (none)) else (none)) else (none)) else ((some (([] : List Int) : List Int)).bind fun y130 => (if 0 ≤ x5 then (if x5 ≤ (x3.length : Int) then ((some (x3.drop (x5 : Int).toNat : List Int)).bind fun y133 => (if y130.length + y133.length < 17592186044416 then ((some (y130 ++ y133 : List Int)).bind fun y137 => ((some (x3.take (x5 : Int).toNat : List Int)).bind fun y140 => (if y140.length < 17592186044416 then ((some (y140 ++ [x4] : List Int)).bind fun y143 => (if y143.length + y137.length < 17592186044416 then (spec_l08Order.l0 k x0 (y143 ++ y137) (wrap64 (x4 + 1))) else (none))) else (none)))) else (none))) else (none)) else (none)))
end
def spec_l08Order.f (k : Nat) (l0 : List Int) : Option (List Int) := spec_l08Order.l0 k l0 (([] : List Int)) 0
set_option maxHeartbeats 8000000 in
set_option maxRecDepth 100000 in
theorem spec_l08Order.calls (k : Nat) (A0 : Option Addr) (c0 : Nat) (l0 : List Int) (r : List Int) (w : World) (hr0 : Kd.C (Kd.int .i64) w A0 l0.length l0) (hc0 : l0.length ≤ c0) (h : spec_l08Order.f k l0 = some r) :
  Calls Try.prog 19 #[.slice A0 l0.length c0] w fun e w' => ∃ v0_ : Value, e = .returned (v0_) ∧ Kd.R (Kd.int .i64) 3 w' w.heap.size (fun _ => True) v0_ r ∧ Below w.heap.size w w' := by
 have HR0 := Kp.a hr0
 have HC0 := Kp.a hc0
 clear hr0 hc0
 have HB := Kp.a (Below.refl w.heap.size w)
 have H : (spec_l08Order.l0 k l0 (([] : List Int)) 0) = some r := h
 clear h
 obtain ⟨y105, hy105⟩ : ∃ y_ : List Int, y_ = (([] : List Int)) := ⟨_, rfl⟩
 replace H : (spec_l08Order.l0 k l0 y105 0) = some r := by first | (rw [hy105]; with_reducible exact H) | (have H2_ := (Option.bind_some _ _).symm.trans H; rw [hy105]; with_reducible exact H2_) | (have H2_ := (Option.bind_some _ _).symm.trans H; with_reducible exact H2_) | with_reducible exact H | (rw [hy105]; exact H) | exact H
 have Ny105 := Kp.a hy105
 clear hy105
 have H' := Kp.a H
 clear H
 go_enter Try.func19, Try.ntmps19
 go_wp2_with (first | ((with_reducible refine gate_dst (N := 7) rfl ?_); refine Kd.R_lit (Kd.int .i64) _ 3 ?hg (N := 7) ?hd (xs := ([] : List Int)) (inner := []) (ok := fun _ => True) (okp := fun _ => True) ?hr ?hp (fun _ hk => hk) trivial (Below.refl _ _) (Nat.le_refl _) (by simp) ?_; (case hd => rfl); (case hg => rfl); (case hr => first | (go_simp; done) | (go_simp; rfl)); (case hp => exact (Reps.none _ _)); intro v106 w2 ho3 hb hg_ hnew_; clear hg_ hnew_; (first | rw [← Ny105.out] at ho3 | (simp only [Int.reduceToNat] at ho3; rw [← Ny105.out] at ho3)); have n0_ := Kp.a (Kd.R_lower ho3 (below_size (Kp.kpL HB.out))); have n1_ := Kp.a (below_step (Kp.kpL HB.out) hb); clear HB; have HO107 := n0_; have HB := n1_; clear n0_ n1_; clear hb ho3))
 repeat (go_quiet (first | ((with_reducible refine gate_dst (N := 7) rfl ?_); refine Kd.R_lit (Kd.int .i64) _ 3 ?hg (N := 7) ?hd (xs := ([] : List Int)) (inner := []) (ok := fun _ => True) (okp := fun _ => True) ?hr ?hp (fun _ hk => hk) trivial (Below.refl _ _) (Nat.le_refl _) (by simp) ?_; (case hd => rfl); (case hg => rfl); (case hr => first | (go_simp; done) | (go_simp; rfl)); (case hp => exact (Reps.none _ _)); intro v106 w2 ho3 hb hg_ hnew_; clear hg_ hnew_; (first | rw [← Ny105.out] at ho3 | (simp only [Int.reduceToNat] at ho3; rw [← Ny105.out] at ho3)); have n0_ := Kp.a (Kd.R_lower ho3 (below_size (Kp.kpL HB.out))); have n1_ := Kp.a (below_step (Kp.kpL HB.out) hb); clear HB; have HO107 := n0_; have HB := n1_; clear n0_ n1_; clear hb ho3)); try go_wp2_with (first | ((with_reducible refine gate_dst (N := 7) rfl ?_); refine Kd.R_lit (Kd.int .i64) _ 3 ?hg (N := 7) ?hd (xs := ([] : List Int)) (inner := []) (ok := fun _ => True) (okp := fun _ => True) ?hr ?hp (fun _ hk => hk) trivial (Below.refl _ _) (Nat.le_refl _) (by simp) ?_; (case hd => rfl); (case hg => rfl); (case hr => first | (go_simp; done) | (go_simp; rfl)); (case hp => exact (Reps.none _ _)); intro v106 w2 ho3 hb hg_ hnew_; clear hg_ hnew_; (first | rw [← Ny105.out] at ho3 | (simp only [Int.reduceToNat] at ho3; rw [← Ny105.out] at ho3)); have n0_ := Kp.a (Kd.R_lower ho3 (below_size (Kp.kpL HB.out))); have n1_ := Kp.a (below_step (Kp.kpL HB.out) hb); clear HB; have HO107 := n0_; have HB := n1_; clear n0_ n1_; clear hb ho3)))
 go_loopg [3, 4] k (fun kq v3 v4 w' => ∃ (x3_1 : List Int) (x4_1 : Int), v4 = .int .i64 x4_1 ∧ Aside0 (spec_l08Order.l0 kq l0 x3_1 x4_1 = some r) ∧ Aside0 (kq ≤ k) ∧ Aside0 (Kd.R (Kd.int .i64) 3 w' w.heap.size (fun _ => True) v3 x3_1) ∧ Aside0 (Below w.heap.size w w'))
 case atStart => exact ⟨(y105), (0), (by first | rfl | (simp; done) | (simp [*]; done)), H', ⟨Nat.le_refl _⟩, ⟨Kp.kpR HO107.out⟩, ⟨Kp.kpL HB.out⟩⟩
 clear H'
 try clear c1
 try clear p2
 obtain ⟨x3_1, x4_1, rfl, HA, HK1, HO_3, HB⟩ := hrel
 cases gk with
 | zero => exact absurd HA.out (by simp [spec_l08Order.l0])
 | succ k1 =>
  have H := HA.out
  clear HA
  simp only [spec_l08Order.l0] at H
  by_cases c4 : x4_1 < (l0.length : Int)
  rotate_left
  ·rw [if_neg c4] at H
   have c4b0 : decide (x4_1 < (l0.length : Int)) = false := decide_eq_false c4
   clear c4
   obtain rfl := Option.some.inj H
   go_wp2
   repeat (go_quiet (fail); try go_wp2)
   go_ret
   exact ⟨_, by first | rfl | (simp [errW_none, errW_some] <;> rfl) | (simp [*, errW_none, errW_some] <;> rfl), Kp.kpR HO_3.out, Kp.kpL HB.out⟩
  rw [if_pos c4] at H
  have c4b0 : decide (x4_1 < (l0.length : Int)) = true := decide_eq_true c4
  clear c4
  have H' := Kp.a H
  clear H
  obtain ⟨Ao5, co5, eo5⟩ := Kd.R_slice HO_3.out
  subst eo5
  go_wp2
  repeat (go_quiet (fail); try go_wp2)
  go_loopg [5] k1 (fun kq v5 w' => ∃ (x5_2 : Int), v5 = .int .i64 x5_2 ∧ Aside0 (spec_l08Order.l1 kq l0 x3_1 x4_1 x5_2 = some r) ∧ Aside0 (kq ≤ k1) ∧ Aside0 (Kd.R (Kd.int .i64) 3 w' w.heap.size (fun _ => True) (.slice Ao5 x3_1.length co5) x3_1) ∧ Aside0 (Below w.heap.size w w'))
  case atStart => exact ⟨((x3_1.length : Int)), (by first | rfl | (simp; done) | (simp [*]; done)), H', ⟨Nat.le_refl _⟩, ⟨Kp.kpR HO_3.out⟩, ⟨Kp.kpL HB.out⟩⟩
  clear H'
  try clear c1
  try clear p2
  try clear c4
  try clear c4b0
  try clear p2
  obtain ⟨x5_2, rfl, HA, HK2, HO_3, HB⟩ := hrel
  cases gk with
  | zero => exact absurd HA.out (by simp [spec_l08Order.l1])
  | succ k2 =>
   have H := HA.out
   clear HA
   simp only [spec_l08Order.l1] at H
   by_cases c6 : x5_2 > 0
   rotate_left
   ·rw [if_neg c6] at H
    have c6b0 : decide (0 < x5_2) = false := decide_eq_false c6
    clear c6
    obtain ⟨y130, hy130⟩ : ∃ y_ : List Int, y_ = (([] : List Int)) := ⟨_, rfl⟩
    replace H : (if 0 ≤ x5_2 then (if x5_2 ≤ (x3_1.length : Int) then ((some (x3_1.drop (x5_2 : Int).toNat : List Int)).bind fun y133 => (if y130.length + y133.length < 17592186044416 then ((some (y130 ++ y133 : List Int)).bind fun y137 => ((some (x3_1.take (x5_2 : Int).toNat : List Int)).bind fun y140 => (if y140.length < 17592186044416 then ((some (y140 ++ [x4_1] : List Int)).bind fun y143 => (if y143.length + y137.length < 17592186044416 then (spec_l08Order.l0 k2 l0 (y143 ++ y137) (wrap64 (x4_1 + 1))) else (none))) else (none)))) else (none))) else (none)) else (none)) = some r := by first | (rw [hy130]; with_reducible exact H) | (have H2_ := (Option.bind_some _ _).symm.trans H; rw [hy130]; with_reducible exact H2_) | (have H2_ := (Option.bind_some _ _).symm.trans H; with_reducible exact H2_) | with_reducible exact H | (rw [hy130]; exact H) | exact H
    have Ny130 := Kp.a hy130
    clear hy130
    by_cases c29 : 0 ≤ x5_2
    rotate_left
    ·rw [if_neg c29] at H
     exact absurd H (by simp)
    rw [if_pos c29] at H
    have c29b0 := eq_true c29
    have c29b1 : decide (0 ≤ x5_2) = true := decide_eq_true c29
    clear c29
    by_cases c30 : x5_2 ≤ (x3_1.length : Int)
    rotate_left
    ·rw [if_neg c30] at H
     exact absurd H (by simp)
    rw [if_pos c30] at H
    have c30b0 := eq_true c30
    have c30b1 : decide (x5_2 ≤ (x3_1.length : Int)) = true := decide_eq_true c30
    clear c30
    obtain ⟨y133, hy133⟩ : ∃ y_ : List Int, y_ = (x3_1.drop (x5_2 : Int).toNat) := ⟨_, rfl⟩
    replace H : (if y130.length + y133.length < 17592186044416 then ((some (y130 ++ y133 : List Int)).bind fun y137 => ((some (x3_1.take (x5_2 : Int).toNat : List Int)).bind fun y140 => (if y140.length < 17592186044416 then ((some (y140 ++ [x4_1] : List Int)).bind fun y143 => (if y143.length + y137.length < 17592186044416 then (spec_l08Order.l0 k2 l0 (y143 ++ y137) (wrap64 (x4_1 + 1))) else (none))) else (none)))) else (none)) = some r := by first | (rw [hy133]; with_reducible exact H) | (have H2_ := (Option.bind_some _ _).symm.trans H; rw [hy133]; with_reducible exact H2_) | (have H2_ := (Option.bind_some _ _).symm.trans H; with_reducible exact H2_) | with_reducible exact H | (rw [hy133]; exact H) | exact H
    have Ny133 := Kp.a hy133
    clear hy133
    by_cases c31 : y130.length + y133.length < 17592186044416
    rotate_left
    ·rw [if_neg c31] at H
     exact absurd H (by simp)
    rw [if_pos c31] at H
    have LMc31 := Kp.a c31
    clear c31
    obtain ⟨y137, hy137⟩ : ∃ y_ : List Int, y_ = (y130 ++ y133) := ⟨_, rfl⟩
    replace H : ((some (x3_1.take (x5_2 : Int).toNat : List Int)).bind fun y140 => (if y140.length < 17592186044416 then ((some (y140 ++ [x4_1] : List Int)).bind fun y143 => (if y143.length + y137.length < 17592186044416 then (spec_l08Order.l0 k2 l0 (y143 ++ y137) (wrap64 (x4_1 + 1))) else (none))) else (none))) = some r := by first | (rw [hy137]; with_reducible exact H) | (have H2_ := (Option.bind_some _ _).symm.trans H; rw [hy137]; with_reducible exact H2_) | (have H2_ := (Option.bind_some _ _).symm.trans H; with_reducible exact H2_) | with_reducible exact H | (rw [hy137]; exact H) | exact H
    have Ny137 := Kp.a hy137
    clear hy137
    have c32b0 := eq_true (Kp.d : x5_2 ≤ (x3_1.length : Int))
    obtain ⟨y140, hy140⟩ : ∃ y_ : List Int, y_ = (x3_1.take (x5_2 : Int).toNat) := ⟨_, rfl⟩
    replace H : (if y140.length < 17592186044416 then ((some (y140 ++ [x4_1] : List Int)).bind fun y143 => (if y143.length + y137.length < 17592186044416 then (spec_l08Order.l0 k2 l0 (y143 ++ y137) (wrap64 (x4_1 + 1))) else (none))) else (none)) = some r := by first | (rw [hy140]; with_reducible exact H) | (have H2_ := (Option.bind_some _ _).symm.trans H; rw [hy140]; with_reducible exact H2_) | (have H2_ := (Option.bind_some _ _).symm.trans H; with_reducible exact H2_) | with_reducible exact H | (rw [hy140]; exact H) | exact H
    have Ny140 := Kp.a hy140
    clear hy140
    by_cases c33 : y140.length < 17592186044416
    rotate_left
    ·rw [if_neg c33] at H
     exact absurd H (by simp)
    rw [if_pos c33] at H
    have LMc33 := Kp.a c33
    clear c33
    obtain ⟨y143, hy143⟩ : ∃ y_ : List Int, y_ = (y140 ++ [x4_1]) := ⟨_, rfl⟩
    replace H : (if y143.length + y137.length < 17592186044416 then (spec_l08Order.l0 k2 l0 (y143 ++ y137) (wrap64 (x4_1 + 1))) else (none)) = some r := by first | (rw [hy143]; with_reducible exact H) | (have H2_ := (Option.bind_some _ _).symm.trans H; rw [hy143]; with_reducible exact H2_) | (have H2_ := (Option.bind_some _ _).symm.trans H; with_reducible exact H2_) | with_reducible exact H | (rw [hy143]; exact H) | exact H
    have Ny143 := Kp.a hy143
    clear hy143
    by_cases c34 : y143.length + y137.length < 17592186044416
    rotate_left
    ·rw [if_neg c34] at H
     exact absurd H (by simp)
    rw [if_pos c34] at H
    have LMc34 := Kp.a c34
    clear c34
    obtain ⟨y146, hy146⟩ : ∃ y_ : List Int, y_ = (y143 ++ y137) := ⟨_, rfl⟩
    replace H : (spec_l08Order.l0 k2 l0 y146 (wrap64 (x4_1 + 1))) = some r := by first | (rw [hy146]; with_reducible exact H) | (have H2_ := (Option.bind_some _ _).symm.trans H; rw [hy146]; with_reducible exact H2_) | (have H2_ := (Option.bind_some _ _).symm.trans H; with_reducible exact H2_) | with_reducible exact H | (rw [hy146]; exact H) | exact H
    have Ny146 := Kp.a hy146
    clear hy146
    have H' := Kp.a H
    clear H
    go_wp2_with (first | ((with_reducible refine gate_dst (N := 35) rfl ?_); refine Kd.R_lit (Kd.int .i64) _ 3 ?hg (N := 35) ?hd (xs := ([] : List Int)) (inner := []) (ok := fun _ => True) (okp := fun _ => True) ?hr ?hp (fun _ hk => hk) trivial (Below.refl _ _) (Nat.le_refl _) (by simp) ?_; (case hd => rfl); (case hg => rfl); (case hr => first | (go_simp; done) | (go_simp; rfl)); (case hp => exact (Reps.none _ _)); intro v131 w35 ho36 hb hg_ hnew_; clear hg_ hnew_; (first | rw [← Ny130.out] at ho36 | (simp only [Int.reduceToNat] at ho36; rw [← Ny130.out] at ho36)); have n0_ := Kp.a (Kd.R_elder' (Kp.kpR HO_3.out) (Kd.R_base ho36) hb); have n1_ := Kp.a (Kd.R_lower (Kd.R_new' ho36 (Kd.R_lt (Kp.kpR HO_3.out))) (below_size (Kp.kpL HB.out))); have n2_ := Kp.a (below_step (Kp.kpL HB.out) hb); clear HO_3; clear HB; have HO_3 := n0_; have HO132 := n1_; have HB := n2_; clear n0_ n1_ n2_; clear hb ho36; have q37 : (x5_2 : Int) ≤ ((x3_1.length : Int) : Int) := Kp.d; obtain ⟨i037, hi037, _, hsz37, _⟩ := info_parts info3; have hroom37 : x3_1.length ≤ co5 := (Kd.R_reads' HO_3.out).2.1; have hC37 : Kd.C (Kd.int .i64) _ Ao5 x3_1.length x3_1 := (Kd.R_reads' HO_3.out).2.2; have q037 : (0 : Int) ≤ (x5_2 : Int) := Kp.d; have hcut37 := cut_from (P := Try.prog) 22 3 .i64 Try.underlying22 hi037 1 hsz37 Ao5 x3_1.length co5 x5_2 q037 q37; have hr37 := Kd.C_drop (m := (x5_2 : Int).toNat) (c := co5) hC37 (by omega) hroom37; obtain ⟨A37, hA37⟩ : ∃ A1, A1 = (if co5 = (x5_2 : Int).toNat then Ao5 else (Ao5 : Option Addr).map (·.add ((x5_2 : Int).toNat * 1))) := ⟨_, rfl⟩; obtain ⟨c37, hc37⟩ : ∃ c1, c1 = co5 - (x5_2 : Int).toNat := ⟨_, rfl⟩; have hy37 : y133.length = x3_1.length - (x5_2 : Int).toNat := (by rw [Ny133.out, List.length_drop] <;> omega); rw [show (x3_1).drop (x5_2 : Int).toNat = y133 from Ny133.out.symm] at hr37; replace hr37 : Kd.C (Kd.int .i64) _ A37 y133.length y133 := (by rw [hA37]; exact hr37); rw [← hy37, ← hA37, ← hc37] at hcut37; have HR136 := Kp.a hr37; have HC136 := Kp.a (show y133.length ≤ c37 from by rw [hy37, hc37]; exact Nat.sub_le_sub_right hroom37 _); clear hr37 hC37 hroom37 hi037 hsz37 hc37; have KY37 := Kp.a hy37; have KA37 := Kp.a hA37; clear hy37 hA37; have KL37 := Kp.a (show (x5_2 : Int).toNat ≤ x3_1.length from by omega); replace q37 := eq_true q37) | ((with_reducible refine gate_builtin (b := .append) (xs := #[.tmp 35, .tmp 38]) rfl ?_); at_builtin; refine Kd.R_append_rows (Kd.int .i64) (w0 := w) w.heap.size rfl (.tmp 35) (.tmp 38) 22 3 (.int .i64 0) 8 rfl Try.underlying22 info3 rfl (by decide) (by omega) v131 y130 y133 _ _ _ (fun k_ => some k_ ≠ (.slice Ao5 x3_1.length co5 : Value).ownBlock) (fun _ => False) rfl rfl ?aO ?aR (fun _ _ h => h) (fun _ h => h.elim) ?aF ?aB ?aS ?aL ?_; (case aR => repeat (first | exact (by repeat (first | (with_reducible exact HR136.out) | (with_reducible refine Kd.C_alloc ?_ _) | (with_reducible refine Kd.C_drewN ?_ _) | (with_reducible refine Kd.C_drew ?_) | exact HR136.out)) | (with_reducible refine Kd.C_alloc ?_ _) | (with_reducible refine Kd.C_drewN ?_ _) | (with_reducible refine Kd.C_drew ?_))); (case aB => exact (Kp.kpL HB.out)); (case aF => exact (fun k_ hk => Kd.fresh' (Kd.R_lt (Kp.kpR HO_3.out)) k_ hk)); (case aO => exact (Kp.kpR (Kd.R_mono HO132.out (fun _ hk => hk.2)))); (case aS => exact (below_size (Kp.kpL HB.out))); (case aL => have := LMc31.out; omega); intro v138 w38 ho hb hg hat; rw [← Ny137.out] at ho; have n0_ := Kp.a (Kd.R_after (ok := (fun _ => True)) (Kp.kpR HO_3.out) hg hat); have n1_ := Kp.a (hb); have n2_ := Kp.a ((show Kd.C (Kd.int .i64) w38 A37 y133.length y133 from by rw [Ny133.out, KA37.out]; exact Kd.C_drop (m := (x5_2 : Int).toNat) (c := co5) ((Kd.R_reads' (Kd.R_after (ok := (fun _ => True)) (Kp.kpR HO_3.out) hg hat)).2.2) KL37.out ((Kd.R_reads' (Kd.R_after (ok := (fun _ => True)) (Kp.kpR HO_3.out) hg hat)).2.1))); have n3_ := Kp.a (ho); clear HO_3; clear HB; clear HR136; clear HO132; have HO_3 := n0_; have HB := n1_; have HR136 := n2_; have HO139 := n3_; clear n0_ n1_ n2_ n3_; clear ho hb hg hat; have q39 : (x5_2 : Int) ≤ ((x3_1.length : Int) : Int) := Kp.d; obtain ⟨i039, hi039, _, hsz39, _⟩ := info_parts info3; have hcut39 := cut_to (P := Try.prog) 22 3 .i64 Try.underlying22 hi039 Ao5 x3_1.length co5 x5_2 (Kp.d) q39 (Kd.R_reads' HO_3.out).2.1; have hr39 := Kd.R_take (m := (x5_2 : Int).toNat) HO_3.out (by omega); have hy39 : y140.length = (x5_2 : Int).toNat := (by rw [Ny140.out, List.length_take]; omega); rw [← Ny140.out] at hr39; rw [← hy39] at hr39 hcut39; clear hy39 hi039 hsz39 HO_3; have HO142 := Kp.a hr39; clear hr39; replace q39 := eq_true q39) | ((with_reducible refine gate_builtin (b := .append) (xs := #[.tmp 42, .tmp 44]) rfl ?_); at_builtin; refine Kd.R_append (Kd.int .i64) (w0 := w) w.heap.size rfl (.tmp 42) (.tmp 44) 22 3 (.int .i64 0) 8 rfl Try.underlying22 info3 rfl (by decide) (by omega) (.slice Ao5 y140.length co5) y140 x4_1 [.int .i64 x4_1] (fun k_ => some k_ ≠ (v138 : Value).ownBlock) (fun _ => False) rfl rfl ?aP (fun _ hk => hk.elim) ?aF ?aO ?aB ?aS ?aL ?_; (case aP => exact rfl); (case aB => exact (Kp.kpL HB.out)); (case aF => exact (fun k_ hk => Kd.fresh' (Kd.R_lt (Kp.kpR HO139.out)) k_ hk)); (case aO => exact (Kp.kpR (Kd.R_mono HO142.out (fun _ hk => hk.2)))); (case aS => exact (below_size (Kp.kpL HB.out))); (case aL => have := LMc33.out; omega); intro v144 w40 ho hb hg hat; rw [← Ny143.out] at ho; have n0_ := Kp.a (Kd.R_after (ok := (fun _ => True)) (Kp.kpR (Kd.R_mono HO139.out (fun _ hk => ⟨trivial, by first | exact hk | exact own_cut hk⟩))) hg hat); have n1_ := Kp.a (hb); have n2_ := Kp.a (ho); clear HO139; clear HB; clear HO142; have HO139 := n0_; have HB := n1_; have HO145 := n2_; clear n0_ n1_ n2_; clear ho hb hg hat; obtain ⟨Ao42, co42, eo42⟩ := Kd.R_slice HO139.out; subst eo42) | ((with_reducible refine gate_builtin (b := .append) (xs := #[.tmp 45, .tmp 46]) rfl ?_); at_builtin; refine Kd.R_append_rows (Kd.int .i64) (w0 := w) w.heap.size rfl (.tmp 45) (.tmp 46) 22 3 (.int .i64 0) 8 rfl Try.underlying22 info3 rfl (by decide) (by omega) v144 y143 y137 _ _ _ (fun k_ => some k_ ≠ (.slice Ao42 y137.length co42 : Value).ownBlock) (fun _ => False) rfl rfl ?aO ?aR (fun _ _ h => h) (fun _ h => h.elim) ?aF ?aB ?aS ?aL ?_; (case aR => repeat (first | exact (Kd.R_reads' HO139.out).2.2 | (with_reducible refine Kd.C_alloc ?_ _) | (with_reducible refine Kd.C_drewN ?_ _) | (with_reducible refine Kd.C_drew ?_))); (case aB => exact (Kp.kpL HB.out)); (case aF => exact (fun k_ hk => Kd.fresh' (Kd.R_lt (Kp.kpR HO139.out)) k_ hk)); (case aO => exact (Kp.kpR HO145.out)); (case aS => exact (below_size (Kp.kpL HB.out))); (case aL => have := LMc34.out; omega); intro v147 w41 ho hb hg hat; rw [← Ny146.out] at ho; have n0_ := Kp.a (Kd.R_after (ok := (fun _ => True)) (Kp.kpR HO139.out) hg hat); have n1_ := Kp.a (hb); have n2_ := Kp.a (ho); clear HO139; clear HB; clear HO145; have HO139 := n0_; have HB := n1_; have HO148 := n2_; clear n0_ n1_ n2_; clear ho hb hg hat))
    repeat (go_quiet (first | ((with_reducible refine gate_dst (N := 35) rfl ?_); refine Kd.R_lit (Kd.int .i64) _ 3 ?hg (N := 35) ?hd (xs := ([] : List Int)) (inner := []) (ok := fun _ => True) (okp := fun _ => True) ?hr ?hp (fun _ hk => hk) trivial (Below.refl _ _) (Nat.le_refl _) (by simp) ?_; (case hd => rfl); (case hg => rfl); (case hr => first | (go_simp; done) | (go_simp; rfl)); (case hp => exact (Reps.none _ _)); intro v131 w35 ho36 hb hg_ hnew_; clear hg_ hnew_; (first | rw [← Ny130.out] at ho36 | (simp only [Int.reduceToNat] at ho36; rw [← Ny130.out] at ho36)); have n0_ := Kp.a (Kd.R_elder' (Kp.kpR HO_3.out) (Kd.R_base ho36) hb); have n1_ := Kp.a (Kd.R_lower (Kd.R_new' ho36 (Kd.R_lt (Kp.kpR HO_3.out))) (below_size (Kp.kpL HB.out))); have n2_ := Kp.a (below_step (Kp.kpL HB.out) hb); clear HO_3; clear HB; have HO_3 := n0_; have HO132 := n1_; have HB := n2_; clear n0_ n1_ n2_; clear hb ho36; have q37 : (x5_2 : Int) ≤ ((x3_1.length : Int) : Int) := Kp.d; obtain ⟨i037, hi037, _, hsz37, _⟩ := info_parts info3; have hroom37 : x3_1.length ≤ co5 := (Kd.R_reads' HO_3.out).2.1; have hC37 : Kd.C (Kd.int .i64) _ Ao5 x3_1.length x3_1 := (Kd.R_reads' HO_3.out).2.2; have q037 : (0 : Int) ≤ (x5_2 : Int) := Kp.d; have hcut37 := cut_from (P := Try.prog) 22 3 .i64 Try.underlying22 hi037 1 hsz37 Ao5 x3_1.length co5 x5_2 q037 q37; have hr37 := Kd.C_drop (m := (x5_2 : Int).toNat) (c := co5) hC37 (by omega) hroom37; obtain ⟨A37, hA37⟩ : ∃ A1, A1 = (if co5 = (x5_2 : Int).toNat then Ao5 else (Ao5 : Option Addr).map (·.add ((x5_2 : Int).toNat * 1))) := ⟨_, rfl⟩; obtain ⟨c37, hc37⟩ : ∃ c1, c1 = co5 - (x5_2 : Int).toNat := ⟨_, rfl⟩; have hy37 : y133.length = x3_1.length - (x5_2 : Int).toNat := (by rw [Ny133.out, List.length_drop] <;> omega); rw [show (x3_1).drop (x5_2 : Int).toNat = y133 from Ny133.out.symm] at hr37; replace hr37 : Kd.C (Kd.int .i64) _ A37 y133.length y133 := (by rw [hA37]; exact hr37); rw [← hy37, ← hA37, ← hc37] at hcut37; have HR136 := Kp.a hr37; have HC136 := Kp.a (show y133.length ≤ c37 from by rw [hy37, hc37]; exact Nat.sub_le_sub_right hroom37 _); clear hr37 hC37 hroom37 hi037 hsz37 hc37; have KY37 := Kp.a hy37; have KA37 := Kp.a hA37; clear hy37 hA37; have KL37 := Kp.a (show (x5_2 : Int).toNat ≤ x3_1.length from by omega); replace q37 := eq_true q37) | ((with_reducible refine gate_builtin (b := .append) (xs := #[.tmp 35, .tmp 38]) rfl ?_); at_builtin; refine Kd.R_append_rows (Kd.int .i64) (w0 := w) w.heap.size rfl (.tmp 35) (.tmp 38) 22 3 (.int .i64 0) 8 rfl Try.underlying22 info3 rfl (by decide) (by omega) v131 y130 y133 _ _ _ (fun k_ => some k_ ≠ (.slice Ao5 x3_1.length co5 : Value).ownBlock) (fun _ => False) rfl rfl ?aO ?aR (fun _ _ h => h) (fun _ h => h.elim) ?aF ?aB ?aS ?aL ?_; (case aR => repeat (first | exact (by repeat (first | (with_reducible exact HR136.out) | (with_reducible refine Kd.C_alloc ?_ _) | (with_reducible refine Kd.C_drewN ?_ _) | (with_reducible refine Kd.C_drew ?_) | exact HR136.out)) | (with_reducible refine Kd.C_alloc ?_ _) | (with_reducible refine Kd.C_drewN ?_ _) | (with_reducible refine Kd.C_drew ?_))); (case aB => exact (Kp.kpL HB.out)); (case aF => exact (fun k_ hk => Kd.fresh' (Kd.R_lt (Kp.kpR HO_3.out)) k_ hk)); (case aO => exact (Kp.kpR (Kd.R_mono HO132.out (fun _ hk => hk.2)))); (case aS => exact (below_size (Kp.kpL HB.out))); (case aL => have := LMc31.out; omega); intro v138 w38 ho hb hg hat; rw [← Ny137.out] at ho; have n0_ := Kp.a (Kd.R_after (ok := (fun _ => True)) (Kp.kpR HO_3.out) hg hat); have n1_ := Kp.a (hb); have n2_ := Kp.a ((show Kd.C (Kd.int .i64) w38 A37 y133.length y133 from by rw [Ny133.out, KA37.out]; exact Kd.C_drop (m := (x5_2 : Int).toNat) (c := co5) ((Kd.R_reads' (Kd.R_after (ok := (fun _ => True)) (Kp.kpR HO_3.out) hg hat)).2.2) KL37.out ((Kd.R_reads' (Kd.R_after (ok := (fun _ => True)) (Kp.kpR HO_3.out) hg hat)).2.1))); have n3_ := Kp.a (ho); clear HO_3; clear HB; clear HR136; clear HO132; have HO_3 := n0_; have HB := n1_; have HR136 := n2_; have HO139 := n3_; clear n0_ n1_ n2_ n3_; clear ho hb hg hat; have q39 : (x5_2 : Int) ≤ ((x3_1.length : Int) : Int) := Kp.d; obtain ⟨i039, hi039, _, hsz39, _⟩ := info_parts info3; have hcut39 := cut_to (P := Try.prog) 22 3 .i64 Try.underlying22 hi039 Ao5 x3_1.length co5 x5_2 (Kp.d) q39 (Kd.R_reads' HO_3.out).2.1; have hr39 := Kd.R_take (m := (x5_2 : Int).toNat) HO_3.out (by omega); have hy39 : y140.length = (x5_2 : Int).toNat := (by rw [Ny140.out, List.length_take]; omega); rw [← Ny140.out] at hr39; rw [← hy39] at hr39 hcut39; clear hy39 hi039 hsz39 HO_3; have HO142 := Kp.a hr39; clear hr39; replace q39 := eq_true q39) | ((with_reducible refine gate_builtin (b := .append) (xs := #[.tmp 42, .tmp 44]) rfl ?_); at_builtin; refine Kd.R_append (Kd.int .i64) (w0 := w) w.heap.size rfl (.tmp 42) (.tmp 44) 22 3 (.int .i64 0) 8 rfl Try.underlying22 info3 rfl (by decide) (by omega) (.slice Ao5 y140.length co5) y140 x4_1 [.int .i64 x4_1] (fun k_ => some k_ ≠ (v138 : Value).ownBlock) (fun _ => False) rfl rfl ?aP (fun _ hk => hk.elim) ?aF ?aO ?aB ?aS ?aL ?_; (case aP => exact rfl); (case aB => exact (Kp.kpL HB.out)); (case aF => exact (fun k_ hk => Kd.fresh' (Kd.R_lt (Kp.kpR HO139.out)) k_ hk)); (case aO => exact (Kp.kpR (Kd.R_mono HO142.out (fun _ hk => hk.2)))); (case aS => exact (below_size (Kp.kpL HB.out))); (case aL => have := LMc33.out; omega); intro v144 w40 ho hb hg hat; rw [← Ny143.out] at ho; have n0_ := Kp.a (Kd.R_after (ok := (fun _ => True)) (Kp.kpR (Kd.R_mono HO139.out (fun _ hk => ⟨trivial, by first | exact hk | exact own_cut hk⟩))) hg hat); have n1_ := Kp.a (hb); have n2_ := Kp.a (ho); clear HO139; clear HB; clear HO142; have HO139 := n0_; have HB := n1_; have HO145 := n2_; clear n0_ n1_ n2_; clear ho hb hg hat; obtain ⟨Ao42, co42, eo42⟩ := Kd.R_slice HO139.out; subst eo42) | ((with_reducible refine gate_builtin (b := .append) (xs := #[.tmp 45, .tmp 46]) rfl ?_); at_builtin; refine Kd.R_append_rows (Kd.int .i64) (w0 := w) w.heap.size rfl (.tmp 45) (.tmp 46) 22 3 (.int .i64 0) 8 rfl Try.underlying22 info3 rfl (by decide) (by omega) v144 y143 y137 _ _ _ (fun k_ => some k_ ≠ (.slice Ao42 y137.length co42 : Value).ownBlock) (fun _ => False) rfl rfl ?aO ?aR (fun _ _ h => h) (fun _ h => h.elim) ?aF ?aB ?aS ?aL ?_; (case aR => repeat (first | exact (Kd.R_reads' HO139.out).2.2 | (with_reducible refine Kd.C_alloc ?_ _) | (with_reducible refine Kd.C_drewN ?_ _) | (with_reducible refine Kd.C_drew ?_))); (case aB => exact (Kp.kpL HB.out)); (case aF => exact (fun k_ hk => Kd.fresh' (Kd.R_lt (Kp.kpR HO139.out)) k_ hk)); (case aO => exact (Kp.kpR HO145.out)); (case aS => exact (below_size (Kp.kpL HB.out))); (case aL => have := LMc34.out; omega); intro v147 w41 ho hb hg hat; rw [← Ny146.out] at ho; have n0_ := Kp.a (Kd.R_after (ok := (fun _ => True)) (Kp.kpR HO139.out) hg hat); have n1_ := Kp.a (hb); have n2_ := Kp.a (ho); clear HO139; clear HB; clear HO145; have HO139 := n0_; have HB := n1_; have HO148 := n2_; clear n0_ n1_ n2_; clear ho hb hg hat)); try go_wp2_with (first | ((with_reducible refine gate_dst (N := 35) rfl ?_); refine Kd.R_lit (Kd.int .i64) _ 3 ?hg (N := 35) ?hd (xs := ([] : List Int)) (inner := []) (ok := fun _ => True) (okp := fun _ => True) ?hr ?hp (fun _ hk => hk) trivial (Below.refl _ _) (Nat.le_refl _) (by simp) ?_; (case hd => rfl); (case hg => rfl); (case hr => first | (go_simp; done) | (go_simp; rfl)); (case hp => exact (Reps.none _ _)); intro v131 w35 ho36 hb hg_ hnew_; clear hg_ hnew_; (first | rw [← Ny130.out] at ho36 | (simp only [Int.reduceToNat] at ho36; rw [← Ny130.out] at ho36)); have n0_ := Kp.a (Kd.R_elder' (Kp.kpR HO_3.out) (Kd.R_base ho36) hb); have n1_ := Kp.a (Kd.R_lower (Kd.R_new' ho36 (Kd.R_lt (Kp.kpR HO_3.out))) (below_size (Kp.kpL HB.out))); have n2_ := Kp.a (below_step (Kp.kpL HB.out) hb); clear HO_3; clear HB; have HO_3 := n0_; have HO132 := n1_; have HB := n2_; clear n0_ n1_ n2_; clear hb ho36; have q37 : (x5_2 : Int) ≤ ((x3_1.length : Int) : Int) := Kp.d; obtain ⟨i037, hi037, _, hsz37, _⟩ := info_parts info3; have hroom37 : x3_1.length ≤ co5 := (Kd.R_reads' HO_3.out).2.1; have hC37 : Kd.C (Kd.int .i64) _ Ao5 x3_1.length x3_1 := (Kd.R_reads' HO_3.out).2.2; have q037 : (0 : Int) ≤ (x5_2 : Int) := Kp.d; have hcut37 := cut_from (P := Try.prog) 22 3 .i64 Try.underlying22 hi037 1 hsz37 Ao5 x3_1.length co5 x5_2 q037 q37; have hr37 := Kd.C_drop (m := (x5_2 : Int).toNat) (c := co5) hC37 (by omega) hroom37; obtain ⟨A37, hA37⟩ : ∃ A1, A1 = (if co5 = (x5_2 : Int).toNat then Ao5 else (Ao5 : Option Addr).map (·.add ((x5_2 : Int).toNat * 1))) := ⟨_, rfl⟩; obtain ⟨c37, hc37⟩ : ∃ c1, c1 = co5 - (x5_2 : Int).toNat := ⟨_, rfl⟩; have hy37 : y133.length = x3_1.length - (x5_2 : Int).toNat := (by rw [Ny133.out, List.length_drop] <;> omega); rw [show (x3_1).drop (x5_2 : Int).toNat = y133 from Ny133.out.symm] at hr37; replace hr37 : Kd.C (Kd.int .i64) _ A37 y133.length y133 := (by rw [hA37]; exact hr37); rw [← hy37, ← hA37, ← hc37] at hcut37; have HR136 := Kp.a hr37; have HC136 := Kp.a (show y133.length ≤ c37 from by rw [hy37, hc37]; exact Nat.sub_le_sub_right hroom37 _); clear hr37 hC37 hroom37 hi037 hsz37 hc37; have KY37 := Kp.a hy37; have KA37 := Kp.a hA37; clear hy37 hA37; have KL37 := Kp.a (show (x5_2 : Int).toNat ≤ x3_1.length from by omega); replace q37 := eq_true q37) | ((with_reducible refine gate_builtin (b := .append) (xs := #[.tmp 35, .tmp 38]) rfl ?_); at_builtin; refine Kd.R_append_rows (Kd.int .i64) (w0 := w) w.heap.size rfl (.tmp 35) (.tmp 38) 22 3 (.int .i64 0) 8 rfl Try.underlying22 info3 rfl (by decide) (by omega) v131 y130 y133 _ _ _ (fun k_ => some k_ ≠ (.slice Ao5 x3_1.length co5 : Value).ownBlock) (fun _ => False) rfl rfl ?aO ?aR (fun _ _ h => h) (fun _ h => h.elim) ?aF ?aB ?aS ?aL ?_; (case aR => repeat (first | exact (by repeat (first | (with_reducible exact HR136.out) | (with_reducible refine Kd.C_alloc ?_ _) | (with_reducible refine Kd.C_drewN ?_ _) | (with_reducible refine Kd.C_drew ?_) | exact HR136.out)) | (with_reducible refine Kd.C_alloc ?_ _) | (with_reducible refine Kd.C_drewN ?_ _) | (with_reducible refine Kd.C_drew ?_))); (case aB => exact (Kp.kpL HB.out)); (case aF => exact (fun k_ hk => Kd.fresh' (Kd.R_lt (Kp.kpR HO_3.out)) k_ hk)); (case aO => exact (Kp.kpR (Kd.R_mono HO132.out (fun _ hk => hk.2)))); (case aS => exact (below_size (Kp.kpL HB.out))); (case aL => have := LMc31.out; omega); intro v138 w38 ho hb hg hat; rw [← Ny137.out] at ho; have n0_ := Kp.a (Kd.R_after (ok := (fun _ => True)) (Kp.kpR HO_3.out) hg hat); have n1_ := Kp.a (hb); have n2_ := Kp.a ((show Kd.C (Kd.int .i64) w38 A37 y133.length y133 from by rw [Ny133.out, KA37.out]; exact Kd.C_drop (m := (x5_2 : Int).toNat) (c := co5) ((Kd.R_reads' (Kd.R_after (ok := (fun _ => True)) (Kp.kpR HO_3.out) hg hat)).2.2) KL37.out ((Kd.R_reads' (Kd.R_after (ok := (fun _ => True)) (Kp.kpR HO_3.out) hg hat)).2.1))); have n3_ := Kp.a (ho); clear HO_3; clear HB; clear HR136; clear HO132; have HO_3 := n0_; have HB := n1_; have HR136 := n2_; have HO139 := n3_; clear n0_ n1_ n2_ n3_; clear ho hb hg hat; have q39 : (x5_2 : Int) ≤ ((x3_1.length : Int) : Int) := Kp.d; obtain ⟨i039, hi039, _, hsz39, _⟩ := info_parts info3; have hcut39 := cut_to (P := Try.prog) 22 3 .i64 Try.underlying22 hi039 Ao5 x3_1.length co5 x5_2 (Kp.d) q39 (Kd.R_reads' HO_3.out).2.1; have hr39 := Kd.R_take (m := (x5_2 : Int).toNat) HO_3.out (by omega); have hy39 : y140.length = (x5_2 : Int).toNat := (by rw [Ny140.out, List.length_take]; omega); rw [← Ny140.out] at hr39; rw [← hy39] at hr39 hcut39; clear hy39 hi039 hsz39 HO_3; have HO142 := Kp.a hr39; clear hr39; replace q39 := eq_true q39) | ((with_reducible refine gate_builtin (b := .append) (xs := #[.tmp 42, .tmp 44]) rfl ?_); at_builtin; refine Kd.R_append (Kd.int .i64) (w0 := w) w.heap.size rfl (.tmp 42) (.tmp 44) 22 3 (.int .i64 0) 8 rfl Try.underlying22 info3 rfl (by decide) (by omega) (.slice Ao5 y140.length co5) y140 x4_1 [.int .i64 x4_1] (fun k_ => some k_ ≠ (v138 : Value).ownBlock) (fun _ => False) rfl rfl ?aP (fun _ hk => hk.elim) ?aF ?aO ?aB ?aS ?aL ?_; (case aP => exact rfl); (case aB => exact (Kp.kpL HB.out)); (case aF => exact (fun k_ hk => Kd.fresh' (Kd.R_lt (Kp.kpR HO139.out)) k_ hk)); (case aO => exact (Kp.kpR (Kd.R_mono HO142.out (fun _ hk => hk.2)))); (case aS => exact (below_size (Kp.kpL HB.out))); (case aL => have := LMc33.out; omega); intro v144 w40 ho hb hg hat; rw [← Ny143.out] at ho; have n0_ := Kp.a (Kd.R_after (ok := (fun _ => True)) (Kp.kpR (Kd.R_mono HO139.out (fun _ hk => ⟨trivial, by first | exact hk | exact own_cut hk⟩))) hg hat); have n1_ := Kp.a (hb); have n2_ := Kp.a (ho); clear HO139; clear HB; clear HO142; have HO139 := n0_; have HB := n1_; have HO145 := n2_; clear n0_ n1_ n2_; clear ho hb hg hat; obtain ⟨Ao42, co42, eo42⟩ := Kd.R_slice HO139.out; subst eo42) | ((with_reducible refine gate_builtin (b := .append) (xs := #[.tmp 45, .tmp 46]) rfl ?_); at_builtin; refine Kd.R_append_rows (Kd.int .i64) (w0 := w) w.heap.size rfl (.tmp 45) (.tmp 46) 22 3 (.int .i64 0) 8 rfl Try.underlying22 info3 rfl (by decide) (by omega) v144 y143 y137 _ _ _ (fun k_ => some k_ ≠ (.slice Ao42 y137.length co42 : Value).ownBlock) (fun _ => False) rfl rfl ?aO ?aR (fun _ _ h => h) (fun _ h => h.elim) ?aF ?aB ?aS ?aL ?_; (case aR => repeat (first | exact (Kd.R_reads' HO139.out).2.2 | (with_reducible refine Kd.C_alloc ?_ _) | (with_reducible refine Kd.C_drewN ?_ _) | (with_reducible refine Kd.C_drew ?_))); (case aB => exact (Kp.kpL HB.out)); (case aF => exact (fun k_ hk => Kd.fresh' (Kd.R_lt (Kp.kpR HO139.out)) k_ hk)); (case aO => exact (Kp.kpR HO145.out)); (case aS => exact (below_size (Kp.kpL HB.out))); (case aL => have := LMc34.out; omega); intro v147 w41 ho hb hg hat; rw [← Ny146.out] at ho; have n0_ := Kp.a (Kd.R_after (ok := (fun _ => True)) (Kp.kpR HO139.out) hg hat); have n1_ := Kp.a (hb); have n2_ := Kp.a (ho); clear HO139; clear HB; clear HO145; have HO139 := n0_; have HB := n1_; have HO148 := n2_; clear n0_ n1_ n2_; clear ho hb hg hat)))
    go_roundg k2
    case measure => have := HK1.out; have := HK2.out; omega
    case rel => exact ⟨(y146), (wrap64 (x4_1 + 1)), (by first | rfl | (simp; done) | (simp [*]; done)), H', ⟨by have := HK1.out; have := HK2.out; omega⟩, ⟨Kp.kpR (Kd.R_mono HO148.out (fun _ hk => trivial))⟩, ⟨Kp.kpL HB.out⟩⟩
   rw [if_pos c6] at H
   have c6b0 : decide (0 < x5_2) = true := decide_eq_true c6
   clear c6
   by_cases c7 : 0 ≤ x4_1
   rotate_left
   ·rw [if_neg c7] at H
    exact absurd H (by simp)
   rw [if_pos c7] at H
   have c7b0 : decide (0 ≤ x4_1) = true := decide_eq_true c7
   clear c7
   by_cases c8 : x4_1 < (l0.length : Int)
   rotate_left
   ·rw [if_neg c8] at H
    exact absurd H (by simp)
   rw [if_pos c8] at H
   have c8b0 : decide (x4_1 < (l0.length : Int)) = true := decide_eq_true c8
   clear c8
   obtain ⟨ji9, hji9⟩ : ∃ j_ : Int, (wrap64 (x5_2 - 1)) = j_ := ⟨_, rfl⟩
   replace H : (if 0 ≤ (ji9) then (if (ji9) < (x3_1.length : Int) then (if 0 ≤ (rd x3_1 (ji9)) then (if (rd x3_1 (ji9)) < (l0.length : Int) then (if (rd l0 x4_1) < (rd l0 (rd x3_1 (ji9))) then (spec_l08Order.l1 k2 l0 x3_1 x4_1 ji9) else ((some (([] : List Int) : List Int)).bind fun y111 => (if 0 ≤ x5_2 then (if x5_2 ≤ (x3_1.length : Int) then ((some (x3_1.drop (x5_2 : Int).toNat : List Int)).bind fun y114 => (if y111.length + y114.length < 17592186044416 then ((some (y111 ++ y114 : List Int)).bind fun y118 => ((some (x3_1.take (x5_2 : Int).toNat : List Int)).bind fun y121 => (if y121.length < 17592186044416 then ((some (y121 ++ [x4_1] : List Int)).bind fun y124 => (if y124.length + y118.length < 17592186044416 then (spec_l08Order.l0 k2 l0 (y124 ++ y118) (wrap64 (x4_1 + 1))) else (none))) else (none)))) else (none))) else (none)) else (none)))) else (none)) else (none)) else (none)) else (none)) = some r := by first | (rw [hji9] at H; exact H) | (simp only [hji9] at H ⊢; exact H)
   have hji9w : (IntKind.i64.wrap (x5_2 - 1)) = ji9 := (i64_w _).trans hji9
   by_cases c10 : 0 ≤ (ji9)
   rotate_left
   ·rw [if_neg c10] at H
    exact absurd H (by simp)
   rw [if_pos c10] at H
   have c10b0 : decide (0 ≤ (ji9)) = true := decide_eq_true c10
   clear c10
   by_cases c11 : (ji9) < (x3_1.length : Int)
   rotate_left
   ·rw [if_neg c11] at H
    exact absurd H (by simp)
   rw [if_pos c11] at H
   have c11b0 : decide ((ji9) < (x3_1.length : Int)) = true := decide_eq_true c11
   clear c11
   by_cases c12 : 0 ≤ (rd x3_1 (ji9))
   rotate_left
   ·rw [if_neg c12] at H
    exact absurd H (by simp)
   rw [if_pos c12] at H
   have c12b0 : decide (0 ≤ (rd x3_1 (ji9))) = true := decide_eq_true c12
   clear c12
   by_cases c13 : (rd x3_1 (ji9)) < (l0.length : Int)
   rotate_left
   ·rw [if_neg c13] at H
    exact absurd H (by simp)
   rw [if_pos c13] at H
   have c13b0 : decide ((rd x3_1 (ji9)) < (l0.length : Int)) = true := decide_eq_true c13
   clear c13
   by_cases c14 : (rd l0 x4_1) < (rd l0 (rd x3_1 (ji9)))
   ·rw [if_pos c14] at H
    have c14b0 : decide ((rd l0 x4_1) < (rd l0 (rd x3_1 (ji9)))) = true := decide_eq_true c14
    clear c14
    have H' := Kp.a H
    clear H
    have p108 : 0 ≤ (x4_1 : Int) := Kp.d
    have q108 : x4_1 < (l0.length : Int) := Kp.d
    obtain ⟨ad108, e108, hx108_0⟩ := Kd.at_int HR0.out x4_1 p108 q108
    cases e108
    replace hx108_0 := (HB.out.cell (World.block_lt_of_cell? w _ hx108_0)).trans hx108_0
    replace p108 := eq_true p108
    replace q108 := eq_true q108
    have p109 : 0 ≤ ((ji9) : Int) := Kp.d
    have q109 : (ji9) < (x3_1.length : Int) := Kp.d
    obtain ⟨ad109, e109, hx109_0⟩ := Kd.at_int (Kd.R_reads' HO_3.out).2.2 (ji9) p109 q109
    cases e109
    replace p109 := eq_true p109
    replace q109 := eq_true q109
    have p110 : 0 ≤ ((rd x3_1 (ji9)) : Int) := Kp.d
    have q110 : (rd x3_1 (ji9)) < (l0.length : Int) := Kp.d
    obtain ⟨ad110, e110, hx110_0⟩ := Kd.at_int HR0.out (rd x3_1 (ji9)) p110 q110
    obtain rfl : ad108 = ad110 := (by injection e110)
    replace hx110_0 := (HB.out.cell (World.block_lt_of_cell? w _ hx110_0)).trans hx110_0
    replace p110 := eq_true p110
    replace q110 := eq_true q110
    go_wp2
    repeat (go_quiet (fail); try go_wp2)
    go_roundg k2
    case measure => have := HK1.out; have := HK2.out; omega
    case rel => exact ⟨(ji9), (by first | rfl | (simp; done) | (simp only [← hji9] <;> (first | rfl | simp)) | (simp [*]; done)), H', ⟨by have := HK1.out; have := HK2.out; omega⟩, ⟨Kp.kpR HO_3.out⟩, ⟨Kp.kpL HB.out⟩⟩
   rw [if_neg c14] at H
   have c14b0 : decide ((rd l0 x4_1) < (rd l0 (rd x3_1 (ji9)))) = false := decide_eq_false c14
   clear c14
   obtain ⟨y111, hy111⟩ : ∃ y_ : List Int, y_ = (([] : List Int)) := ⟨_, rfl⟩
   replace H : (if 0 ≤ x5_2 then (if x5_2 ≤ (x3_1.length : Int) then ((some (x3_1.drop (x5_2 : Int).toNat : List Int)).bind fun y114 => (if y111.length + y114.length < 17592186044416 then ((some (y111 ++ y114 : List Int)).bind fun y118 => ((some (x3_1.take (x5_2 : Int).toNat : List Int)).bind fun y121 => (if y121.length < 17592186044416 then ((some (y121 ++ [x4_1] : List Int)).bind fun y124 => (if y124.length + y118.length < 17592186044416 then (spec_l08Order.l0 k2 l0 (y124 ++ y118) (wrap64 (x4_1 + 1))) else (none))) else (none)))) else (none))) else (none)) else (none)) = some r := by first | (rw [hy111]; with_reducible exact H) | (have H2_ := (Option.bind_some _ _).symm.trans H; rw [hy111]; with_reducible exact H2_) | (have H2_ := (Option.bind_some _ _).symm.trans H; with_reducible exact H2_) | with_reducible exact H | (rw [hy111]; exact H) | exact H
   have Ny111 := Kp.a hy111
   clear hy111
   by_cases c15 : 0 ≤ x5_2
   rotate_left
   ·rw [if_neg c15] at H
    exact absurd H (by simp)
   rw [if_pos c15] at H
   have c15b0 := eq_true c15
   have c15b1 : decide (0 ≤ x5_2) = true := decide_eq_true c15
   clear c15
   by_cases c16 : x5_2 ≤ (x3_1.length : Int)
   rotate_left
   ·rw [if_neg c16] at H
    exact absurd H (by simp)
   rw [if_pos c16] at H
   have c16b0 := eq_true c16
   have c16b1 : decide (x5_2 ≤ (x3_1.length : Int)) = true := decide_eq_true c16
   clear c16
   obtain ⟨y114, hy114⟩ : ∃ y_ : List Int, y_ = (x3_1.drop (x5_2 : Int).toNat) := ⟨_, rfl⟩
   replace H : (if y111.length + y114.length < 17592186044416 then ((some (y111 ++ y114 : List Int)).bind fun y118 => ((some (x3_1.take (x5_2 : Int).toNat : List Int)).bind fun y121 => (if y121.length < 17592186044416 then ((some (y121 ++ [x4_1] : List Int)).bind fun y124 => (if y124.length + y118.length < 17592186044416 then (spec_l08Order.l0 k2 l0 (y124 ++ y118) (wrap64 (x4_1 + 1))) else (none))) else (none)))) else (none)) = some r := by first | (rw [hy114]; with_reducible exact H) | (have H2_ := (Option.bind_some _ _).symm.trans H; rw [hy114]; with_reducible exact H2_) | (have H2_ := (Option.bind_some _ _).symm.trans H; with_reducible exact H2_) | with_reducible exact H | (rw [hy114]; exact H) | exact H
   have Ny114 := Kp.a hy114
   clear hy114
   by_cases c17 : y111.length + y114.length < 17592186044416
   rotate_left
   ·rw [if_neg c17] at H
    exact absurd H (by simp)
   rw [if_pos c17] at H
   have LMc17 := Kp.a c17
   clear c17
   obtain ⟨y118, hy118⟩ : ∃ y_ : List Int, y_ = (y111 ++ y114) := ⟨_, rfl⟩
   replace H : ((some (x3_1.take (x5_2 : Int).toNat : List Int)).bind fun y121 => (if y121.length < 17592186044416 then ((some (y121 ++ [x4_1] : List Int)).bind fun y124 => (if y124.length + y118.length < 17592186044416 then (spec_l08Order.l0 k2 l0 (y124 ++ y118) (wrap64 (x4_1 + 1))) else (none))) else (none))) = some r := by first | (rw [hy118]; with_reducible exact H) | (have H2_ := (Option.bind_some _ _).symm.trans H; rw [hy118]; with_reducible exact H2_) | (have H2_ := (Option.bind_some _ _).symm.trans H; with_reducible exact H2_) | with_reducible exact H | (rw [hy118]; exact H) | exact H
   have Ny118 := Kp.a hy118
   clear hy118
   have c18b0 := eq_true (Kp.d : x5_2 ≤ (x3_1.length : Int))
   obtain ⟨y121, hy121⟩ : ∃ y_ : List Int, y_ = (x3_1.take (x5_2 : Int).toNat) := ⟨_, rfl⟩
   replace H : (if y121.length < 17592186044416 then ((some (y121 ++ [x4_1] : List Int)).bind fun y124 => (if y124.length + y118.length < 17592186044416 then (spec_l08Order.l0 k2 l0 (y124 ++ y118) (wrap64 (x4_1 + 1))) else (none))) else (none)) = some r := by first | (rw [hy121]; with_reducible exact H) | (have H2_ := (Option.bind_some _ _).symm.trans H; rw [hy121]; with_reducible exact H2_) | (have H2_ := (Option.bind_some _ _).symm.trans H; with_reducible exact H2_) | with_reducible exact H | (rw [hy121]; exact H) | exact H
   have Ny121 := Kp.a hy121
   clear hy121
   by_cases c19 : y121.length < 17592186044416
   rotate_left
   ·rw [if_neg c19] at H
    exact absurd H (by simp)
   rw [if_pos c19] at H
   have LMc19 := Kp.a c19
   clear c19
   obtain ⟨y124, hy124⟩ : ∃ y_ : List Int, y_ = (y121 ++ [x4_1]) := ⟨_, rfl⟩
   replace H : (if y124.length + y118.length < 17592186044416 then (spec_l08Order.l0 k2 l0 (y124 ++ y118) (wrap64 (x4_1 + 1))) else (none)) = some r := by first | (rw [hy124]; with_reducible exact H) | (have H2_ := (Option.bind_some _ _).symm.trans H; rw [hy124]; with_reducible exact H2_) | (have H2_ := (Option.bind_some _ _).symm.trans H; with_reducible exact H2_) | with_reducible exact H | (rw [hy124]; exact H) | exact H
   have Ny124 := Kp.a hy124
   clear hy124
   by_cases c20 : y124.length + y118.length < 17592186044416
   rotate_left
   ·rw [if_neg c20] at H
    exact absurd H (by simp)
   rw [if_pos c20] at H
   have LMc20 := Kp.a c20
   clear c20
   obtain ⟨y127, hy127⟩ : ∃ y_ : List Int, y_ = (y124 ++ y118) := ⟨_, rfl⟩
   replace H : (spec_l08Order.l0 k2 l0 y127 (wrap64 (x4_1 + 1))) = some r := by first | (rw [hy127]; with_reducible exact H) | (have H2_ := (Option.bind_some _ _).symm.trans H; rw [hy127]; with_reducible exact H2_) | (have H2_ := (Option.bind_some _ _).symm.trans H; with_reducible exact H2_) | with_reducible exact H | (rw [hy127]; exact H) | exact H
   have Ny127 := Kp.a hy127
   clear hy127
   have H' := Kp.a H
   clear H
   have p108 : 0 ≤ (x4_1 : Int) := Kp.d
   have q108 : x4_1 < (l0.length : Int) := Kp.d
   obtain ⟨ad108, e108, hx108_0⟩ := Kd.at_int HR0.out x4_1 p108 q108
   cases e108
   replace hx108_0 := (HB.out.cell (World.block_lt_of_cell? w _ hx108_0)).trans hx108_0
   replace p108 := eq_true p108
   replace q108 := eq_true q108
   have p109 : 0 ≤ ((ji9) : Int) := Kp.d
   have q109 : (ji9) < (x3_1.length : Int) := Kp.d
   obtain ⟨ad109, e109, hx109_0⟩ := Kd.at_int (Kd.R_reads' HO_3.out).2.2 (ji9) p109 q109
   cases e109
   replace p109 := eq_true p109
   replace q109 := eq_true q109
   have p110 : 0 ≤ ((rd x3_1 (ji9)) : Int) := Kp.d
   have q110 : (rd x3_1 (ji9)) < (l0.length : Int) := Kp.d
   obtain ⟨ad110, e110, hx110_0⟩ := Kd.at_int HR0.out (rd x3_1 (ji9)) p110 q110
   obtain rfl : ad108 = ad110 := (by injection e110)
   replace hx110_0 := (HB.out.cell (World.block_lt_of_cell? w _ hx110_0)).trans hx110_0
   replace p110 := eq_true p110
   replace q110 := eq_true q110
   go_wp2_with (first | ((with_reducible refine gate_dst (N := 35) rfl ?_); refine Kd.R_lit (Kd.int .i64) _ 3 ?hg (N := 35) ?hd (xs := ([] : List Int)) (inner := []) (ok := fun _ => True) (okp := fun _ => True) ?hr ?hp (fun _ hk => hk) trivial (Below.refl _ _) (Nat.le_refl _) (by simp) ?_; (case hd => rfl); (case hg => rfl); (case hr => first | (go_simp; done) | (go_simp; rfl)); (case hp => exact (Reps.none _ _)); intro v112 w21 ho22 hb hg_ hnew_; clear hg_ hnew_; (first | rw [← Ny111.out] at ho22 | (simp only [Int.reduceToNat] at ho22; rw [← Ny111.out] at ho22)); have n0_ := Kp.a (Kd.R_elder' (Kp.kpR HO_3.out) (Kd.R_base ho22) hb); have n1_ := Kp.a (Kd.R_lower (Kd.R_new' ho22 (Kd.R_lt (Kp.kpR HO_3.out))) (below_size (Kp.kpL HB.out))); have n2_ := Kp.a (below_step (Kp.kpL HB.out) hb); clear HO_3; clear HB; have HO_3 := n0_; have HO113 := n1_; have HB := n2_; clear n0_ n1_ n2_; clear hb ho22; have q23 : (x5_2 : Int) ≤ ((x3_1.length : Int) : Int) := Kp.d; obtain ⟨i023, hi023, _, hsz23, _⟩ := info_parts info3; have hroom23 : x3_1.length ≤ co5 := (Kd.R_reads' HO_3.out).2.1; have hC23 : Kd.C (Kd.int .i64) _ (some ad109) x3_1.length x3_1 := (Kd.R_reads' HO_3.out).2.2; have q023 : (0 : Int) ≤ (x5_2 : Int) := Kp.d; have hcut23 := cut_from (P := Try.prog) 22 3 .i64 Try.underlying22 hi023 1 hsz23 (some ad109) x3_1.length co5 x5_2 q023 q23; have hr23 := Kd.C_drop (m := (x5_2 : Int).toNat) (c := co5) hC23 (by omega) hroom23; obtain ⟨A23, hA23⟩ : ∃ A1, A1 = (if co5 = (x5_2 : Int).toNat then (some ad109) else ((some ad109) : Option Addr).map (·.add ((x5_2 : Int).toNat * 1))) := ⟨_, rfl⟩; obtain ⟨c23, hc23⟩ : ∃ c1, c1 = co5 - (x5_2 : Int).toNat := ⟨_, rfl⟩; have hy23 : y114.length = x3_1.length - (x5_2 : Int).toNat := (by rw [Ny114.out, List.length_drop] <;> omega); rw [show (x3_1).drop (x5_2 : Int).toNat = y114 from Ny114.out.symm] at hr23; replace hr23 : Kd.C (Kd.int .i64) _ A23 y114.length y114 := (by rw [hA23]; exact hr23); rw [← hy23, ← hA23, ← hc23] at hcut23; have HR117 := Kp.a hr23; have HC117 := Kp.a (show y114.length ≤ c23 from by rw [hy23, hc23]; exact Nat.sub_le_sub_right hroom23 _); clear hr23 hC23 hroom23 hi023 hsz23 hc23; have KY23 := Kp.a hy23; have KA23 := Kp.a hA23; clear hy23 hA23; have KL23 := Kp.a (show (x5_2 : Int).toNat ≤ x3_1.length from by omega); replace q23 := eq_true q23) | ((with_reducible refine gate_builtin (b := .append) (xs := #[.tmp 35, .tmp 38]) rfl ?_); at_builtin; refine Kd.R_append_rows (Kd.int .i64) (w0 := w) w.heap.size rfl (.tmp 35) (.tmp 38) 22 3 (.int .i64 0) 8 rfl Try.underlying22 info3 rfl (by decide) (by omega) v112 y111 y114 _ _ _ (fun k_ => some k_ ≠ (.slice (some ad109) x3_1.length co5 : Value).ownBlock) (fun _ => False) rfl rfl ?aO ?aR (fun _ _ h => h) (fun _ h => h.elim) ?aF ?aB ?aS ?aL ?_; (case aR => repeat (first | exact (by repeat (first | (with_reducible exact HR117.out) | (with_reducible refine Kd.C_alloc ?_ _) | (with_reducible refine Kd.C_drewN ?_ _) | (with_reducible refine Kd.C_drew ?_) | exact HR117.out)) | (with_reducible refine Kd.C_alloc ?_ _) | (with_reducible refine Kd.C_drewN ?_ _) | (with_reducible refine Kd.C_drew ?_))); (case aB => exact (Kp.kpL HB.out)); (case aF => exact (fun k_ hk => Kd.fresh' (Kd.R_lt (Kp.kpR HO_3.out)) k_ hk)); (case aO => exact (Kp.kpR (Kd.R_mono HO113.out (fun _ hk => hk.2)))); (case aS => exact (below_size (Kp.kpL HB.out))); (case aL => have := LMc17.out; omega); intro v119 w24 ho hb hg hat; rw [← Ny118.out] at ho; have n0_ := Kp.a (Kd.R_after (ok := (fun _ => True)) (Kp.kpR HO_3.out) hg hat); have n1_ := Kp.a (hb); have n2_ := Kp.a ((show Kd.C (Kd.int .i64) w24 A23 y114.length y114 from by rw [Ny114.out, KA23.out]; exact Kd.C_drop (m := (x5_2 : Int).toNat) (c := co5) ((Kd.R_reads' (Kd.R_after (ok := (fun _ => True)) (Kp.kpR HO_3.out) hg hat)).2.2) KL23.out ((Kd.R_reads' (Kd.R_after (ok := (fun _ => True)) (Kp.kpR HO_3.out) hg hat)).2.1))); have n3_ := Kp.a (ho); clear HO_3; clear HB; clear HR117; clear HO113; have HO_3 := n0_; have HB := n1_; have HR117 := n2_; have HO120 := n3_; clear n0_ n1_ n2_ n3_; clear ho hb hg hat; have q25 : (x5_2 : Int) ≤ ((x3_1.length : Int) : Int) := Kp.d; obtain ⟨i025, hi025, _, hsz25, _⟩ := info_parts info3; have hcut25 := cut_to (P := Try.prog) 22 3 .i64 Try.underlying22 hi025 (some ad109) x3_1.length co5 x5_2 (Kp.d) q25 (Kd.R_reads' HO_3.out).2.1; have hr25 := Kd.R_take (m := (x5_2 : Int).toNat) HO_3.out (by omega); have hy25 : y121.length = (x5_2 : Int).toNat := (by rw [Ny121.out, List.length_take]; omega); rw [← Ny121.out] at hr25; rw [← hy25] at hr25 hcut25; clear hy25 hi025 hsz25 HO_3; have HO123 := Kp.a hr25; clear hr25; replace q25 := eq_true q25) | ((with_reducible refine gate_builtin (b := .append) (xs := #[.tmp 42, .tmp 44]) rfl ?_); at_builtin; refine Kd.R_append (Kd.int .i64) (w0 := w) w.heap.size rfl (.tmp 42) (.tmp 44) 22 3 (.int .i64 0) 8 rfl Try.underlying22 info3 rfl (by decide) (by omega) (.slice (some ad109) y121.length co5) y121 x4_1 [.int .i64 x4_1] (fun k_ => some k_ ≠ (v119 : Value).ownBlock) (fun _ => False) rfl rfl ?aP (fun _ hk => hk.elim) ?aF ?aO ?aB ?aS ?aL ?_; (case aP => exact rfl); (case aB => exact (Kp.kpL HB.out)); (case aF => exact (fun k_ hk => Kd.fresh' (Kd.R_lt (Kp.kpR HO120.out)) k_ hk)); (case aO => exact (Kp.kpR (Kd.R_mono HO123.out (fun _ hk => hk.2)))); (case aS => exact (below_size (Kp.kpL HB.out))); (case aL => have := LMc19.out; omega); intro v125 w26 ho hb hg hat; rw [← Ny124.out] at ho; have n0_ := Kp.a (Kd.R_after (ok := (fun _ => True)) (Kp.kpR (Kd.R_mono HO120.out (fun _ hk => ⟨trivial, by first | exact hk | exact own_cut hk⟩))) hg hat); have n1_ := Kp.a (hb); have n2_ := Kp.a (ho); clear HO120; clear HB; clear HO123; have HO120 := n0_; have HB := n1_; have HO126 := n2_; clear n0_ n1_ n2_; clear ho hb hg hat; obtain ⟨Ao28, co28, eo28⟩ := Kd.R_slice HO120.out; subst eo28) | ((with_reducible refine gate_builtin (b := .append) (xs := #[.tmp 45, .tmp 46]) rfl ?_); at_builtin; refine Kd.R_append_rows (Kd.int .i64) (w0 := w) w.heap.size rfl (.tmp 45) (.tmp 46) 22 3 (.int .i64 0) 8 rfl Try.underlying22 info3 rfl (by decide) (by omega) v125 y124 y118 _ _ _ (fun k_ => some k_ ≠ (.slice Ao28 y118.length co28 : Value).ownBlock) (fun _ => False) rfl rfl ?aO ?aR (fun _ _ h => h) (fun _ h => h.elim) ?aF ?aB ?aS ?aL ?_; (case aR => repeat (first | exact (Kd.R_reads' HO120.out).2.2 | (with_reducible refine Kd.C_alloc ?_ _) | (with_reducible refine Kd.C_drewN ?_ _) | (with_reducible refine Kd.C_drew ?_))); (case aB => exact (Kp.kpL HB.out)); (case aF => exact (fun k_ hk => Kd.fresh' (Kd.R_lt (Kp.kpR HO120.out)) k_ hk)); (case aO => exact (Kp.kpR HO126.out)); (case aS => exact (below_size (Kp.kpL HB.out))); (case aL => have := LMc20.out; omega); intro v128 w27 ho hb hg hat; rw [← Ny127.out] at ho; have n0_ := Kp.a (Kd.R_after (ok := (fun _ => True)) (Kp.kpR HO120.out) hg hat); have n1_ := Kp.a (hb); have n2_ := Kp.a (ho); clear HO120; clear HB; clear HO126; have HO120 := n0_; have HB := n1_; have HO129 := n2_; clear n0_ n1_ n2_; clear ho hb hg hat))
   repeat (go_quiet (first | ((with_reducible refine gate_dst (N := 35) rfl ?_); refine Kd.R_lit (Kd.int .i64) _ 3 ?hg (N := 35) ?hd (xs := ([] : List Int)) (inner := []) (ok := fun _ => True) (okp := fun _ => True) ?hr ?hp (fun _ hk => hk) trivial (Below.refl _ _) (Nat.le_refl _) (by simp) ?_; (case hd => rfl); (case hg => rfl); (case hr => first | (go_simp; done) | (go_simp; rfl)); (case hp => exact (Reps.none _ _)); intro v112 w21 ho22 hb hg_ hnew_; clear hg_ hnew_; (first | rw [← Ny111.out] at ho22 | (simp only [Int.reduceToNat] at ho22; rw [← Ny111.out] at ho22)); have n0_ := Kp.a (Kd.R_elder' (Kp.kpR HO_3.out) (Kd.R_base ho22) hb); have n1_ := Kp.a (Kd.R_lower (Kd.R_new' ho22 (Kd.R_lt (Kp.kpR HO_3.out))) (below_size (Kp.kpL HB.out))); have n2_ := Kp.a (below_step (Kp.kpL HB.out) hb); clear HO_3; clear HB; have HO_3 := n0_; have HO113 := n1_; have HB := n2_; clear n0_ n1_ n2_; clear hb ho22; have q23 : (x5_2 : Int) ≤ ((x3_1.length : Int) : Int) := Kp.d; obtain ⟨i023, hi023, _, hsz23, _⟩ := info_parts info3; have hroom23 : x3_1.length ≤ co5 := (Kd.R_reads' HO_3.out).2.1; have hC23 : Kd.C (Kd.int .i64) _ (some ad109) x3_1.length x3_1 := (Kd.R_reads' HO_3.out).2.2; have q023 : (0 : Int) ≤ (x5_2 : Int) := Kp.d; have hcut23 := cut_from (P := Try.prog) 22 3 .i64 Try.underlying22 hi023 1 hsz23 (some ad109) x3_1.length co5 x5_2 q023 q23; have hr23 := Kd.C_drop (m := (x5_2 : Int).toNat) (c := co5) hC23 (by omega) hroom23; obtain ⟨A23, hA23⟩ : ∃ A1, A1 = (if co5 = (x5_2 : Int).toNat then (some ad109) else ((some ad109) : Option Addr).map (·.add ((x5_2 : Int).toNat * 1))) := ⟨_, rfl⟩; obtain ⟨c23, hc23⟩ : ∃ c1, c1 = co5 - (x5_2 : Int).toNat := ⟨_, rfl⟩; have hy23 : y114.length = x3_1.length - (x5_2 : Int).toNat := (by rw [Ny114.out, List.length_drop] <;> omega); rw [show (x3_1).drop (x5_2 : Int).toNat = y114 from Ny114.out.symm] at hr23; replace hr23 : Kd.C (Kd.int .i64) _ A23 y114.length y114 := (by rw [hA23]; exact hr23); rw [← hy23, ← hA23, ← hc23] at hcut23; have HR117 := Kp.a hr23; have HC117 := Kp.a (show y114.length ≤ c23 from by rw [hy23, hc23]; exact Nat.sub_le_sub_right hroom23 _); clear hr23 hC23 hroom23 hi023 hsz23 hc23; have KY23 := Kp.a hy23; have KA23 := Kp.a hA23; clear hy23 hA23; have KL23 := Kp.a (show (x5_2 : Int).toNat ≤ x3_1.length from by omega); replace q23 := eq_true q23) | ((with_reducible refine gate_builtin (b := .append) (xs := #[.tmp 35, .tmp 38]) rfl ?_); at_builtin; refine Kd.R_append_rows (Kd.int .i64) (w0 := w) w.heap.size rfl (.tmp 35) (.tmp 38) 22 3 (.int .i64 0) 8 rfl Try.underlying22 info3 rfl (by decide) (by omega) v112 y111 y114 _ _ _ (fun k_ => some k_ ≠ (.slice (some ad109) x3_1.length co5 : Value).ownBlock) (fun _ => False) rfl rfl ?aO ?aR (fun _ _ h => h) (fun _ h => h.elim) ?aF ?aB ?aS ?aL ?_; (case aR => repeat (first | exact (by repeat (first | (with_reducible exact HR117.out) | (with_reducible refine Kd.C_alloc ?_ _) | (with_reducible refine Kd.C_drewN ?_ _) | (with_reducible refine Kd.C_drew ?_) | exact HR117.out)) | (with_reducible refine Kd.C_alloc ?_ _) | (with_reducible refine Kd.C_drewN ?_ _) | (with_reducible refine Kd.C_drew ?_))); (case aB => exact (Kp.kpL HB.out)); (case aF => exact (fun k_ hk => Kd.fresh' (Kd.R_lt (Kp.kpR HO_3.out)) k_ hk)); (case aO => exact (Kp.kpR (Kd.R_mono HO113.out (fun _ hk => hk.2)))); (case aS => exact (below_size (Kp.kpL HB.out))); (case aL => have := LMc17.out; omega); intro v119 w24 ho hb hg hat; rw [← Ny118.out] at ho; have n0_ := Kp.a (Kd.R_after (ok := (fun _ => True)) (Kp.kpR HO_3.out) hg hat); have n1_ := Kp.a (hb); have n2_ := Kp.a ((show Kd.C (Kd.int .i64) w24 A23 y114.length y114 from by rw [Ny114.out, KA23.out]; exact Kd.C_drop (m := (x5_2 : Int).toNat) (c := co5) ((Kd.R_reads' (Kd.R_after (ok := (fun _ => True)) (Kp.kpR HO_3.out) hg hat)).2.2) KL23.out ((Kd.R_reads' (Kd.R_after (ok := (fun _ => True)) (Kp.kpR HO_3.out) hg hat)).2.1))); have n3_ := Kp.a (ho); clear HO_3; clear HB; clear HR117; clear HO113; have HO_3 := n0_; have HB := n1_; have HR117 := n2_; have HO120 := n3_; clear n0_ n1_ n2_ n3_; clear ho hb hg hat; have q25 : (x5_2 : Int) ≤ ((x3_1.length : Int) : Int) := Kp.d; obtain ⟨i025, hi025, _, hsz25, _⟩ := info_parts info3; have hcut25 := cut_to (P := Try.prog) 22 3 .i64 Try.underlying22 hi025 (some ad109) x3_1.length co5 x5_2 (Kp.d) q25 (Kd.R_reads' HO_3.out).2.1; have hr25 := Kd.R_take (m := (x5_2 : Int).toNat) HO_3.out (by omega); have hy25 : y121.length = (x5_2 : Int).toNat := (by rw [Ny121.out, List.length_take]; omega); rw [← Ny121.out] at hr25; rw [← hy25] at hr25 hcut25; clear hy25 hi025 hsz25 HO_3; have HO123 := Kp.a hr25; clear hr25; replace q25 := eq_true q25) | ((with_reducible refine gate_builtin (b := .append) (xs := #[.tmp 42, .tmp 44]) rfl ?_); at_builtin; refine Kd.R_append (Kd.int .i64) (w0 := w) w.heap.size rfl (.tmp 42) (.tmp 44) 22 3 (.int .i64 0) 8 rfl Try.underlying22 info3 rfl (by decide) (by omega) (.slice (some ad109) y121.length co5) y121 x4_1 [.int .i64 x4_1] (fun k_ => some k_ ≠ (v119 : Value).ownBlock) (fun _ => False) rfl rfl ?aP (fun _ hk => hk.elim) ?aF ?aO ?aB ?aS ?aL ?_; (case aP => exact rfl); (case aB => exact (Kp.kpL HB.out)); (case aF => exact (fun k_ hk => Kd.fresh' (Kd.R_lt (Kp.kpR HO120.out)) k_ hk)); (case aO => exact (Kp.kpR (Kd.R_mono HO123.out (fun _ hk => hk.2)))); (case aS => exact (below_size (Kp.kpL HB.out))); (case aL => have := LMc19.out; omega); intro v125 w26 ho hb hg hat; rw [← Ny124.out] at ho; have n0_ := Kp.a (Kd.R_after (ok := (fun _ => True)) (Kp.kpR (Kd.R_mono HO120.out (fun _ hk => ⟨trivial, by first | exact hk | exact own_cut hk⟩))) hg hat); have n1_ := Kp.a (hb); have n2_ := Kp.a (ho); clear HO120; clear HB; clear HO123; have HO120 := n0_; have HB := n1_; have HO126 := n2_; clear n0_ n1_ n2_; clear ho hb hg hat; obtain ⟨Ao28, co28, eo28⟩ := Kd.R_slice HO120.out; subst eo28) | ((with_reducible refine gate_builtin (b := .append) (xs := #[.tmp 45, .tmp 46]) rfl ?_); at_builtin; refine Kd.R_append_rows (Kd.int .i64) (w0 := w) w.heap.size rfl (.tmp 45) (.tmp 46) 22 3 (.int .i64 0) 8 rfl Try.underlying22 info3 rfl (by decide) (by omega) v125 y124 y118 _ _ _ (fun k_ => some k_ ≠ (.slice Ao28 y118.length co28 : Value).ownBlock) (fun _ => False) rfl rfl ?aO ?aR (fun _ _ h => h) (fun _ h => h.elim) ?aF ?aB ?aS ?aL ?_; (case aR => repeat (first | exact (Kd.R_reads' HO120.out).2.2 | (with_reducible refine Kd.C_alloc ?_ _) | (with_reducible refine Kd.C_drewN ?_ _) | (with_reducible refine Kd.C_drew ?_))); (case aB => exact (Kp.kpL HB.out)); (case aF => exact (fun k_ hk => Kd.fresh' (Kd.R_lt (Kp.kpR HO120.out)) k_ hk)); (case aO => exact (Kp.kpR HO126.out)); (case aS => exact (below_size (Kp.kpL HB.out))); (case aL => have := LMc20.out; omega); intro v128 w27 ho hb hg hat; rw [← Ny127.out] at ho; have n0_ := Kp.a (Kd.R_after (ok := (fun _ => True)) (Kp.kpR HO120.out) hg hat); have n1_ := Kp.a (hb); have n2_ := Kp.a (ho); clear HO120; clear HB; clear HO126; have HO120 := n0_; have HB := n1_; have HO129 := n2_; clear n0_ n1_ n2_; clear ho hb hg hat)); try go_wp2_with (first | ((with_reducible refine gate_dst (N := 35) rfl ?_); refine Kd.R_lit (Kd.int .i64) _ 3 ?hg (N := 35) ?hd (xs := ([] : List Int)) (inner := []) (ok := fun _ => True) (okp := fun _ => True) ?hr ?hp (fun _ hk => hk) trivial (Below.refl _ _) (Nat.le_refl _) (by simp) ?_; (case hd => rfl); (case hg => rfl); (case hr => first | (go_simp; done) | (go_simp; rfl)); (case hp => exact (Reps.none _ _)); intro v112 w21 ho22 hb hg_ hnew_; clear hg_ hnew_; (first | rw [← Ny111.out] at ho22 | (simp only [Int.reduceToNat] at ho22; rw [← Ny111.out] at ho22)); have n0_ := Kp.a (Kd.R_elder' (Kp.kpR HO_3.out) (Kd.R_base ho22) hb); have n1_ := Kp.a (Kd.R_lower (Kd.R_new' ho22 (Kd.R_lt (Kp.kpR HO_3.out))) (below_size (Kp.kpL HB.out))); have n2_ := Kp.a (below_step (Kp.kpL HB.out) hb); clear HO_3; clear HB; have HO_3 := n0_; have HO113 := n1_; have HB := n2_; clear n0_ n1_ n2_; clear hb ho22; have q23 : (x5_2 : Int) ≤ ((x3_1.length : Int) : Int) := Kp.d; obtain ⟨i023, hi023, _, hsz23, _⟩ := info_parts info3; have hroom23 : x3_1.length ≤ co5 := (Kd.R_reads' HO_3.out).2.1; have hC23 : Kd.C (Kd.int .i64) _ (some ad109) x3_1.length x3_1 := (Kd.R_reads' HO_3.out).2.2; have q023 : (0 : Int) ≤ (x5_2 : Int) := Kp.d; have hcut23 := cut_from (P := Try.prog) 22 3 .i64 Try.underlying22 hi023 1 hsz23 (some ad109) x3_1.length co5 x5_2 q023 q23; have hr23 := Kd.C_drop (m := (x5_2 : Int).toNat) (c := co5) hC23 (by omega) hroom23; obtain ⟨A23, hA23⟩ : ∃ A1, A1 = (if co5 = (x5_2 : Int).toNat then (some ad109) else ((some ad109) : Option Addr).map (·.add ((x5_2 : Int).toNat * 1))) := ⟨_, rfl⟩; obtain ⟨c23, hc23⟩ : ∃ c1, c1 = co5 - (x5_2 : Int).toNat := ⟨_, rfl⟩; have hy23 : y114.length = x3_1.length - (x5_2 : Int).toNat := (by rw [Ny114.out, List.length_drop] <;> omega); rw [show (x3_1).drop (x5_2 : Int).toNat = y114 from Ny114.out.symm] at hr23; replace hr23 : Kd.C (Kd.int .i64) _ A23 y114.length y114 := (by rw [hA23]; exact hr23); rw [← hy23, ← hA23, ← hc23] at hcut23; have HR117 := Kp.a hr23; have HC117 := Kp.a (show y114.length ≤ c23 from by rw [hy23, hc23]; exact Nat.sub_le_sub_right hroom23 _); clear hr23 hC23 hroom23 hi023 hsz23 hc23; have KY23 := Kp.a hy23; have KA23 := Kp.a hA23; clear hy23 hA23; have KL23 := Kp.a (show (x5_2 : Int).toNat ≤ x3_1.length from by omega); replace q23 := eq_true q23) | ((with_reducible refine gate_builtin (b := .append) (xs := #[.tmp 35, .tmp 38]) rfl ?_); at_builtin; refine Kd.R_append_rows (Kd.int .i64) (w0 := w) w.heap.size rfl (.tmp 35) (.tmp 38) 22 3 (.int .i64 0) 8 rfl Try.underlying22 info3 rfl (by decide) (by omega) v112 y111 y114 _ _ _ (fun k_ => some k_ ≠ (.slice (some ad109) x3_1.length co5 : Value).ownBlock) (fun _ => False) rfl rfl ?aO ?aR (fun _ _ h => h) (fun _ h => h.elim) ?aF ?aB ?aS ?aL ?_; (case aR => repeat (first | exact (by repeat (first | (with_reducible exact HR117.out) | (with_reducible refine Kd.C_alloc ?_ _) | (with_reducible refine Kd.C_drewN ?_ _) | (with_reducible refine Kd.C_drew ?_) | exact HR117.out)) | (with_reducible refine Kd.C_alloc ?_ _) | (with_reducible refine Kd.C_drewN ?_ _) | (with_reducible refine Kd.C_drew ?_))); (case aB => exact (Kp.kpL HB.out)); (case aF => exact (fun k_ hk => Kd.fresh' (Kd.R_lt (Kp.kpR HO_3.out)) k_ hk)); (case aO => exact (Kp.kpR (Kd.R_mono HO113.out (fun _ hk => hk.2)))); (case aS => exact (below_size (Kp.kpL HB.out))); (case aL => have := LMc17.out; omega); intro v119 w24 ho hb hg hat; rw [← Ny118.out] at ho; have n0_ := Kp.a (Kd.R_after (ok := (fun _ => True)) (Kp.kpR HO_3.out) hg hat); have n1_ := Kp.a (hb); have n2_ := Kp.a ((show Kd.C (Kd.int .i64) w24 A23 y114.length y114 from by rw [Ny114.out, KA23.out]; exact Kd.C_drop (m := (x5_2 : Int).toNat) (c := co5) ((Kd.R_reads' (Kd.R_after (ok := (fun _ => True)) (Kp.kpR HO_3.out) hg hat)).2.2) KL23.out ((Kd.R_reads' (Kd.R_after (ok := (fun _ => True)) (Kp.kpR HO_3.out) hg hat)).2.1))); have n3_ := Kp.a (ho); clear HO_3; clear HB; clear HR117; clear HO113; have HO_3 := n0_; have HB := n1_; have HR117 := n2_; have HO120 := n3_; clear n0_ n1_ n2_ n3_; clear ho hb hg hat; have q25 : (x5_2 : Int) ≤ ((x3_1.length : Int) : Int) := Kp.d; obtain ⟨i025, hi025, _, hsz25, _⟩ := info_parts info3; have hcut25 := cut_to (P := Try.prog) 22 3 .i64 Try.underlying22 hi025 (some ad109) x3_1.length co5 x5_2 (Kp.d) q25 (Kd.R_reads' HO_3.out).2.1; have hr25 := Kd.R_take (m := (x5_2 : Int).toNat) HO_3.out (by omega); have hy25 : y121.length = (x5_2 : Int).toNat := (by rw [Ny121.out, List.length_take]; omega); rw [← Ny121.out] at hr25; rw [← hy25] at hr25 hcut25; clear hy25 hi025 hsz25 HO_3; have HO123 := Kp.a hr25; clear hr25; replace q25 := eq_true q25) | ((with_reducible refine gate_builtin (b := .append) (xs := #[.tmp 42, .tmp 44]) rfl ?_); at_builtin; refine Kd.R_append (Kd.int .i64) (w0 := w) w.heap.size rfl (.tmp 42) (.tmp 44) 22 3 (.int .i64 0) 8 rfl Try.underlying22 info3 rfl (by decide) (by omega) (.slice (some ad109) y121.length co5) y121 x4_1 [.int .i64 x4_1] (fun k_ => some k_ ≠ (v119 : Value).ownBlock) (fun _ => False) rfl rfl ?aP (fun _ hk => hk.elim) ?aF ?aO ?aB ?aS ?aL ?_; (case aP => exact rfl); (case aB => exact (Kp.kpL HB.out)); (case aF => exact (fun k_ hk => Kd.fresh' (Kd.R_lt (Kp.kpR HO120.out)) k_ hk)); (case aO => exact (Kp.kpR (Kd.R_mono HO123.out (fun _ hk => hk.2)))); (case aS => exact (below_size (Kp.kpL HB.out))); (case aL => have := LMc19.out; omega); intro v125 w26 ho hb hg hat; rw [← Ny124.out] at ho; have n0_ := Kp.a (Kd.R_after (ok := (fun _ => True)) (Kp.kpR (Kd.R_mono HO120.out (fun _ hk => ⟨trivial, by first | exact hk | exact own_cut hk⟩))) hg hat); have n1_ := Kp.a (hb); have n2_ := Kp.a (ho); clear HO120; clear HB; clear HO123; have HO120 := n0_; have HB := n1_; have HO126 := n2_; clear n0_ n1_ n2_; clear ho hb hg hat; obtain ⟨Ao28, co28, eo28⟩ := Kd.R_slice HO120.out; subst eo28) | ((with_reducible refine gate_builtin (b := .append) (xs := #[.tmp 45, .tmp 46]) rfl ?_); at_builtin; refine Kd.R_append_rows (Kd.int .i64) (w0 := w) w.heap.size rfl (.tmp 45) (.tmp 46) 22 3 (.int .i64 0) 8 rfl Try.underlying22 info3 rfl (by decide) (by omega) v125 y124 y118 _ _ _ (fun k_ => some k_ ≠ (.slice Ao28 y118.length co28 : Value).ownBlock) (fun _ => False) rfl rfl ?aO ?aR (fun _ _ h => h) (fun _ h => h.elim) ?aF ?aB ?aS ?aL ?_; (case aR => repeat (first | exact (Kd.R_reads' HO120.out).2.2 | (with_reducible refine Kd.C_alloc ?_ _) | (with_reducible refine Kd.C_drewN ?_ _) | (with_reducible refine Kd.C_drew ?_))); (case aB => exact (Kp.kpL HB.out)); (case aF => exact (fun k_ hk => Kd.fresh' (Kd.R_lt (Kp.kpR HO120.out)) k_ hk)); (case aO => exact (Kp.kpR HO126.out)); (case aS => exact (below_size (Kp.kpL HB.out))); (case aL => have := LMc20.out; omega); intro v128 w27 ho hb hg hat; rw [← Ny127.out] at ho; have n0_ := Kp.a (Kd.R_after (ok := (fun _ => True)) (Kp.kpR HO120.out) hg hat); have n1_ := Kp.a (hb); have n2_ := Kp.a (ho); clear HO120; clear HB; clear HO126; have HO120 := n0_; have HB := n1_; have HO129 := n2_; clear n0_ n1_ n2_; clear ho hb hg hat)))
   go_roundg k2
   case measure => have := HK1.out; have := HK2.out; omega
   case rel => exact ⟨(y127), (wrap64 (x4_1 + 1)), (by first | rfl | (simp; done) | (simp [*]; done)), H', ⟨by have := HK1.out; have := HK2.out; omega⟩, ⟨Kp.kpR (Kd.R_mono HO129.out (fun _ hk => trivial))⟩, ⟨Kp.kpL HB.out⟩⟩
end Go.Proofs.Ytkijhilmgljegaa.PT


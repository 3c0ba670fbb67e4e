import Derived.Test.YtkijhilmgljegaaQMM0
import Derived.Test.YtkijhilmgljegaaVMk
import Derived.Test.YtkijhilmgljegaaQMM2
import Derived.Test.YtkijhilmgljegaaQMM3
import Derived.Test.YtkijhilmgljegaaQMM4
import Derived.Test.YtkijhilmgljegaaQMM5
namespace Go.Proofs.Ytkijhilmgljegaa.PM
open Go.RowKit Go.Proofs.YtkijhilmgljegaaW.PrintWords Go.Proofs.YtkijhilmgljegaaW.PrintLast Go.Proofs.YtkijhilmgljegaaW.PrintMore
attribute [local go_sem] max2_int min2_int max_two min_two max_three min_three max_four min_four
set_option linter.unusedVariables false
set_option linter.unusedSimpArgs false
def laws_heldPairS.l0 : Nat → List (S37) → Int → Int → Option (Int)
 | 0, _, _, _ => none
 | k + 1, x0, x1, x5 => if x5 < (x0.length : Int) then (if 0 ≤ x5 then (if ((rd_T37 x0 x5).f0) = x1 then (if ((rd_T37 x0 x5).f1) = (wrap64 (x1 + 1)) then (laws_heldPairS.l0 k x0 (wrap64 ((wrap64 (x1 + 1)) + 1)) (wrap64 (x5 + 1))) else (some (-1))) else (some (-1))) else (none)) else (some x1)
def laws_heldPairS.f (k : Nat) (l0 : List (S37)) (a1 : Int) : Option (Int) := laws_heldPairS.l0 k l0 a1 0
set_option maxHeartbeats 8000000 in
set_option maxRecDepth 100000 in
theorem laws_heldPairS.calls (k : Nat) (A0 : Option Addr) (c0 : Nat) (l0 : List (S37)) (a1 : Int) (r : Int) (w : World) (hr0 : Kd.C k37 w A0 l0.length l0) (hc0 : l0.length ≤ c0) (h : laws_heldPairS.f k l0 a1 = some r) :
  Calls Try.prog 13 #[.slice A0 l0.length c0, .int .i64 a1] w fun e w' => e = .returned (.int .i64 r) ∧ Drawn0 w w' := by
 have HR0 := Kp.a hr0
 have HC0 := Kp.a hc0
 clear hr0 hc0
 have H : (laws_heldPairS.l0 k l0 a1 0) = some r := h
 clear h
 have H' := Kp.a H
 clear H
 go_enter Try.func13, Try.ntmps13
 go_wp2
 go_loopg [1, 5] k (fun kq v1 v5 w' => ∃ (x1_1 : Int) (x5_1 : Int), v1 = .int .i64 x1_1 ∧ v5 = .int .i64 x5_1 ∧ Aside0 (laws_heldPairS.l0 kq l0 x1_1 x5_1 = some r) ∧ Aside0 (kq ≤ k) ∧ Drawn0 w w')
 case atStart => exact ⟨(a1), (0), (by first | rfl | (simp; done) | (simp [*]; done)), (by first | rfl | (simp; done) | (simp [*]; done)), H', ⟨Nat.le_refl _⟩, by repeat (first | exact Drawn0.refl _ | apply Drawn0.step)⟩
 clear H'
 try clear c1
 try clear p2
 obtain ⟨x1_1, x5_1, rfl, rfl, HA, HK1, ⟨m1, rfl⟩⟩ := hrel
 cases gk with
 | zero => exact absurd HA.out (by simp [laws_heldPairS.l0])
 | succ k1 =>
  have H := HA.out
  clear HA
  simp only [laws_heldPairS.l0] at H
  by_cases c3 : x5_1 < (l0.length : Int)
  rotate_left
  ·rw [if_neg c3] at H
   have c3b0 : decide (x5_1 < (l0.length : Int)) = false := decide_eq_false c3
   clear c3
   obtain rfl := Option.some.inj H
   go_wp2
   go_ret
   exact ⟨by first | rfl | (simp; done) | (simp [*]; done), by repeat (first | exact Drawn0.refl _ | apply Drawn0.step)⟩
  rw [if_pos c3] at H
  have c3b0 : decide (x5_1 < (l0.length : Int)) = true := decide_eq_true c3
  clear c3
  by_cases c4 : 0 ≤ x5_1
  rotate_left
  ·rw [if_neg c4] at H
   exact absurd H (by simp)
  rw [if_pos c4] at H
  have c4b0 : decide (0 ≤ x5_1) = true := decide_eq_true c4
  clear c4
  by_cases c5 : ((rd_T37 l0 x5_1).f0) = x1_1
  rotate_left
  ·rw [if_neg c5] at H
   have c5b0 : (((rd_T37 l0 x5_1).f0) == x1_1) = false := beq_eq_false_iff_ne.mpr c5
   have c5b1 : (((rd_T37 l0 x5_1).f0) != x1_1) = true := bne_iff_ne.mpr c5
   obtain rfl := Option.some.inj H
   have p219 : 0 ≤ (x5_1 : Int) := Kp.d
   have q219 : x5_1 < (l0.length : Int) := Kp.d
   obtain ⟨ad219, e219, hx219_0, hx219_1⟩ := at_T37 HR0.out x5_1 p219 q219
   cases e219
   replace p219 := eq_true p219
   replace q219 := eq_true q219
   go_wp2
   go_ret
   exact ⟨by first | rfl | (simp; done) | (simp [*]; done), by repeat (first | exact Drawn0.refl _ | apply Drawn0.step)⟩
  rw [if_pos c5] at H
  have c5b0 : (((rd_T37 l0 x5_1).f0) == x1_1) = true := beq_iff_eq.mpr c5
  have c5b1 : (((rd_T37 l0 x5_1).f0) != x1_1) = false := bne_eq_false_iff_eq.mpr c5
  clear c5
  by_cases c6 : ((rd_T37 l0 x5_1).f1) = (wrap64 (x1_1 + 1))
  rotate_left
  ·rw [if_neg c6] at H
   have c6b0 : (((rd_T37 l0 x5_1).f1) == (wrap64 (x1_1 + 1))) = false := beq_eq_false_iff_ne.mpr c6
   have c6b1 : (((rd_T37 l0 x5_1).f1) != (wrap64 (x1_1 + 1))) = true := bne_iff_ne.mpr c6
   obtain rfl := Option.some.inj H
   have p219 : 0 ≤ (x5_1 : Int) := Kp.d
   have q219 : x5_1 < (l0.length : Int) := Kp.d
   obtain ⟨ad219, e219, hx219_0, hx219_1⟩ := at_T37 HR0.out x5_1 p219 q219
   cases e219
   replace p219 := eq_true p219
   replace q219 := eq_true q219
   have p220 : 0 ≤ (x5_1 : Int) := Kp.d
   have q220 : x5_1 < (l0.length : Int) := Kp.d
   obtain ⟨ad220, e220, hx220_0, hx220_1⟩ := at_T37 HR0.out x5_1 p220 q220
   obtain rfl : ad219 = ad220 := (by injection e220)
   replace p220 := eq_true p220
   replace q220 := eq_true q220
   go_wp2
   go_ret
   exact ⟨by first | rfl | (simp; done) | (simp [*]; done), by repeat (first | exact Drawn0.refl _ | apply Drawn0.step)⟩
  rw [if_pos c6] at H
  have c6b0 : (((rd_T37 l0 x5_1).f1) == (wrap64 (x1_1 + 1))) = true := beq_iff_eq.mpr c6
  have c6b1 : (((rd_T37 l0 x5_1).f1) != (wrap64 (x1_1 + 1))) = false := bne_eq_false_iff_eq.mpr c6
  clear c6
  have H' := Kp.a H
  clear H
  have p219 : 0 ≤ (x5_1 : Int) := Kp.d
  have q219 : x5_1 < (l0.length : Int) := Kp.d
  obtain ⟨ad219, e219, hx219_0, hx219_1⟩ := at_T37 HR0.out x5_1 p219 q219
  cases e219
  replace p219 := eq_true p219
  replace q219 := eq_true q219
  have p220 : 0 ≤ (x5_1 : Int) := Kp.d
  have q220 : x5_1 < (l0.length : Int) := Kp.d
  obtain ⟨ad220, e220, hx220_0, hx220_1⟩ := at_T37 HR0.out x5_1 p220 q220
  obtain rfl : ad219 = ad220 := (by injection e220)
  replace p220 := eq_true p220
  replace q220 := eq_true q220
  go_wp2
  go_roundg k1
  case measure => have := HK1.out; omega
  case rel => exact ⟨(wrap64 ((wrap64 (x1_1 + 1)) + 1)), (wrap64 (x5_1 + 1)), (by first | rfl | (simp; done) | (simp [*]; done)), (by first | rfl | (simp; done) | (simp [*]; done)), H', ⟨by have := HK1.out; omega⟩, by repeat (first | exact Drawn0.refl _ | apply Drawn0.step)⟩
mutual
def laws_FnExactMatched.j0 : Nat → List Int → List Int → Int → Int → List (S37) → Int → List Int → List Int → List (S37) → Int → Bool → Option (Bool)
 | 0, _, _, _, _, _, _, _, _, _, _, _ => none
 | k + 1, x0, x1, x2, x3, x9, x10, x11, x12, x13, x14, x56 => if x56 = true then (some false) else ((laws_toIntS.f k x0).bind fun t242 => ((laws_eqIntS.f k x11 t242).bind fun t245 => (if t245 = true then ((laws_toIntS.f k x1).bind fun t246 => ((laws_eqIntS.f k x12 t246).bind fun t249 => (if t249 = true then ((laws_markIntS.f k x11 1).bind fun bt250 => ((laws_markIntS.f k x12 bt250.1).bind fun bt252 => (if bt252.1 < 0 then (laws_FnExactMatched.j1 k x0 x1 x2 x3 x9 x10 x13 true) else ((laws_eqPairS.f k x13 x9).bind fun t254 => (if t254 = true then (laws_FnExactMatched.j1 k x0 x1 x2 x3 x9 x10 x13 (x14 != x10)) else (laws_FnExactMatched.j1 k x0 x1 x2 x3 x9 x10 x13 true)))))) else (some false)))) else (some false))))
def laws_FnExactMatched.j1 : Nat → List Int → List Int → Int → Int → List (S37) → Int → List (S37) → Bool → Option (Bool)
 | 0, _, _, _, _, _, _, _, _ => none
 | k + 1, x0, x1, x2, x3, x9, x10, x13, x85 => if x85 = true then (some false) else ((laws_markPairS.f k x13 1).bind fun bt255 => ((laws_heldPairS.f k bt255.2 1).bind fun t257 => (if t257 < 0 then (some false) else (if t257 = bt255.1 then ((laws_toIntS.f k x0).bind fun t258 => ((laws_toIntS.f k x1).bind fun t261 => ((impl_Matched.f k t258 t261 x2 x3).bind fun bt264 => ((laws_eqPairS.f k bt264.1 x9).bind fun t268 => (if t268 = true then (laws_FnExactMatched.j2 k bt255.2 bt255.1 (bt264.2 != x10)) else (laws_FnExactMatched.j2 k bt255.2 bt255.1 true)))))) else (some false)))))
def laws_FnExactMatched.j2 : Nat → List (S37) → Int → Bool → Option (Bool)
 | 0, _, _, _ => none
 | k + 1, x13, x16, x115 => if x115 = true then (some false) else ((laws_heldPairS.f k x13 1).bind fun t269 => (if t269 < 0 then (some false) else (if t269 = x16 then (some true) else (some false))))
end
def laws_FnExactMatched.f (k : Nat) (l0 : List Int) (l1 : List Int) (a2 : Int) (a3 : Int) : Option (Bool) := if (l0.length : Int) > 1048576 then (some true) else (if (l1.length : Int) > 1048576 then (some true) else ((laws_toIntS.f k l0).bind fun t221 => ((laws_toIntS.f k l1).bind fun t224 => ((spec_Matched.f k t221 t224 a2 a3).bind fun bt227 => ((laws_toIntS.f k l0).bind fun t231 => ((laws_toIntS.f k l1).bind fun t234 => ((impl_Matched.f k t231 t234 a2 a3).bind fun bt237 => ((laws_eqPairS.f k bt237.1 bt227.1).bind fun t241 => (if t241 = true then (laws_FnExactMatched.j0 k l0 l1 a2 a3 bt227.1 bt227.2 t231 t234 bt237.1 bt237.2 (bt237.2 != bt227.2)) else (laws_FnExactMatched.j0 k l0 l1 a2 a3 bt227.1 bt227.2 t231 t234 bt237.1 bt237.2 true))))))))))
set_option maxHeartbeats 8000000 in
set_option maxRecDepth 100000 in
theorem laws_FnExactMatched.calls (k : Nat) (A0 : Option Addr) (c0 : Nat) (l0 : List Int) (A1 : Option Addr) (c1 : Nat) (l1 : List Int) (a2 : Int) (a3 : Int) (r : Bool) (w : World) (hr0 : Kd.C (Kd.int .i64) w A0 l0.length l0) (hc0 : l0.length ≤ c0) (hr1 : Kd.C (Kd.int .i64) w A1 l1.length l1) (hc1 : l1.length ≤ c1) (h : laws_FnExactMatched.f k l0 l1 a2 a3 = some r) :
  Calls Try.prog 3 #[.slice A0 l0.length c0, .slice A1 l1.length c1, .int .i64 a2, .int .i64 a3] w fun e w' => e = .returned (.bool r) ∧ Below w.heap.size w w' := by
 have HR0 := Kp.a hr0
 have HC0 := Kp.a hc0
 clear hr0 hc0
 have HR1 := Kp.a hr1
 have HC1 := Kp.a hc1
 clear hr1 hc1
 have HB := Kp.a (Below.refl w.heap.size w)
 have H : (if (l0.length : Int) > 1048576 then (some true) else (if (l1.length : Int) > 1048576 then (some true) else ((laws_toIntS.f k l0).bind fun t221 => ((laws_toIntS.f k l1).bind fun t224 => ((spec_Matched.f k t221 t224 a2 a3).bind fun bt227 => ((laws_toIntS.f k l0).bind fun t231 => ((laws_toIntS.f k l1).bind fun t234 => ((impl_Matched.f k t231 t234 a2 a3).bind fun bt237 => ((laws_eqPairS.f k bt237.1 bt227.1).bind fun t241 => (if t241 = true then (laws_FnExactMatched.j0 k l0 l1 a2 a3 bt227.1 bt227.2 t231 t234 bt237.1 bt237.2 (bt237.2 != bt227.2)) else (laws_FnExactMatched.j0 k l0 l1 a2 a3 bt227.1 bt227.2 t231 t234 bt237.1 bt237.2 true))))))))))) = some r := h
 clear h
 by_cases c5 : (l0.length : Int) > 1048576
 ·rw [if_pos c5] at H
  have c5b0 : decide (1048576 < (l0.length : Int)) = true := decide_eq_true c5
  have c5b1 : decide (1048576 < l0.length) = true := decide_eq_true (by omega)
  clear c5
  obtain rfl := Option.some.inj H
  go_enter Try.func3, Try.ntmps3
  go_wp2
  go_ret
  exact ⟨by first | rfl | (simp [errW_none, errW_some] <;> rfl) | (simp [*, errW_none, errW_some] <;> rfl), Kp.kpL HB.out⟩
 rw [if_neg c5] at H
 have c5b0 : decide (1048576 < (l0.length : Int)) = false := decide_eq_false c5
 have c5b1 : decide (1048576 < l0.length) = false := decide_eq_false (by omega)
 clear c5
 by_cases c6 : (l1.length : Int) > 1048576
 ·rw [if_pos c6] at H
  have c6b0 : decide (1048576 < (l1.length : Int)) = true := decide_eq_true c6
  have c6b1 : decide (1048576 < l1.length) = true := decide_eq_true (by omega)
  clear c6
  obtain rfl := Option.some.inj H
  go_enter Try.func3, Try.ntmps3
  go_wp2
  go_ret
  exact ⟨by first | rfl | (simp [errW_none, errW_some] <;> rfl) | (simp [*, errW_none, errW_some] <;> rfl), Kp.kpL HB.out⟩
 rw [if_neg c6] at H
 have c6b0 : decide (1048576 < (l1.length : Int)) = false := decide_eq_false c6
 have c6b1 : decide (1048576 < l1.length) = false := decide_eq_false (by omega)
 clear c6
 replace H := Option.bind_eq_some_iff.mp H
 obtain ⟨t221, A70, H⟩ := H
 replace H : ((laws_toIntS.f k l1).bind fun t224 => ((spec_Matched.f k t221 t224 a2 a3).bind fun bt227 => ((laws_toIntS.f k l0).bind fun t231 => ((laws_toIntS.f k l1).bind fun t234 => ((impl_Matched.f k t231 t234 a2 a3).bind fun bt237 => ((laws_eqPairS.f k bt237.1 bt227.1).bind fun t241 => (if t241 = true then (laws_FnExactMatched.j0 k l0 l1 a2 a3 bt227.1 bt227.2 t231 t234 bt237.1 bt237.2 (bt237.2 != bt227.2)) else (laws_FnExactMatched.j0 k l0 l1 a2 a3 bt227.1 bt227.2 t231 t234 bt237.1 bt237.2 true)))))))) = some r := H
 have A7 := Kp.a A70
 clear A70
 replace H := Option.bind_eq_some_iff.mp H
 obtain ⟨t224, A80, H⟩ := H
 replace H : ((spec_Matched.f k t221 t224 a2 a3).bind fun bt227 => ((laws_toIntS.f k l0).bind fun t231 => ((laws_toIntS.f k l1).bind fun t234 => ((impl_Matched.f k t231 t234 a2 a3).bind fun bt237 => ((laws_eqPairS.f k bt237.1 bt227.1).bind fun t241 => (if t241 = true then (laws_FnExactMatched.j0 k l0 l1 a2 a3 bt227.1 bt227.2 t231 t234 bt237.1 bt237.2 (bt237.2 != bt227.2)) else (laws_FnExactMatched.j0 k l0 l1 a2 a3 bt227.1 bt227.2 t231 t234 bt237.1 bt237.2 true))))))) = some r := H
 have A8 := Kp.a A80
 clear A80
 replace H := Option.bind_eq_some_iff.mp H
 obtain ⟨⟨t227, t228⟩, A90, H⟩ := H
 replace H : ((laws_toIntS.f k l0).bind fun t231 => ((laws_toIntS.f k l1).bind fun t234 => ((impl_Matched.f k t231 t234 a2 a3).bind fun bt237 => ((laws_eqPairS.f k bt237.1 t227).bind fun t241 => (if t241 = true then (laws_FnExactMatched.j0 k l0 l1 a2 a3 t227 t228 t231 t234 bt237.1 bt237.2 (bt237.2 != t228)) else (laws_FnExactMatched.j0 k l0 l1 a2 a3 t227 t228 t231 t234 bt237.1 bt237.2 true)))))) = some r := H
 have A9 := Kp.a A90
 clear A90
 replace H := Option.bind_eq_some_iff.mp H
 obtain ⟨t231, A100, H⟩ := H
 replace H : ((laws_toIntS.f k l1).bind fun t234 => ((impl_Matched.f k t231 t234 a2 a3).bind fun bt237 => ((laws_eqPairS.f k bt237.1 t227).bind fun t241 => (if t241 = true then (laws_FnExactMatched.j0 k l0 l1 a2 a3 t227 t228 t231 t234 bt237.1 bt237.2 (bt237.2 != t228)) else (laws_FnExactMatched.j0 k l0 l1 a2 a3 t227 t228 t231 t234 bt237.1 bt237.2 true))))) = some r := H
 have A10 := Kp.a A100
 clear A100
 replace H := Option.bind_eq_some_iff.mp H
 obtain ⟨t234, A110, H⟩ := H
 replace H : ((impl_Matched.f k t231 t234 a2 a3).bind fun bt237 => ((laws_eqPairS.f k bt237.1 t227).bind fun t241 => (if t241 = true then (laws_FnExactMatched.j0 k l0 l1 a2 a3 t227 t228 t231 t234 bt237.1 bt237.2 (bt237.2 != t228)) else (laws_FnExactMatched.j0 k l0 l1 a2 a3 t227 t228 t231 t234 bt237.1 bt237.2 true)))) = some r := H
 have A11 := Kp.a A110
 clear A110
 replace H := Option.bind_eq_some_iff.mp H
 obtain ⟨⟨t237, t238⟩, A120, H⟩ := H
 replace H : ((laws_eqPairS.f k t237 t227).bind fun t241 => (if t241 = true then (laws_FnExactMatched.j0 k l0 l1 a2 a3 t227 t228 t231 t234 t237 t238 (t238 != t228)) else (laws_FnExactMatched.j0 k l0 l1 a2 a3 t227 t228 t231 t234 t237 t238 true))) = some r := H
 have A12 := Kp.a A120
 clear A120
 have HC13 := Kp.a H
 clear H
 go_enter Try.func3, Try.ntmps3
 go_upto_region 9 with (first | ((with_reducible refine gate_callee (f := 7) rfl ?_); refine goesL_ (some 28) rfl rfl Try.func7 (by kernel_rfl) rfl #[.slice A0 l0.length c0] rfl (by (try simp only [List.map_toArray, List.map_cons, List.map_nil]); first | done | rfl | (simp only [List.length_drop, List.length_take]; rfl)) ?_; (with_reducible refine (laws_toIntS.calls k _ _ l0 t221 _ ?side1 ?side2 A7.out).mono ?_); (case side1 => repeat (first | exact HR0.out | (with_reducible refine Kd.C_alloc ?_ _) | (with_reducible refine Kd.C_drewN ?_ _) | (with_reducible refine Kd.C_drew ?_))); (case side2 => exact HC0.out); rintro e w14 ⟨v222, rfl, ho0, hb⟩; refine ⟨_, rfl, ?_⟩; have n0_ := Kp.a (Kd.R_lower ho0 (below_size (Kp.kpL HB.out))); have n1_ := Kp.a (below_step (Kp.kpL HB.out) hb); clear HB; have HO223 := n0_; have HB := n1_; clear n0_ n1_; (try clear hb); (try clear hb2); (try clear hk); (try clear hi); (try clear ho0)) | ((with_reducible refine gate_callee (f := 7) rfl ?_); refine goesL_ (some 30) rfl rfl Try.func7 (by kernel_rfl) rfl #[.slice A1 l1.length c1] rfl (by (try simp only [List.map_toArray, List.map_cons, List.map_nil]); first | done | rfl | (simp only [List.length_drop, List.length_take]; rfl)) ?_; (with_reducible refine (laws_toIntS.calls k _ _ l1 t224 _ ?side1 ?side2 A8.out).mono ?_); (case side1 => repeat (first | exact (Kd.C_below HR1.out HB.out) | (with_reducible refine Kd.C_alloc ?_ _) | (with_reducible refine Kd.C_drewN ?_ _) | (with_reducible refine Kd.C_drew ?_))); (case side2 => exact HC1.out); rintro e w15 ⟨v225, rfl, ho0, hb⟩; refine ⟨_, rfl, ?_⟩; have n0_ := Kp.a (Kd.R_elder' (Kp.kpR HO223.out) (Kd.R_base ho0) hb); have n1_ := Kp.a (Kd.R_lower (Kd.R_new' ho0 (Kd.R_lt (Kp.kpR HO223.out))) (below_size (Kp.kpL HB.out))); have n2_ := Kp.a (below_step (Kp.kpL HB.out) hb); clear HO223; clear HB; have HO223 := n0_; have HO226 := n1_; have HB := n2_; clear n0_ n1_ n2_; (try clear hb); (try clear hb2); (try clear hk); (try clear hi); (try clear ho0); obtain ⟨Ao16, co16, eo16⟩ := Kd.R_slice HO223.out; subst eo16; obtain ⟨Ao17, co17, eo17⟩ := Kd.R_slice HO226.out; subst eo17) | ((with_reducible refine gate_callee (f := 6) rfl ?_); refine goesL_ (some 33) rfl rfl Try.func6 (by kernel_rfl) rfl #[.slice Ao16 t221.length co16, .slice Ao17 t224.length co17, .int .i64 a2, .int .i64 a3] rfl (by (try simp only [List.map_toArray, List.map_cons, List.map_nil]); first | done | rfl | (simp only [List.length_drop, List.length_take]; rfl)) ?_; (with_reducible refine (spec_Matched.calls k _ _ t221 _ _ t224 a2 a3 t227 t228 _ ?side1 ?side2 ?side3 ?side4 A9.out).mono ?_); (case side1 => repeat (first | exact (Kd.R_reads' HO223.out).2.2 | (with_reducible refine Kd.C_alloc ?_ _) | (with_reducible refine Kd.C_drewN ?_ _) | (with_reducible refine Kd.C_drew ?_))); (case side2 => exact (Kd.R_reads' HO223.out).2.1); (case side3 => repeat (first | exact (Kd.R_reads' HO226.out).2.2 | (with_reducible refine Kd.C_alloc ?_ _) | (with_reducible refine Kd.C_drewN ?_ _) | (with_reducible refine Kd.C_drew ?_))); (case side4 => exact (Kd.R_reads' HO226.out).2.1); rintro e w18 ⟨v229, rfl, ho0, hb⟩; refine ⟨_, rfl, ?_⟩; have n0_ := Kp.a (Kd.R_below (Kp.kpR HO223.out) hb); have n1_ := Kp.a (Kd.R_below (Kp.kpR HO226.out) hb); have n2_ := Kp.a (Kd.R_lower ho0 (below_size (Kp.kpL HB.out))); have n3_ := Kp.a (below_step (Kp.kpL HB.out) hb); clear HO223; clear HO226; clear HB; have HO223 := n0_; have HO226 := n1_; have HO230 := n2_; have HB := n3_; clear n0_ n1_ n2_ n3_; (try clear hb); (try clear hb2); (try clear hk); (try clear hi); (try clear ho0)) | ((with_reducible refine gate_callee (f := 7) rfl ?_); refine goesL_ (some 37) rfl rfl Try.func7 (by kernel_rfl) rfl #[.slice A0 l0.length c0] rfl (by (try simp only [List.map_toArray, List.map_cons, List.map_nil]); first | done | rfl | (simp only [List.length_drop, List.length_take]; rfl)) ?_; (with_reducible refine (laws_toIntS.calls k _ _ l0 t231 _ ?side1 ?side2 A10.out).mono ?_); (case side1 => repeat (first | exact (Kd.C_below HR0.out HB.out) | (with_reducible refine Kd.C_alloc ?_ _) | (with_reducible refine Kd.C_drewN ?_ _) | (with_reducible refine Kd.C_drew ?_))); (case side2 => exact HC0.out); rintro e w19 ⟨v232, rfl, ho0, hb⟩; refine ⟨_, rfl, ?_⟩; have n0_ := Kp.a (Kd.R_elder' (Kp.kpR HO223.out) (Kd.R_base ho0) hb); have n1_ := Kp.a (Kd.R_elder' (Kp.kpR HO226.out) (Kd.R_base ho0) hb); have n2_ := Kp.a (Kd.R_below (Kp.kpR HO230.out) hb); have n3_ := Kp.a (Kd.R_lower (Kd.R_new' (Kd.R_new' ho0 (Kd.R_lt (Kp.kpR HO223.out))) (Kd.R_lt (Kp.kpR HO226.out))) (below_size (Kp.kpL HB.out))); have n4_ := Kp.a (below_step (Kp.kpL HB.out) hb); clear HO223; clear HO226; clear HO230; clear HB; have HO223 := n0_; have HO226 := n1_; have HO230 := n2_; have HO233 := n3_; have HB := n4_; clear n0_ n1_ n2_ n3_ n4_; (try clear hb); (try clear hb2); (try clear hk); (try clear hi); (try clear ho0)) | ((with_reducible refine gate_callee (f := 7) rfl ?_); refine goesL_ (some 39) rfl rfl Try.func7 (by kernel_rfl) rfl #[.slice A1 l1.length c1] rfl (by (try simp only [List.map_toArray, List.map_cons, List.map_nil]); first | done | rfl | (simp only [List.length_drop, List.length_take]; rfl)) ?_; (with_reducible refine (laws_toIntS.calls k _ _ l1 t234 _ ?side1 ?side2 A11.out).mono ?_); (case side1 => repeat (first | exact (Kd.C_below HR1.out HB.out) | (with_reducible refine Kd.C_alloc ?_ _) | (with_reducible refine Kd.C_drewN ?_ _) | (with_reducible refine Kd.C_drew ?_))); (case side2 => exact HC1.out); rintro e w20 ⟨v235, rfl, ho0, hb⟩; refine ⟨_, rfl, ?_⟩; have n0_ := Kp.a (Kd.R_elder' (Kp.kpR HO223.out) (Kd.R_base ho0) hb); have n1_ := Kp.a (Kd.R_elder' (Kp.kpR HO226.out) (Kd.R_base ho0) hb); have n2_ := Kp.a (Kd.R_below (Kp.kpR HO230.out) hb); have n3_ := Kp.a (Kd.R_elder' (Kp.kpR HO233.out) (Kd.R_base ho0) hb); have n4_ := Kp.a (Kd.R_lower (Kd.R_new' (Kd.R_new' (Kd.R_new' ho0 (Kd.R_lt (Kp.kpR HO223.out))) (Kd.R_lt (Kp.kpR HO226.out))) (Kd.R_lt (Kp.kpR HO233.out))) (below_size (Kp.kpL HB.out))); have n5_ := Kp.a (below_step (Kp.kpL HB.out) hb); clear HO223; clear HO226; clear HO230; clear HO233; clear HB; have HO223 := n0_; have HO226 := n1_; have HO230 := n2_; have HO233 := n3_; have HO236 := n4_; have HB := n5_; clear n0_ n1_ n2_ n3_ n4_ n5_; (try clear hb); (try clear hb2); (try clear hk); (try clear hi); (try clear ho0); obtain ⟨Ao21, co21, eo21⟩ := Kd.R_slice HO233.out; subst eo21; obtain ⟨Ao22, co22, eo22⟩ := Kd.R_slice HO236.out; subst eo22) | ((with_reducible refine gate_callee (f := 8) rfl ?_); refine goesL_ (some 45) rfl rfl Try.func8 (by kernel_rfl) rfl #[.slice Ao21 t231.length co21, .slice Ao22 t234.length co22, .int .i64 a2, .int .i64 a3] rfl (by (try simp only [List.map_toArray, List.map_cons, List.map_nil]); first | done | rfl | (simp only [List.length_drop, List.length_take]; rfl)) ?_; (with_reducible refine (impl_Matched.calls k _ _ t231 _ _ t234 a2 a3 t237 t238 _ ?side1 ?side2 ?side3 ?side4 A12.out).mono ?_); (case side1 => repeat (first | exact (Kd.R_reads' HO233.out).2.2 | (with_reducible refine Kd.C_alloc ?_ _) | (with_reducible refine Kd.C_drewN ?_ _) | (with_reducible refine Kd.C_drew ?_))); (case side2 => exact (Kd.R_reads' HO233.out).2.1); (case side3 => repeat (first | exact (Kd.R_reads' HO236.out).2.2 | (with_reducible refine Kd.C_alloc ?_ _) | (with_reducible refine Kd.C_drewN ?_ _) | (with_reducible refine Kd.C_drew ?_))); (case side4 => exact (Kd.R_reads' HO236.out).2.1); rintro e w23 ⟨v239, rfl, ho0, hb⟩; refine ⟨_, rfl, ?_⟩; have n0_ := Kp.a (Kd.R_below (Kp.kpR HO223.out) hb); have n1_ := Kp.a (Kd.R_below (Kp.kpR HO226.out) hb); have n2_ := Kp.a (Kd.R_elder' (Kp.kpR HO230.out) (Kd.R_base ho0) hb); have n3_ := Kp.a (Kd.R_below (Kp.kpR HO233.out) hb); have n4_ := Kp.a (Kd.R_below (Kp.kpR HO236.out) hb); have n5_ := Kp.a (Kd.R_lower (Kd.R_new' ho0 (Kd.R_lt (Kp.kpR HO230.out))) (below_size (Kp.kpL HB.out))); have n6_ := Kp.a (below_step (Kp.kpL HB.out) hb); clear HO223; clear HO226; clear HO230; clear HO233; clear HO236; clear HB; have HO223 := n0_; have HO226 := n1_; have HO230 := n2_; have HO233 := n3_; have HO236 := n4_; have HO240 := n5_; have HB := n6_; clear n0_ n1_ n2_ n3_ n4_ n5_ n6_; (try clear hb); (try clear hb2); (try clear hk); (try clear hi); (try clear ho0)))
 (try simp only [Act.put, Kp.s0, Kp.s1, Kp.s2])
 go_cut [56] (fun v56 wc => ∃ (kq : Nat) (x56_12 : Bool), v56 = .bool x56_12 ∧ Aside0 (laws_FnExactMatched.j0 kq l0 l1 a2 a3 t227 t228 t231 t234 t237 t238 x56_12 = some r) ∧ Aside0 (kq ≤ k) ∧ Aside0 (Kd.R k37 37 wc w.heap.size (fun k_ => some k_ ≠ (v239 : Value).ownBlock) v229 t227) ∧ Aside0 (Kd.R (Kd.int .i64) 3 wc w.heap.size (fun k_ => some k_ ≠ ((.slice Ao22 t234.length co22) : Value).ownBlock) (.slice Ao21 t231.length co21) t231) ∧ Aside0 (Kd.R (Kd.int .i64) 3 wc w.heap.size (fun k_ => some k_ ≠ ((.slice Ao21 t231.length co21) : Value).ownBlock) (.slice Ao22 t234.length co22) t234) ∧ Aside0 (Kd.R k37 37 wc w.heap.size (fun k_ => some k_ ≠ (v229 : Value).ownBlock) v239 t237) ∧ Aside0 (Below w.heap.size w wc))
 case first =>
  have H := HC13.out
  clear HC13
  replace H := Option.bind_eq_some_iff.mp H
  obtain ⟨t241, A240, H⟩ := H
  replace H : (if t241 = true then (laws_FnExactMatched.j0 k l0 l1 a2 a3 t227 t228 t231 t234 t237 t238 (t238 != t228)) else (laws_FnExactMatched.j0 k l0 l1 a2 a3 t227 t228 t231 t234 t237 t238 true)) = some r := H
  have A24 := Kp.a A240
  clear A240
  by_cases c25 : t241 = true
  ·subst c25
   have H1 : (laws_FnExactMatched.j0 k l0 l1 a2 a3 t227 t228 t231 t234 t237 t238 (t238 != t228)) = some r := by rw [if_pos rfl] at H; exact H
   clear H
   have H := H1
   clear H1
   have H' := Kp.a H
   clear H
   obtain ⟨Ao26, co26, eo26⟩ := Kd.R_slice HO240.out
   subst eo26
   obtain ⟨Ao27, co27, eo27⟩ := Kd.R_slice HO230.out
   subst eo27
   go_wp2_with (first | ((with_reducible refine gate_callee (f := 9) rfl ?_); refine goesL_ (some 50) rfl rfl Try.func9 (by kernel_rfl) rfl #[.slice Ao26 t237.length co26, .slice Ao27 t227.length co27] rfl (by (try simp only [List.map_toArray, List.map_cons, List.map_nil]); first | done | rfl | (simp only [List.length_drop, List.length_take]; rfl)) ?_; (with_reducible refine (laws_eqPairS.calls k _ _ t237 _ _ t227 true _ ?side1 ?side2 ?side3 ?side4 A24.out).mono ?_); (case side1 => repeat (first | exact (Kd.R_reads' HO240.out).2.2 | (with_reducible refine Kd.C_alloc ?_ _) | (with_reducible refine Kd.C_drewN ?_ _) | (with_reducible refine Kd.C_drew ?_))); (case side2 => exact (Kd.R_reads' HO240.out).2.1); (case side3 => repeat (first | exact (Kd.R_reads' HO230.out).2.2 | (with_reducible refine Kd.C_alloc ?_ _) | (with_reducible refine Kd.C_drewN ?_ _) | (with_reducible refine Kd.C_drew ?_))); (case side4 => exact (Kd.R_reads' HO230.out).2.1); rintro e w28 ⟨rfl, hb⟩; refine ⟨_, rfl, ?_⟩; have n0_ := Kp.a (Kd.R_below (Kp.kpR HO223.out) hb); have n1_ := Kp.a (Kd.R_below (Kp.kpR HO226.out) hb); have n2_ := Kp.a (Kd.R_below (Kp.kpR HO230.out) hb); have n3_ := Kp.a (Kd.R_below (Kp.kpR HO233.out) hb); have n4_ := Kp.a (Kd.R_below (Kp.kpR HO236.out) hb); have n5_ := Kp.a (Kd.R_below (Kp.kpR HO240.out) hb); have n6_ := Kp.a (below_step (Kp.kpL HB.out) hb); clear HO223; clear HO226; clear HO230; clear HO233; clear HO236; clear HO240; clear HB; have HO223 := n0_; have HO226 := n1_; have HO230 := n2_; have HO233 := n3_; have HO236 := n4_; have HO240 := n5_; have HB := n6_; clear n0_ n1_ n2_ n3_ n4_ n5_ n6_; (try clear hb); (try clear hb2); (try clear hk); (try clear hi)))
   go_meet
   case rel => exact ⟨_, ((t238 != t228)), (by first | rfl | (simp; done) | (simp [*]; done)), H', ⟨by first | omega | exact Nat.le_refl _⟩, ⟨Kp.kpR (Kd.R_mono HO230.out (fun _ hk => hk.2))⟩, ⟨Kp.kpR (Kd.R_mono HO233.out (fun _ hk => hk.2))⟩, ⟨Kp.kpR (Kd.R_mono HO236.out (fun _ hk => hk.2))⟩, ⟨Kp.kpR (Kd.R_mono HO240.out (fun _ hk => hk.2))⟩, ⟨Kp.kpL HB.out⟩⟩
  replace c25 := Bool.eq_false_iff.mpr c25
  subst c25
  have H1 : (laws_FnExactMatched.j0 k l0 l1 a2 a3 t227 t228 t231 t234 t237 t238 true) = some r := by rw [if_neg (show ¬ (false = true) by decide)] at H; exact H
  clear H
  have H := H1
  clear H1
  have H' := Kp.a H
  clear H
  obtain ⟨Ao29, co29, eo29⟩ := Kd.R_slice HO240.out
  subst eo29
  obtain ⟨Ao30, co30, eo30⟩ := Kd.R_slice HO230.out
  subst eo30
  go_wp2_with (first | ((with_reducible refine gate_callee (f := 9) rfl ?_); refine goesL_ (some 50) rfl rfl Try.func9 (by kernel_rfl) rfl #[.slice Ao29 t237.length co29, .slice Ao30 t227.length co30] rfl (by (try simp only [List.map_toArray, List.map_cons, List.map_nil]); first | done | rfl | (simp only [List.length_drop, List.length_take]; rfl)) ?_; (with_reducible refine (laws_eqPairS.calls k _ _ t237 _ _ t227 false _ ?side1 ?side2 ?side3 ?side4 A24.out).mono ?_); (case side1 => repeat (first | exact (Kd.R_reads' HO240.out).2.2 | (with_reducible refine Kd.C_alloc ?_ _) | (with_reducible refine Kd.C_drewN ?_ _) | (with_reducible refine Kd.C_drew ?_))); (case side2 => exact (Kd.R_reads' HO240.out).2.1); (case side3 => repeat (first | exact (Kd.R_reads' HO230.out).2.2 | (with_reducible refine Kd.C_alloc ?_ _) | (with_reducible refine Kd.C_drewN ?_ _) | (with_reducible refine Kd.C_drew ?_))); (case side4 => exact (Kd.R_reads' HO230.out).2.1); rintro e w31 ⟨rfl, hb⟩; refine ⟨_, rfl, ?_⟩; have n0_ := Kp.a (Kd.R_below (Kp.kpR HO223.out) hb); have n1_ := Kp.a (Kd.R_below (Kp.kpR HO226.out) hb); have n2_ := Kp.a (Kd.R_below (Kp.kpR HO230.out) hb); have n3_ := Kp.a (Kd.R_below (Kp.kpR HO233.out) hb); have n4_ := Kp.a (Kd.R_below (Kp.kpR HO236.out) hb); have n5_ := Kp.a (Kd.R_below (Kp.kpR HO240.out) hb); have n6_ := Kp.a (below_step (Kp.kpL HB.out) hb); clear HO223; clear HO226; clear HO230; clear HO233; clear HO236; clear HO240; clear HB; have HO223 := n0_; have HO226 := n1_; have HO230 := n2_; have HO233 := n3_; have HO236 := n4_; have HO240 := n5_; have HB := n6_; clear n0_ n1_ n2_ n3_ n4_ n5_ n6_; (try clear hb); (try clear hb2); (try clear hk); (try clear hi)))
  go_meet
  case rel => exact ⟨_, (true), (by first | rfl | (simp; done) | (simp [*]; done)), H', ⟨by first | omega | exact Nat.le_refl _⟩, ⟨Kp.kpR (Kd.R_mono HO230.out (fun _ hk => hk.2))⟩, ⟨Kp.kpR (Kd.R_mono HO233.out (fun _ hk => hk.2))⟩, ⟨Kp.kpR (Kd.R_mono HO236.out (fun _ hk => hk.2))⟩, ⟨Kp.kpR (Kd.R_mono HO240.out (fun _ hk => hk.2))⟩, ⟨Kp.kpL HB.out⟩⟩
 clear HC13
 try clear c1
 try clear c2
 try clear p2
 try clear c3
 try clear c5
 try clear c5b0
 try clear c5b1
 try clear c6
 try clear c6b0
 try clear c6b1
 try clear c7
 try clear c8
 try clear c9
 try clear c25
 obtain ⟨kq, x56_12, rfl, HA, HJ12, HO_9, HO_11, HO_12, HO_13, HB⟩ := hcut
 cases kq with
 | zero => exact absurd HA.out (by simp [laws_FnExactMatched.j0])
 | succ kj12 =>
  have H := HA.out
  clear HA
  simp only [laws_FnExactMatched.j0] at H
  by_cases c32 : x56_12 = true
  ·subst c32
   have H1 : (some false) = some r := by rw [if_pos rfl] at H; exact H
   clear H
   have H := H1
   clear H1
   obtain rfl := Option.some.inj H
   go_wp2
   go_ret
   exact ⟨by first | rfl | (simp [errW_none, errW_some] <;> rfl) | (simp [*, errW_none, errW_some] <;> rfl), Kp.kpL HB.out⟩
  replace c32 := Bool.eq_false_iff.mpr c32
  subst c32
  have H1 : ((laws_toIntS.f kj12 l0).bind fun t242 => ((laws_eqIntS.f kj12 t231 t242).bind fun t245 => (if t245 = true then ((laws_toIntS.f kj12 l1).bind fun t246 => ((laws_eqIntS.f kj12 t234 t246).bind fun t249 => (if t249 = true then ((laws_markIntS.f kj12 t231 1).bind fun bt250 => ((laws_markIntS.f kj12 t234 bt250.1).bind fun bt252 => (if bt252.1 < 0 then (laws_FnExactMatched.j1 kj12 l0 l1 a2 a3 t227 t228 t237 true) else ((laws_eqPairS.f kj12 t237 t227).bind fun t254 => (if t254 = true then (laws_FnExactMatched.j1 kj12 l0 l1 a2 a3 t227 t228 t237 (t238 != t228)) else (laws_FnExactMatched.j1 kj12 l0 l1 a2 a3 t227 t228 t237 true)))))) else (some false)))) else (some false)))) = some r := by rw [if_neg (show ¬ (false = true) by decide)] at H; exact H
  clear H
  have H := H1
  clear H1
  replace H := Option.bind_eq_some_iff.mp H
  obtain ⟨t242, A330, H⟩ := H
  replace H : ((laws_eqIntS.f kj12 t231 t242).bind fun t245 => (if t245 = true then ((laws_toIntS.f kj12 l1).bind fun t246 => ((laws_eqIntS.f kj12 t234 t246).bind fun t249 => (if t249 = true then ((laws_markIntS.f kj12 t231 1).bind fun bt250 => ((laws_markIntS.f kj12 t234 bt250.1).bind fun bt252 => (if bt252.1 < 0 then (laws_FnExactMatched.j1 kj12 l0 l1 a2 a3 t227 t228 t237 true) else ((laws_eqPairS.f kj12 t237 t227).bind fun t254 => (if t254 = true then (laws_FnExactMatched.j1 kj12 l0 l1 a2 a3 t227 t228 t237 (t238 != t228)) else (laws_FnExactMatched.j1 kj12 l0 l1 a2 a3 t227 t228 t237 true)))))) else (some false)))) else (some false))) = some r := H
  have A33 := Kp.a A330
  clear A330
  replace H := Option.bind_eq_some_iff.mp H
  obtain ⟨t245, A340, H⟩ := H
  replace H : (if t245 = true then ((laws_toIntS.f kj12 l1).bind fun t246 => ((laws_eqIntS.f kj12 t234 t246).bind fun t249 => (if t249 = true then ((laws_markIntS.f kj12 t231 1).bind fun bt250 => ((laws_markIntS.f kj12 t234 bt250.1).bind fun bt252 => (if bt252.1 < 0 then (laws_FnExactMatched.j1 kj12 l0 l1 a2 a3 t227 t228 t237 true) else ((laws_eqPairS.f kj12 t237 t227).bind fun t254 => (if t254 = true then (laws_FnExactMatched.j1 kj12 l0 l1 a2 a3 t227 t228 t237 (t238 != t228)) else (laws_FnExactMatched.j1 kj12 l0 l1 a2 a3 t227 t228 t237 true)))))) else (some false)))) else (some false)) = some r := H
  have A34 := Kp.a A340
  clear A340
  by_cases c35 : t245 = true
  rotate_left
  ·replace c35 := Bool.eq_false_iff.mpr c35
   subst c35
   have H1 : (some false) = some r := by rw [if_neg (show ¬ (false = true) by decide)] at H; exact H
   clear H
   have H := H1
   clear H1
   obtain rfl := Option.some.inj H
   go_wp2_with (first | ((with_reducible refine gate_callee (f := 7) rfl ?_); refine goesL_ (some 59) rfl rfl Try.func7 (by kernel_rfl) rfl #[.slice A0 l0.length c0] rfl (by (try simp only [List.map_toArray, List.map_cons, List.map_nil]); first | done | rfl | (simp only [List.length_drop, List.length_take]; rfl)) ?_; (with_reducible refine (laws_toIntS.calls kj12 _ _ l0 t242 _ ?side1 ?side2 A33.out).mono ?_); (case side1 => repeat (first | exact (Kd.C_below HR0.out HB.out) | (with_reducible refine Kd.C_alloc ?_ _) | (with_reducible refine Kd.C_drewN ?_ _) | (with_reducible refine Kd.C_drew ?_))); (case side2 => exact HC0.out); rintro e w93 ⟨v243, rfl, ho0, hb⟩; refine ⟨_, rfl, ?_⟩; have n0_ := Kp.a (Kd.R_below (Kp.kpR HO_9.out) hb); have n1_ := Kp.a (Kd.R_elder' (Kp.kpR HO_11.out) (Kd.R_base ho0) hb); have n2_ := Kp.a (Kd.R_elder' (Kp.kpR HO_12.out) (Kd.R_base ho0) hb); have n3_ := Kp.a (Kd.R_below (Kp.kpR HO_13.out) hb); have n4_ := Kp.a (Kd.R_lower (Kd.R_new' (Kd.R_new' ho0 (Kd.R_lt (Kp.kpR HO_11.out))) (Kd.R_lt (Kp.kpR HO_12.out))) (below_size (Kp.kpL HB.out))); have n5_ := Kp.a (below_step (Kp.kpL HB.out) hb); clear HO_9; clear HO_11; clear HO_12; clear HO_13; clear HB; have HO_9 := n0_; have HO_11 := n1_; have HO_12 := n2_; have HO_13 := n3_; have HO244 := n4_; have HB := n5_; clear n0_ n1_ n2_ n3_ n4_ n5_; (try clear hb); (try clear hb2); (try clear hk); (try clear hi); (try clear ho0); obtain ⟨Ao94, co94, eo94⟩ := Kd.R_slice HO244.out; subst eo94) | ((with_reducible refine gate_callee (f := 10) rfl ?_); refine goesL_ (some 60) rfl rfl Try.func10 (by kernel_rfl) rfl #[.slice Ao21 t231.length co21, .slice Ao94 t242.length co94] rfl (by (try simp only [List.map_toArray, List.map_cons, List.map_nil]); first | done | rfl | (simp only [List.length_drop, List.length_take]; rfl)) ?_; (with_reducible refine (laws_eqIntS.calls kj12 _ _ t231 _ _ t242 false _ ?side1 ?side2 ?side3 ?side4 A34.out).mono ?_); (case side1 => repeat (first | exact (Kd.R_reads' HO_11.out).2.2 | (with_reducible refine Kd.C_alloc ?_ _) | (with_reducible refine Kd.C_drewN ?_ _) | (with_reducible refine Kd.C_drew ?_))); (case side2 => exact (Kd.R_reads' HO_11.out).2.1); (case side3 => repeat (first | exact (Kd.R_reads' HO244.out).2.2 | (with_reducible refine Kd.C_alloc ?_ _) | (with_reducible refine Kd.C_drewN ?_ _) | (with_reducible refine Kd.C_drew ?_))); (case side4 => exact (Kd.R_reads' HO244.out).2.1); rintro e w' ⟨rfl, ⟨nd, rfl⟩⟩; refine ⟨_, rfl, ?_⟩))
   go_ret
   exact ⟨by first | rfl | (simp [errW_none, errW_some] <;> rfl) | (simp [*, errW_none, errW_some] <;> rfl), Kp.kpL HB.out⟩
  subst c35
  have H1 : ((laws_toIntS.f kj12 l1).bind fun t246 => ((laws_eqIntS.f kj12 t234 t246).bind fun t249 => (if t249 = true then ((laws_markIntS.f kj12 t231 1).bind fun bt250 => ((laws_markIntS.f kj12 t234 bt250.1).bind fun bt252 => (if bt252.1 < 0 then (laws_FnExactMatched.j1 kj12 l0 l1 a2 a3 t227 t228 t237 true) else ((laws_eqPairS.f kj12 t237 t227).bind fun t254 => (if t254 = true then (laws_FnExactMatched.j1 kj12 l0 l1 a2 a3 t227 t228 t237 (t238 != t228)) else (laws_FnExactMatched.j1 kj12 l0 l1 a2 a3 t227 t228 t237 true)))))) else (some false)))) = some r := by rw [if_pos rfl] at H; exact H
  clear H
  have H := H1
  clear H1
  replace H := Option.bind_eq_some_iff.mp H
  obtain ⟨t246, A360, H⟩ := H
  replace H : ((laws_eqIntS.f kj12 t234 t246).bind fun t249 => (if t249 = true then ((laws_markIntS.f kj12 t231 1).bind fun bt250 => ((laws_markIntS.f kj12 t234 bt250.1).bind fun bt252 => (if bt252.1 < 0 then (laws_FnExactMatched.j1 kj12 l0 l1 a2 a3 t227 t228 t237 true) else ((laws_eqPairS.f kj12 t237 t227).bind fun t254 => (if t254 = true then (laws_FnExactMatched.j1 kj12 l0 l1 a2 a3 t227 t228 t237 (t238 != t228)) else (laws_FnExactMatched.j1 kj12 l0 l1 a2 a3 t227 t228 t237 true)))))) else (some false))) = some r := H
  have A36 := Kp.a A360
  clear A360
  replace H := Option.bind_eq_some_iff.mp H
  obtain ⟨t249, A370, H⟩ := H
  replace H : (if t249 = true then ((laws_markIntS.f kj12 t231 1).bind fun bt250 => ((laws_markIntS.f kj12 t234 bt250.1).bind fun bt252 => (if bt252.1 < 0 then (laws_FnExactMatched.j1 kj12 l0 l1 a2 a3 t227 t228 t237 true) else ((laws_eqPairS.f kj12 t237 t227).bind fun t254 => (if t254 = true then (laws_FnExactMatched.j1 kj12 l0 l1 a2 a3 t227 t228 t237 (t238 != t228)) else (laws_FnExactMatched.j1 kj12 l0 l1 a2 a3 t227 t228 t237 true)))))) else (some false)) = some r := H
  have A37 := Kp.a A370
  clear A370
  by_cases c38 : t249 = true
  rotate_left
  ·replace c38 := Bool.eq_false_iff.mpr c38
   subst c38
   have H1 : (some false) = some r := by rw [if_neg (show ¬ (false = true) by decide)] at H; exact H
   clear H
   have H := H1
   clear H1
   obtain rfl := Option.some.inj H
   go_wp2_with (first | ((with_reducible refine gate_callee (f := 7) rfl ?_); refine goesL_ (some 59) rfl rfl Try.func7 (by kernel_rfl) rfl #[.slice A0 l0.length c0] rfl (by (try simp only [List.map_toArray, List.map_cons, List.map_nil]); first | done | rfl | (simp only [List.length_drop, List.length_take]; rfl)) ?_; (with_reducible refine (laws_toIntS.calls kj12 _ _ l0 t242 _ ?side1 ?side2 A33.out).mono ?_); (case side1 => repeat (first | exact (Kd.C_below HR0.out HB.out) | (with_reducible refine Kd.C_alloc ?_ _) | (with_reducible refine Kd.C_drewN ?_ _) | (with_reducible refine Kd.C_drew ?_))); (case side2 => exact HC0.out); rintro e w89 ⟨v243, rfl, ho0, hb⟩; refine ⟨_, rfl, ?_⟩; have n0_ := Kp.a (Kd.R_below (Kp.kpR HO_9.out) hb); have n1_ := Kp.a (Kd.R_elder' (Kp.kpR HO_11.out) (Kd.R_base ho0) hb); have n2_ := Kp.a (Kd.R_elder' (Kp.kpR HO_12.out) (Kd.R_base ho0) hb); have n3_ := Kp.a (Kd.R_below (Kp.kpR HO_13.out) hb); have n4_ := Kp.a (Kd.R_lower (Kd.R_new' (Kd.R_new' ho0 (Kd.R_lt (Kp.kpR HO_11.out))) (Kd.R_lt (Kp.kpR HO_12.out))) (below_size (Kp.kpL HB.out))); have n5_ := Kp.a (below_step (Kp.kpL HB.out) hb); clear HO_9; clear HO_11; clear HO_12; clear HO_13; clear HB; have HO_9 := n0_; have HO_11 := n1_; have HO_12 := n2_; have HO_13 := n3_; have HO244 := n4_; have HB := n5_; clear n0_ n1_ n2_ n3_ n4_ n5_; (try clear hb); (try clear hb2); (try clear hk); (try clear hi); (try clear ho0); obtain ⟨Ao90, co90, eo90⟩ := Kd.R_slice HO244.out; subst eo90) | ((with_reducible refine gate_callee (f := 10) rfl ?_); refine goesL_ (some 60) rfl rfl Try.func10 (by kernel_rfl) rfl #[.slice Ao21 t231.length co21, .slice Ao90 t242.length co90] rfl (by (try simp only [List.map_toArray, List.map_cons, List.map_nil]); first | done | rfl | (simp only [List.length_drop, List.length_take]; rfl)) ?_; (with_reducible refine (laws_eqIntS.calls kj12 _ _ t231 _ _ t242 true _ ?side1 ?side2 ?side3 ?side4 A34.out).mono ?_); (case side1 => repeat (first | exact (Kd.R_reads' HO_11.out).2.2 | (with_reducible refine Kd.C_alloc ?_ _) | (with_reducible refine Kd.C_drewN ?_ _) | (with_reducible refine Kd.C_drew ?_))); (case side2 => exact (Kd.R_reads' HO_11.out).2.1); (case side3 => repeat (first | exact (Kd.R_reads' HO244.out).2.2 | (with_reducible refine Kd.C_alloc ?_ _) | (with_reducible refine Kd.C_drewN ?_ _) | (with_reducible refine Kd.C_drew ?_))); (case side4 => exact (Kd.R_reads' HO244.out).2.1); rintro e w' ⟨rfl, ⟨nd, rfl⟩⟩; refine ⟨_, rfl, ?_⟩) | ((with_reducible refine gate_callee (f := 7) rfl ?_); refine goesL_ (some 64) rfl rfl Try.func7 (by kernel_rfl) rfl #[.slice A1 l1.length c1] rfl (by (try simp only [List.map_toArray, List.map_cons, List.map_nil]); first | done | rfl | (simp only [List.length_drop, List.length_take]; rfl)) ?_; (with_reducible refine (laws_toIntS.calls kj12 _ _ l1 t246 _ ?side1 ?side2 A36.out).mono ?_); (case side1 => repeat (first | exact (Kd.C_below HR1.out (Kp.kpL HB.out)) | (with_reducible refine Kd.C_alloc ?_ _) | (with_reducible refine Kd.C_drewN ?_ _) | (with_reducible refine Kd.C_drew ?_))); (case side2 => exact HC1.out); rintro e w91 ⟨v247, rfl, ho0, hb⟩; refine ⟨_, rfl, ?_⟩; have n0_ := Kp.a (Kd.R_below (Kp.kpR HO_9.out) hb); have n1_ := Kp.a (Kd.R_elder' (Kp.kpR HO_11.out) (Kd.R_base ho0) hb); have n2_ := Kp.a (Kd.R_elder' (Kp.kpR HO_12.out) (Kd.R_base ho0) hb); have n3_ := Kp.a (Kd.R_below (Kp.kpR HO_13.out) hb); have n4_ := Kp.a (Kd.R_elder' (Kp.kpR HO244.out) (Kd.R_base ho0) hb); have n5_ := Kp.a (Kd.R_lower (Kd.R_new' (Kd.R_new' (Kd.R_new' ho0 (Kd.R_lt (Kp.kpR HO_11.out))) (Kd.R_lt (Kp.kpR HO_12.out))) (Kd.R_lt (Kp.kpR HO244.out))) (below_size (Kp.kpL HB.out))); have n6_ := Kp.a (below_step (Kp.kpL HB.out) hb); clear HO_9; clear HO_11; clear HO_12; clear HO_13; clear HO244; clear HB; have HO_9 := n0_; have HO_11 := n1_; have HO_12 := n2_; have HO_13 := n3_; have HO244 := n4_; have HO248 := n5_; have HB := n6_; clear n0_ n1_ n2_ n3_ n4_ n5_ n6_; (try clear hb); (try clear hb2); (try clear hk); (try clear hi); (try clear ho0); obtain ⟨Ao92, co92, eo92⟩ := Kd.R_slice HO248.out; subst eo92) | ((with_reducible refine gate_callee (f := 10) rfl ?_); refine goesL_ (some 65) rfl rfl Try.func10 (by kernel_rfl) rfl #[.slice Ao22 t234.length co22, .slice Ao92 t246.length co92] rfl (by (try simp only [List.map_toArray, List.map_cons, List.map_nil]); first | done | rfl | (simp only [List.length_drop, List.length_take]; rfl)) ?_; (with_reducible refine (laws_eqIntS.calls kj12 _ _ t234 _ _ t246 false _ ?side1 ?side2 ?side3 ?side4 A37.out).mono ?_); (case side1 => repeat (first | exact (Kd.R_reads' HO_12.out).2.2 | (with_reducible refine Kd.C_alloc ?_ _) | (with_reducible refine Kd.C_drewN ?_ _) | (with_reducible refine Kd.C_drew ?_))); (case side2 => exact (Kd.R_reads' HO_12.out).2.1); (case side3 => repeat (first | exact (Kd.R_reads' HO248.out).2.2 | (with_reducible refine Kd.C_alloc ?_ _) | (with_reducible refine Kd.C_drewN ?_ _) | (with_reducible refine Kd.C_drew ?_))); (case side4 => exact (Kd.R_reads' HO248.out).2.1); rintro e w' ⟨rfl, ⟨nd, rfl⟩⟩; refine ⟨_, rfl, ?_⟩))
   go_ret
   exact ⟨by first | rfl | (simp [errW_none, errW_some] <;> rfl) | (simp [*, errW_none, errW_some] <;> rfl), Kp.kpL HB.out⟩
  subst c38
  have H1 : ((laws_markIntS.f kj12 t231 1).bind fun bt250 => ((laws_markIntS.f kj12 t234 bt250.1).bind fun bt252 => (if bt252.1 < 0 then (laws_FnExactMatched.j1 kj12 l0 l1 a2 a3 t227 t228 t237 true) else ((laws_eqPairS.f kj12 t237 t227).bind fun t254 => (if t254 = true then (laws_FnExactMatched.j1 kj12 l0 l1 a2 a3 t227 t228 t237 (t238 != t228)) else (laws_FnExactMatched.j1 kj12 l0 l1 a2 a3 t227 t228 t237 true)))))) = some r := by rw [if_pos rfl] at H; exact H
  clear H
  have H := H1
  clear H1
  replace H := Option.bind_eq_some_iff.mp H
  obtain ⟨⟨t250, t251⟩, A390, H⟩ := H
  replace H : ((laws_markIntS.f kj12 t234 t250).bind fun bt252 => (if bt252.1 < 0 then (laws_FnExactMatched.j1 kj12 l0 l1 a2 a3 t227 t228 t237 true) else ((laws_eqPairS.f kj12 t237 t227).bind fun t254 => (if t254 = true then (laws_FnExactMatched.j1 kj12 l0 l1 a2 a3 t227 t228 t237 (t238 != t228)) else (laws_FnExactMatched.j1 kj12 l0 l1 a2 a3 t227 t228 t237 true))))) = some r := H
  have A39 := Kp.a A390
  clear A390
  replace H := Option.bind_eq_some_iff.mp H
  obtain ⟨⟨t252, t253⟩, A400, H⟩ := H
  replace H : (if t252 < 0 then (laws_FnExactMatched.j1 kj12 l0 l1 a2 a3 t227 t228 t237 true) else ((laws_eqPairS.f kj12 t237 t227).bind fun t254 => (if t254 = true then (laws_FnExactMatched.j1 kj12 l0 l1 a2 a3 t227 t228 t237 (t238 != t228)) else (laws_FnExactMatched.j1 kj12 l0 l1 a2 a3 t227 t228 t237 true)))) = some r := H
  have A40 := Kp.a A400
  clear A400
  have HC41 := Kp.a H
  clear H
  go_upto_region 18 with (first | ((with_reducible refine gate_callee (f := 7) rfl ?_); refine goesL_ (some 59) rfl rfl Try.func7 (by kernel_rfl) rfl #[.slice A0 l0.length c0] rfl (by (try simp only [List.map_toArray, List.map_cons, List.map_nil]); first | done | rfl | (simp only [List.length_drop, List.length_take]; rfl)) ?_; (with_reducible refine (laws_toIntS.calls kj12 _ _ l0 t242 _ ?side1 ?side2 A33.out).mono ?_); (case side1 => repeat (first | exact (Kd.C_below HR0.out HB.out) | (with_reducible refine Kd.C_alloc ?_ _) | (with_reducible refine Kd.C_drewN ?_ _) | (with_reducible refine Kd.C_drew ?_))); (case side2 => exact HC0.out); rintro e w42 ⟨v243, rfl, ho0, hb⟩; refine ⟨_, rfl, ?_⟩; have n0_ := Kp.a (Kd.R_below (Kp.kpR HO_9.out) hb); have n1_ := Kp.a (Kd.R_elder' (Kp.kpR HO_11.out) (Kd.R_base ho0) hb); have n2_ := Kp.a (Kd.R_elder' (Kp.kpR HO_12.out) (Kd.R_base ho0) hb); have n3_ := Kp.a (Kd.R_below (Kp.kpR HO_13.out) hb); have n4_ := Kp.a (Kd.R_lower (Kd.R_new' (Kd.R_new' ho0 (Kd.R_lt (Kp.kpR HO_11.out))) (Kd.R_lt (Kp.kpR HO_12.out))) (below_size (Kp.kpL HB.out))); have n5_ := Kp.a (below_step (Kp.kpL HB.out) hb); clear HO_9; clear HO_11; clear HO_12; clear HO_13; clear HB; have HO_9 := n0_; have HO_11 := n1_; have HO_12 := n2_; have HO_13 := n3_; have HO244 := n4_; have HB := n5_; clear n0_ n1_ n2_ n3_ n4_ n5_; (try clear hb); (try clear hb2); (try clear hk); (try clear hi); (try clear ho0); obtain ⟨Ao43, co43, eo43⟩ := Kd.R_slice HO244.out; subst eo43) | ((with_reducible refine gate_callee (f := 10) rfl ?_); refine goesL_ (some 60) rfl rfl Try.func10 (by kernel_rfl) rfl #[.slice Ao21 t231.length co21, .slice Ao43 t242.length co43] rfl (by (try simp only [List.map_toArray, List.map_cons, List.map_nil]); first | done | rfl | (simp only [List.length_drop, List.length_take]; rfl)) ?_; (with_reducible refine (laws_eqIntS.calls kj12 _ _ t231 _ _ t242 true _ ?side1 ?side2 ?side3 ?side4 A34.out).mono ?_); (case side1 => repeat (first | exact (Kd.R_reads' HO_11.out).2.2 | (with_reducible refine Kd.C_alloc ?_ _) | (with_reducible refine Kd.C_drewN ?_ _) | (with_reducible refine Kd.C_drew ?_))); (case side2 => exact (Kd.R_reads' HO_11.out).2.1); (case side3 => repeat (first | exact (Kd.R_reads' HO244.out).2.2 | (with_reducible refine Kd.C_alloc ?_ _) | (with_reducible refine Kd.C_drewN ?_ _) | (with_reducible refine Kd.C_drew ?_))); (case side4 => exact (Kd.R_reads' HO244.out).2.1); rintro e w' ⟨rfl, ⟨nd, rfl⟩⟩; refine ⟨_, rfl, ?_⟩) | ((with_reducible refine gate_callee (f := 7) rfl ?_); refine goesL_ (some 64) rfl rfl Try.func7 (by kernel_rfl) rfl #[.slice A1 l1.length c1] rfl (by (try simp only [List.map_toArray, List.map_cons, List.map_nil]); first | done | rfl | (simp only [List.length_drop, List.length_take]; rfl)) ?_; (with_reducible refine (laws_toIntS.calls kj12 _ _ l1 t246 _ ?side1 ?side2 A36.out).mono ?_); (case side1 => repeat (first | exact (Kd.C_below HR1.out (Kp.kpL HB.out)) | (with_reducible refine Kd.C_alloc ?_ _) | (with_reducible refine Kd.C_drewN ?_ _) | (with_reducible refine Kd.C_drew ?_))); (case side2 => exact HC1.out); rintro e w44 ⟨v247, rfl, ho0, hb⟩; refine ⟨_, rfl, ?_⟩; have n0_ := Kp.a (Kd.R_below (Kp.kpR HO_9.out) hb); have n1_ := Kp.a (Kd.R_elder' (Kp.kpR HO_11.out) (Kd.R_base ho0) hb); have n2_ := Kp.a (Kd.R_elder' (Kp.kpR HO_12.out) (Kd.R_base ho0) hb); have n3_ := Kp.a (Kd.R_below (Kp.kpR HO_13.out) hb); have n4_ := Kp.a (Kd.R_elder' (Kp.kpR HO244.out) (Kd.R_base ho0) hb); have n5_ := Kp.a (Kd.R_lower (Kd.R_new' (Kd.R_new' (Kd.R_new' ho0 (Kd.R_lt (Kp.kpR HO_11.out))) (Kd.R_lt (Kp.kpR HO_12.out))) (Kd.R_lt (Kp.kpR HO244.out))) (below_size (Kp.kpL HB.out))); have n6_ := Kp.a (below_step (Kp.kpL HB.out) hb); clear HO_9; clear HO_11; clear HO_12; clear HO_13; clear HO244; clear HB; have HO_9 := n0_; have HO_11 := n1_; have HO_12 := n2_; have HO_13 := n3_; have HO244 := n4_; have HO248 := n5_; have HB := n6_; clear n0_ n1_ n2_ n3_ n4_ n5_ n6_; (try clear hb); (try clear hb2); (try clear hk); (try clear hi); (try clear ho0); obtain ⟨Ao45, co45, eo45⟩ := Kd.R_slice HO248.out; subst eo45) | ((with_reducible refine gate_callee (f := 10) rfl ?_); refine goesL_ (some 65) rfl rfl Try.func10 (by kernel_rfl) rfl #[.slice Ao22 t234.length co22, .slice Ao45 t246.length co45] rfl (by (try simp only [List.map_toArray, List.map_cons, List.map_nil]); first | done | rfl | (simp only [List.length_drop, List.length_take]; rfl)) ?_; (with_reducible refine (laws_eqIntS.calls kj12 _ _ t234 _ _ t246 true _ ?side1 ?side2 ?side3 ?side4 A37.out).mono ?_); (case side1 => repeat (first | exact (Kd.R_reads' HO_12.out).2.2 | (with_reducible refine Kd.C_alloc ?_ _) | (with_reducible refine Kd.C_drewN ?_ _) | (with_reducible refine Kd.C_drew ?_))); (case side2 => exact (Kd.R_reads' HO_12.out).2.1); (case side3 => repeat (first | exact (Kd.R_reads' HO248.out).2.2 | (with_reducible refine Kd.C_alloc ?_ _) | (with_reducible refine Kd.C_drewN ?_ _) | (with_reducible refine Kd.C_drew ?_))); (case side4 => exact (Kd.R_reads' HO248.out).2.1); rintro e w' ⟨rfl, ⟨nd, rfl⟩⟩; refine ⟨_, rfl, ?_⟩) | ((with_reducible refine gate_callee (f := 11) rfl ?_); refine goesL_ (some 69) rfl rfl Try.func11 (by kernel_rfl) rfl #[.slice Ao21 t231.length co21, .int .i64 1] rfl (by (try simp only [List.map_toArray, List.map_cons, List.map_nil]); first | done | rfl | (simp only [List.length_drop, List.length_take]; rfl)) ?_; (with_reducible refine (laws_markIntS.calls kj12 (fun k_ => some k_ = (.slice Ao21 t231.length co21 : Value).ownBlock) (.slice Ao21 t231.length co21) t231 1 t250 t251 w _ ?side1 ?side2 A39.out).mono ?_); (case side1 => repeat (first | (with_reducible first | exact HB.out | apply below_alloc | apply pw_below_drewN | apply below_drew1) | exact HB.out)); (case side2 => exact Kd.R_tight rfl HO_11.out); rintro e w46 ⟨rfl, hy0, hb, hkp⟩; refine ⟨_, rfl, ?_⟩; have n0_ := Kp.a (Kd.R_mono (ok' := fun k_ => some k_ ≠ (v239 : Value).ownBlock) (Kd.R_keptB ((Kd.R_apart' HO_9.out (Kd.R_typed HO_11.out) (by decide))) hkp (fun k_ hk_ hs_ => (hk_.2) hs_)) (fun k_ hk_ => hk_.1.1)); have n1_ := Kp.a (Kd.R_reok rfl hy0 (fun k_ e_ => HO_11.out.1 k_ e_)); have n2_ := Kp.a (Kd.R_mono (ok' := fun k_ => some k_ ≠ (.slice Ao21 t231.length co21 : Value).ownBlock ∧ some k_ ≠ (.slice Ao43 t242.length co43 : Value).ownBlock ∧ some k_ ≠ (.slice Ao45 t246.length co45 : Value).ownBlock) (Kd.R_keptB (HO_12.out) hkp (fun k_ hk_ hs_ => (hk_.1.1) hs_)) (fun k_ hk_ => ⟨hk_.1.1.1, hk_.1.1.2, hk_.1.2⟩)); have n3_ := Kp.a (Kd.R_mono (ok' := fun k_ => some k_ ≠ (v229 : Value).ownBlock) (Kd.R_keptB ((Kd.R_apart' HO_13.out (Kd.R_typed HO_11.out) (by decide))) hkp (fun k_ hk_ hs_ => (hk_.2) hs_)) (fun k_ hk_ => hk_.1.1)); have n4_ := Kp.a (Kd.R_mono (ok' := fun k_ => some k_ ≠ (.slice Ao21 t231.length co21 : Value).ownBlock ∧ some k_ ≠ (.slice Ao22 t234.length co22 : Value).ownBlock ∧ some k_ ≠ (.slice Ao45 t246.length co45 : Value).ownBlock) (Kd.R_keptB (HO244.out) hkp (fun k_ hk_ hs_ => (hk_.1.1.2) hs_)) (fun k_ hk_ => ⟨hk_.1.1.1.2, hk_.1.1.2, hk_.1.2⟩)); have n5_ := Kp.a (Kd.R_mono (ok' := fun k_ => some k_ ≠ (.slice Ao21 t231.length co21 : Value).ownBlock ∧ some k_ ≠ (.slice Ao22 t234.length co22 : Value).ownBlock ∧ some k_ ≠ (.slice Ao43 t242.length co43 : Value).ownBlock) (Kd.R_keptB (HO248.out) hkp (fun k_ hk_ hs_ => (hk_.1.1.2) hs_)) (fun k_ hk_ => ⟨hk_.1.1.1.2, hk_.1.1.2, hk_.1.2⟩)); have n6_ := Kp.a (hb); clear HO_9; clear HO_11; clear HO_12; clear HO_13; clear HO244; clear HO248; clear HB; have HO_9 := n0_; have HO_11 := n1_; have HO_12 := n2_; have HO_13 := n3_; have HO244 := n4_; have HO248 := n5_; have HB := n6_; clear n0_ n1_ n2_ n3_ n4_ n5_ n6_; (try clear hb); (try clear hkp); (try clear hy0)) | ((with_reducible refine gate_callee (f := 11) rfl ?_); refine goesL_ (some 72) rfl rfl Try.func11 (by kernel_rfl) rfl #[.slice Ao22 t234.length co22, .int .i64 t250] rfl (by (try simp only [List.map_toArray, List.map_cons, List.map_nil]); first | done | rfl | (simp only [List.length_drop, List.length_take]; rfl)) ?_; (with_reducible refine (laws_markIntS.calls kj12 (fun k_ => some k_ = (.slice Ao22 t234.length co22 : Value).ownBlock) (.slice Ao22 t234.length co22) t234 t250 t252 t253 w _ ?side1 ?side2 A40.out).mono ?_); (case side1 => repeat (first | (with_reducible first | exact HB.out | apply below_alloc | apply pw_below_drewN | apply below_drew1) | exact HB.out)); (case side2 => exact Kd.R_tight rfl HO_12.out); rintro e w47 ⟨rfl, hy0, hb, hkp⟩; refine ⟨_, rfl, ?_⟩; have n0_ := Kp.a (Kd.R_mono (ok' := fun k_ => some k_ ≠ (v239 : Value).ownBlock) (Kd.R_keptB ((Kd.R_apart' HO_9.out (Kd.R_typed HO_12.out) (by decide))) hkp (fun k_ hk_ hs_ => (hk_.2) hs_)) (fun k_ hk_ => hk_.1.1)); have n1_ := Kp.a (Kd.R_mono (ok' := fun k_ => some k_ ≠ (.slice Ao22 t234.length co22 : Value).ownBlock ∧ some k_ ≠ (.slice Ao43 t242.length co43 : Value).ownBlock ∧ some k_ ≠ (.slice Ao45 t246.length co45 : Value).ownBlock) (Kd.R_keptB (HO_11.out) hkp (fun k_ hk_ hs_ => (hk_.1.1) hs_)) (fun k_ hk_ => ⟨hk_.1.1.1, hk_.1.1.2, hk_.1.2⟩)); have n2_ := Kp.a (Kd.R_reok rfl hy0 (fun k_ e_ => HO_12.out.1 k_ e_)); have n3_ := Kp.a (Kd.R_mono (ok' := fun k_ => some k_ ≠ (v229 : Value).ownBlock) (Kd.R_keptB ((Kd.R_apart' HO_13.out (Kd.R_typed HO_12.out) (by decide))) hkp (fun k_ hk_ hs_ => (hk_.2) hs_)) (fun k_ hk_ => hk_.1.1)); have n4_ := Kp.a (Kd.R_mono (ok' := fun k_ => some k_ ≠ (.slice Ao21 t231.length co21 : Value).ownBlock ∧ some k_ ≠ (.slice Ao22 t234.length co22 : Value).ownBlock ∧ some k_ ≠ (.slice Ao45 t246.length co45 : Value).ownBlock) (Kd.R_keptB (HO244.out) hkp (fun k_ hk_ hs_ => (hk_.2.1) hs_)) (fun k_ hk_ => ⟨hk_.1.1, hk_.1.2.1, hk_.1.2.2⟩)); have n5_ := Kp.a (Kd.R_mono (ok' := fun k_ => some k_ ≠ (.slice Ao21 t231.length co21 : Value).ownBlock ∧ some k_ ≠ (.slice Ao22 t234.length co22 : Value).ownBlock ∧ some k_ ≠ (.slice Ao43 t242.length co43 : Value).ownBlock) (Kd.R_keptB (HO248.out) hkp (fun k_ hk_ hs_ => (hk_.2.1) hs_)) (fun k_ hk_ => ⟨hk_.1.1, hk_.1.2.1, hk_.1.2.2⟩)); have n6_ := Kp.a (hb); clear HO_9; clear HO_11; clear HO_12; clear HO_13; clear HO244; clear HO248; clear HB; have HO_9 := n0_; have HO_11 := n1_; have HO_12 := n2_; have HO_13 := n3_; have HO244 := n4_; have HO248 := n5_; have HB := n6_; clear n0_ n1_ n2_ n3_ n4_ n5_ n6_; (try clear hb); (try clear hkp); (try clear hy0)))
  (try simp only [Act.put, Kp.s0, Kp.s1, Kp.s2])
  go_cut [85] (fun v85 wc => ∃ (kq : Nat) (x85_40 : Bool), v85 = .bool x85_40 ∧ Aside0 (laws_FnExactMatched.j1 kq l0 l1 a2 a3 t227 t228 t237 x85_40 = some r) ∧ Aside0 (kq ≤ kj12) ∧ Aside0 (Kd.R k37 37 wc w.heap.size (fun k_ => some k_ ≠ (v239 : Value).ownBlock) v229 t227) ∧ Aside0 (Kd.R k37 37 wc w.heap.size (fun k_ => some k_ ≠ (v229 : Value).ownBlock) v239 t237) ∧ Aside0 (Below w.heap.size w wc))
  case first =>
   have H := HC41.out
   clear HC41
   by_cases c48 : t252 < 0
   ·rw [if_pos c48] at H
    have c48b0 : decide (t252 < 0) = true := decide_eq_true c48
    clear c48
    (first | rw [c48b0] | (simp only [i64_w, i32_w]; rw [c48b0]) | skip)
    have H' := Kp.a H
    clear H
    go_wp2
    go_meet
    case rel => exact ⟨_, (true), (by first | rfl | (simp; done) | (simp [*]; done)), H', ⟨by have := HJ12.out; first | omega | exact Nat.le_refl _⟩, ⟨Kp.kpR HO_9.out⟩, ⟨Kp.kpR HO_13.out⟩, ⟨Kp.kpL HB.out⟩⟩
   rw [if_neg c48] at H
   have c48b0 : decide (t252 < 0) = false := decide_eq_false c48
   clear c48
   (first | rw [c48b0] | (simp only [i64_w, i32_w]; rw [c48b0]) | skip)
   replace H := Option.bind_eq_some_iff.mp H
   obtain ⟨t254, A490, H⟩ := H
   replace H : (if t254 = true then (laws_FnExactMatched.j1 kj12 l0 l1 a2 a3 t227 t228 t237 (t238 != t228)) else (laws_FnExactMatched.j1 kj12 l0 l1 a2 a3 t227 t228 t237 true)) = some r := H
   have A49 := Kp.a A490
   clear A490
   by_cases c50 : t254 = true
   ·subst c50
    have H1 : (laws_FnExactMatched.j1 kj12 l0 l1 a2 a3 t227 t228 t237 (t238 != t228)) = some r := by rw [if_pos rfl] at H; exact H
    clear H
    have H := H1
    clear H1
    have H' := Kp.a H
    clear H
    obtain ⟨Ao51, co51, eo51⟩ := Kd.R_slice HO_13.out
    subst eo51
    obtain ⟨Ao52, co52, eo52⟩ := Kd.R_slice HO_9.out
    subst eo52
    go_wp2_with (first | (go_at_call 9; (with_reducible refine (laws_eqPairS.calls kj12 _ _ t237 _ _ t227 true _ ?side1 ?side2 ?side3 ?side4 A49.out).mono ?_); (case side1 => repeat (first | exact (Kd.R_reads' HO_13.out).2.2 | (with_reducible refine Kd.C_alloc ?_ _) | (with_reducible refine Kd.C_drewN ?_ _) | (with_reducible refine Kd.C_drew ?_))); (case side2 => exact (Kd.R_reads' HO_13.out).2.1); (case side3 => repeat (first | exact (Kd.R_reads' HO_9.out).2.2 | (with_reducible refine Kd.C_alloc ?_ _) | (with_reducible refine Kd.C_drewN ?_ _) | (with_reducible refine Kd.C_drew ?_))); (case side4 => exact (Kd.R_reads' HO_9.out).2.1); rintro e w53 ⟨rfl, hb⟩; have n0_ := Kp.a (Kd.R_below (Kp.kpR HO_9.out) hb); have n1_ := Kp.a (Kd.R_below (Kp.kpR HO_11.out) hb); have n2_ := Kp.a (Kd.R_below (Kp.kpR HO_12.out) hb); have n3_ := Kp.a (Kd.R_below (Kp.kpR HO_13.out) hb); have n4_ := Kp.a (Kd.R_below (Kp.kpR HO244.out) hb); have n5_ := Kp.a (Kd.R_below (Kp.kpR HO248.out) hb); have n6_ := Kp.a (below_step (Kp.kpL HB.out) hb); clear HO_9; clear HO_11; clear HO_12; clear HO_13; clear HO244; clear HO248; clear HB; have HO_9 := n0_; have HO_11 := n1_; have HO_12 := n2_; have HO_13 := n3_; have HO244 := n4_; have HO248 := n5_; have HB := n6_; clear n0_ n1_ n2_ n3_ n4_ n5_ n6_; (try clear hb); (try clear hb2); (try clear hk); (try clear hi)))
    go_meet
    case rel => exact ⟨_, ((t238 != t228)), (by first | rfl | (simp; done) | (simp [*]; done)), H', ⟨by have := HJ12.out; first | omega | exact Nat.le_refl _⟩, ⟨Kp.kpR HO_9.out⟩, ⟨Kp.kpR HO_13.out⟩, ⟨Kp.kpL HB.out⟩⟩
   replace c50 := Bool.eq_false_iff.mpr c50
   subst c50
   have H1 : (laws_FnExactMatched.j1 kj12 l0 l1 a2 a3 t227 t228 t237 true) = some r := by rw [if_neg (show ¬ (false = true) by decide)] at H; exact H
   clear H
   have H := H1
   clear H1
   have H' := Kp.a H
   clear H
   obtain ⟨Ao54, co54, eo54⟩ := Kd.R_slice HO_13.out
   subst eo54
   obtain ⟨Ao55, co55, eo55⟩ := Kd.R_slice HO_9.out
   subst eo55
   go_wp2_with (first | (go_at_call 9; (with_reducible refine (laws_eqPairS.calls kj12 _ _ t237 _ _ t227 false _ ?side1 ?side2 ?side3 ?side4 A49.out).mono ?_); (case side1 => repeat (first | exact (Kd.R_reads' HO_13.out).2.2 | (with_reducible refine Kd.C_alloc ?_ _) | (with_reducible refine Kd.C_drewN ?_ _) | (with_reducible refine Kd.C_drew ?_))); (case side2 => exact (Kd.R_reads' HO_13.out).2.1); (case side3 => repeat (first | exact (Kd.R_reads' HO_9.out).2.2 | (with_reducible refine Kd.C_alloc ?_ _) | (with_reducible refine Kd.C_drewN ?_ _) | (with_reducible refine Kd.C_drew ?_))); (case side4 => exact (Kd.R_reads' HO_9.out).2.1); rintro e w56 ⟨rfl, hb⟩; have n0_ := Kp.a (Kd.R_below (Kp.kpR HO_9.out) hb); have n1_ := Kp.a (Kd.R_below (Kp.kpR HO_11.out) hb); have n2_ := Kp.a (Kd.R_below (Kp.kpR HO_12.out) hb); have n3_ := Kp.a (Kd.R_below (Kp.kpR HO_13.out) hb); have n4_ := Kp.a (Kd.R_below (Kp.kpR HO244.out) hb); have n5_ := Kp.a (Kd.R_below (Kp.kpR HO248.out) hb); have n6_ := Kp.a (below_step (Kp.kpL HB.out) hb); clear HO_9; clear HO_11; clear HO_12; clear HO_13; clear HO244; clear HO248; clear HB; have HO_9 := n0_; have HO_11 := n1_; have HO_12 := n2_; have HO_13 := n3_; have HO244 := n4_; have HO248 := n5_; have HB := n6_; clear n0_ n1_ n2_ n3_ n4_ n5_ n6_; (try clear hb); (try clear hb2); (try clear hk); (try clear hi)))
   go_meet
   case rel => exact ⟨_, (true), (by first | rfl | (simp; done) | (simp [*]; done)), H', ⟨by have := HJ12.out; first | omega | exact Nat.le_refl _⟩, ⟨Kp.kpR HO_9.out⟩, ⟨Kp.kpR HO_13.out⟩, ⟨Kp.kpL HB.out⟩⟩
  clear HC41
  try clear c1
  try clear c2
  try clear p2
  try clear c3
  try clear c4
  try clear c5
  try clear c5b0
  try clear c5b1
  try clear c6
  try clear c6b0
  try clear c6b1
  try clear c7
  try clear c8
  try clear c9
  try clear c10
  try clear c11
  try clear c25
  try clear c32
  try clear c35
  try clear c38
  try clear c48
  try clear c48b0
  try clear c50
  try clear p2
  obtain ⟨kq, x85_40, rfl, HA, HJ40, HO_9, HO_13, HB⟩ := hcut
  cases kq with
  | zero => exact absurd HA.out (by simp [laws_FnExactMatched.j1])
  | succ kj40 =>
   have H := HA.out
   clear HA
   simp only [laws_FnExactMatched.j1] at H
   by_cases c57 : x85_40 = true
   ·subst c57
    have H1 : (some false) = some r := by rw [if_pos rfl] at H; exact H
    clear H
    have H := H1
    clear H1
    obtain rfl := Option.some.inj H
    go_wp2
    go_ret
    exact ⟨by first | rfl | (simp [errW_none, errW_some] <;> rfl) | (simp [*, errW_none, errW_some] <;> rfl), Kp.kpL HB.out⟩
   replace c57 := Bool.eq_false_iff.mpr c57
   subst c57
   have H1 : ((laws_markPairS.f kj40 t237 1).bind fun bt255 => ((laws_heldPairS.f kj40 bt255.2 1).bind fun t257 => (if t257 < 0 then (some false) else (if t257 = bt255.1 then ((laws_toIntS.f kj40 l0).bind fun t258 => ((laws_toIntS.f kj40 l1).bind fun t261 => ((impl_Matched.f kj40 t258 t261 a2 a3).bind fun bt264 => ((laws_eqPairS.f kj40 bt264.1 t227).bind fun t268 => (if t268 = true then (laws_FnExactMatched.j2 kj40 bt255.2 bt255.1 (bt264.2 != t228)) else (laws_FnExactMatched.j2 kj40 bt255.2 bt255.1 true)))))) else (some false))))) = some r := by rw [if_neg (show ¬ (false = true) by decide)] at H; exact H
   clear H
   have H := H1
   clear H1
   replace H := Option.bind_eq_some_iff.mp H
   obtain ⟨⟨t255, t256⟩, A580, H⟩ := H
   replace H : ((laws_heldPairS.f kj40 t256 1).bind fun t257 => (if t257 < 0 then (some false) else (if t257 = t255 then ((laws_toIntS.f kj40 l0).bind fun t258 => ((laws_toIntS.f kj40 l1).bind fun t261 => ((impl_Matched.f kj40 t258 t261 a2 a3).bind fun bt264 => ((laws_eqPairS.f kj40 bt264.1 t227).bind fun t268 => (if t268 = true then (laws_FnExactMatched.j2 kj40 t256 t255 (bt264.2 != t228)) else (laws_FnExactMatched.j2 kj40 t256 t255 true)))))) else (some false)))) = some r := H
   have A58 := Kp.a A580
   clear A580
   replace H := Option.bind_eq_some_iff.mp H
   obtain ⟨t257, A590, H⟩ := H
   replace H : (if t257 < 0 then (some false) else (if t257 = t255 then ((laws_toIntS.f kj40 l0).bind fun t258 => ((laws_toIntS.f kj40 l1).bind fun t261 => ((impl_Matched.f kj40 t258 t261 a2 a3).bind fun bt264 => ((laws_eqPairS.f kj40 bt264.1 t227).bind fun t268 => (if t268 = true then (laws_FnExactMatched.j2 kj40 t256 t255 (bt264.2 != t228)) else (laws_FnExactMatched.j2 kj40 t256 t255 true)))))) else (some false))) = some r := H
   have A59 := Kp.a A590
   clear A590
   by_cases c60 : t257 < 0
   ·rw [if_pos c60] at H
    have c60b0 : decide (t257 < 0) = true := decide_eq_true c60
    clear c60
    obtain rfl := Option.some.inj H
    obtain ⟨Ao61, co61, eo61⟩ := Kd.R_slice HO_13.out
    subst eo61
    go_wp2_with (first | ((with_reducible refine gate_callee (f := 12) rfl ?_); refine goesL_ (some 88) rfl rfl Try.func12 (by kernel_rfl) rfl #[.slice Ao61 t237.length co61, .int .i64 1] rfl (by (try simp only [List.map_toArray, List.map_cons, List.map_nil]); first | done | rfl | (simp only [List.length_drop, List.length_take]; rfl)) ?_; (with_reducible refine (laws_markPairS.calls kj40 (fun k_ => some k_ = (.slice Ao61 t237.length co61 : Value).ownBlock) (.slice Ao61 t237.length co61) t237 1 t255 t256 w _ ?side1 ?side2 A58.out).mono ?_); (case side1 => repeat (first | (with_reducible first | exact HB.out | apply below_alloc | apply pw_below_drewN | apply below_drew1) | exact HB.out)); (case side2 => exact Kd.R_tight rfl HO_13.out); rintro e w62 ⟨rfl, hy0, hb, hkp⟩; refine ⟨_, rfl, ?_⟩; have n0_ := Kp.a (Kd.R_mono (ok' := fun k_ => some k_ ≠ (.slice Ao61 t237.length co61 : Value).ownBlock) (Kd.R_keptB (HO_9.out) hkp (fun k_ hk_ hs_ => (hk_) hs_)) (fun k_ hk_ => hk_.1)); have n1_ := Kp.a (Kd.R_reok rfl hy0 (fun k_ e_ => HO_13.out.1 k_ e_)); have n2_ := Kp.a (hb); clear HO_9; clear HO_13; clear HB; have HO_9 := n0_; have HO_13 := n1_; have HB := n2_; clear n0_ n1_ n2_; (try clear hb); (try clear hkp); (try clear hy0)) | ((with_reducible refine gate_callee (f := 13) rfl ?_); refine goesL_ (some 91) rfl rfl Try.func13 (by kernel_rfl) rfl #[.slice Ao61 t256.length co61, .int .i64 1] rfl (by (try simp only [List.map_toArray, List.map_cons, List.map_nil]); first | done | (rw [show t256.length = t237.length from (Kd.R_reads' HO_13.out).1.symm] <;> rfl) | rfl | (simp only [List.length_drop, List.length_take]; rfl)) ?_; (with_reducible refine (laws_heldPairS.calls kj40 _ _ t256 1 t257 _ ?side1 ?side2 A59.out).mono ?_); (case side1 => repeat (first | exact (Kd.R_reads' HO_13.out).2.2 | (with_reducible refine Kd.C_alloc ?_ _) | (with_reducible refine Kd.C_drewN ?_ _) | (with_reducible refine Kd.C_drew ?_))); (case side2 => rw [show t256.length = t237.length from (Kd.R_reads' HO_13.out).1.symm]; exact (Kd.R_reads' HO_13.out).2.1); rintro e w' ⟨rfl, ⟨nd, rfl⟩⟩; refine ⟨_, rfl, ?_⟩))
    go_ret
    exact ⟨by first | rfl | (simp [errW_none, errW_some] <;> rfl) | (simp [*, errW_none, errW_some] <;> rfl), Kp.kpL HB.out⟩
   rw [if_neg c60] at H
   have c60b0 : decide (t257 < 0) = false := decide_eq_false c60
   clear c60
   by_cases c63 : t257 = t255
   rotate_left
   ·rw [if_neg c63] at H
    have c63b0 : (t257 == t255) = false := beq_eq_false_iff_ne.mpr c63
    have c63b1 : (t257 != t255) = true := bne_iff_ne.mpr c63
    obtain rfl := Option.some.inj H
    obtain ⟨Ao87, co87, eo87⟩ := Kd.R_slice HO_13.out
    subst eo87
    go_wp2_with (first | ((with_reducible refine gate_callee (f := 12) rfl ?_); refine goesL_ (some 88) rfl rfl Try.func12 (by kernel_rfl) rfl #[.slice Ao87 t237.length co87, .int .i64 1] rfl (by (try simp only [List.map_toArray, List.map_cons, List.map_nil]); first | done | rfl | (simp only [List.length_drop, List.length_take]; rfl)) ?_; (with_reducible refine (laws_markPairS.calls kj40 (fun k_ => some k_ = (.slice Ao87 t237.length co87 : Value).ownBlock) (.slice Ao87 t237.length co87) t237 1 t255 t256 w _ ?side1 ?side2 A58.out).mono ?_); (case side1 => repeat (first | (with_reducible first | exact HB.out | apply below_alloc | apply pw_below_drewN | apply below_drew1) | exact HB.out)); (case side2 => exact Kd.R_tight rfl HO_13.out); rintro e w88 ⟨rfl, hy0, hb, hkp⟩; refine ⟨_, rfl, ?_⟩; have n0_ := Kp.a (Kd.R_mono (ok' := fun k_ => some k_ ≠ (.slice Ao87 t237.length co87 : Value).ownBlock) (Kd.R_keptB (HO_9.out) hkp (fun k_ hk_ hs_ => (hk_) hs_)) (fun k_ hk_ => hk_.1)); have n1_ := Kp.a (Kd.R_reok rfl hy0 (fun k_ e_ => HO_13.out.1 k_ e_)); have n2_ := Kp.a (hb); clear HO_9; clear HO_13; clear HB; have HO_9 := n0_; have HO_13 := n1_; have HB := n2_; clear n0_ n1_ n2_; (try clear hb); (try clear hkp); (try clear hy0)) | ((with_reducible refine gate_callee (f := 13) rfl ?_); refine goesL_ (some 91) rfl rfl Try.func13 (by kernel_rfl) rfl #[.slice Ao87 t256.length co87, .int .i64 1] rfl (by (try simp only [List.map_toArray, List.map_cons, List.map_nil]); first | done | (rw [show t256.length = t237.length from (Kd.R_reads' HO_13.out).1.symm] <;> rfl) | rfl | (simp only [List.length_drop, List.length_take]; rfl)) ?_; (with_reducible refine (laws_heldPairS.calls kj40 _ _ t256 1 t257 _ ?side1 ?side2 A59.out).mono ?_); (case side1 => repeat (first | exact (Kd.R_reads' HO_13.out).2.2 | (with_reducible refine Kd.C_alloc ?_ _) | (with_reducible refine Kd.C_drewN ?_ _) | (with_reducible refine Kd.C_drew ?_))); (case side2 => rw [show t256.length = t237.length from (Kd.R_reads' HO_13.out).1.symm]; exact (Kd.R_reads' HO_13.out).2.1); rintro e w' ⟨rfl, ⟨nd, rfl⟩⟩; refine ⟨_, rfl, ?_⟩))
    go_ret
    exact ⟨by first | rfl | (simp [errW_none, errW_some] <;> rfl) | (simp [*, errW_none, errW_some] <;> rfl), Kp.kpL HB.out⟩
   rw [if_pos c63] at H
   have c63b0 : (t257 == t255) = true := beq_iff_eq.mpr c63
   have c63b1 : (t257 != t255) = false := bne_eq_false_iff_eq.mpr c63
   clear c63
   replace H := Option.bind_eq_some_iff.mp H
   obtain ⟨t258, A640, H⟩ := H
   replace H : ((laws_toIntS.f kj40 l1).bind fun t261 => ((impl_Matched.f kj40 t258 t261 a2 a3).bind fun bt264 => ((laws_eqPairS.f kj40 bt264.1 t227).bind fun t268 => (if t268 = true then (laws_FnExactMatched.j2 kj40 t256 t255 (bt264.2 != t228)) else (laws_FnExactMatched.j2 kj40 t256 t255 true))))) = some r := H
   have A64 := Kp.a A640
   clear A640
   replace H := Option.bind_eq_some_iff.mp H
   obtain ⟨t261, A650, H⟩ := H
   replace H : ((impl_Matched.f kj40 t258 t261 a2 a3).bind fun bt264 => ((laws_eqPairS.f kj40 bt264.1 t227).bind fun t268 => (if t268 = true then (laws_FnExactMatched.j2 kj40 t256 t255 (bt264.2 != t228)) else (laws_FnExactMatched.j2 kj40 t256 t255 true)))) = some r := H
   have A65 := Kp.a A650
   clear A650
   replace H := Option.bind_eq_some_iff.mp H
   obtain ⟨⟨t264, t265⟩, A660, H⟩ := H
   replace H : ((laws_eqPairS.f kj40 t264 t227).bind fun t268 => (if t268 = true then (laws_FnExactMatched.j2 kj40 t256 t255 (t265 != t228)) else (laws_FnExactMatched.j2 kj40 t256 t255 true))) = some r := H
   have A66 := Kp.a A660
   clear A660
   have HC67 := Kp.a H
   clear H
   obtain ⟨Ao68, co68, eo68⟩ := Kd.R_slice HO_13.out
   subst eo68
   go_upto_region 29 with (first | ((with_reducible refine gate_callee (f := 12) rfl ?_); refine goesL_ (some 88) rfl rfl Try.func12 (by kernel_rfl) rfl #[.slice Ao68 t237.length co68, .int .i64 1] rfl (by (try simp only [List.map_toArray, List.map_cons, List.map_nil]); first | done | rfl | (simp only [List.length_drop, List.length_take]; rfl)) ?_; (with_reducible refine (laws_markPairS.calls kj40 (fun k_ => some k_ = (.slice Ao68 t237.length co68 : Value).ownBlock) (.slice Ao68 t237.length co68) t237 1 t255 t256 w _ ?side1 ?side2 A58.out).mono ?_); (case side1 => repeat (first | (with_reducible first | exact HB.out | apply below_alloc | apply pw_below_drewN | apply below_drew1) | exact HB.out)); (case side2 => exact Kd.R_tight rfl HO_13.out); rintro e w69 ⟨rfl, hy0, hb, hkp⟩; refine ⟨_, rfl, ?_⟩; have n0_ := Kp.a (Kd.R_mono (ok' := fun k_ => some k_ ≠ (.slice Ao68 t237.length co68 : Value).ownBlock) (Kd.R_keptB (HO_9.out) hkp (fun k_ hk_ hs_ => (hk_) hs_)) (fun k_ hk_ => hk_.1)); have n1_ := Kp.a (Kd.R_reok rfl hy0 (fun k_ e_ => HO_13.out.1 k_ e_)); have n2_ := Kp.a (hb); clear HO_9; clear HO_13; clear HB; have HO_9 := n0_; have HO_13 := n1_; have HB := n2_; clear n0_ n1_ n2_; (try clear hb); (try clear hkp); (try clear hy0)) | ((with_reducible refine gate_callee (f := 13) rfl ?_); refine goesL_ (some 91) rfl rfl Try.func13 (by kernel_rfl) rfl #[.slice Ao68 t256.length co68, .int .i64 1] rfl (by (try simp only [List.map_toArray, List.map_cons, List.map_nil]); first | done | (rw [show t256.length = t237.length from (Kd.R_reads' HO_13.out).1.symm] <;> rfl) | rfl | (simp only [List.length_drop, List.length_take]; rfl)) ?_; (with_reducible refine (laws_heldPairS.calls kj40 _ _ t256 1 t257 _ ?side1 ?side2 A59.out).mono ?_); (case side1 => repeat (first | exact (Kd.R_reads' HO_13.out).2.2 | (with_reducible refine Kd.C_alloc ?_ _) | (with_reducible refine Kd.C_drewN ?_ _) | (with_reducible refine Kd.C_drew ?_))); (case side2 => rw [show t256.length = t237.length from (Kd.R_reads' HO_13.out).1.symm]; exact (Kd.R_reads' HO_13.out).2.1); rintro e w' ⟨rfl, ⟨nd, rfl⟩⟩; refine ⟨_, rfl, ?_⟩) | ((with_reducible refine gate_callee (f := 7) rfl ?_); refine goesL_ (some 99) rfl rfl Try.func7 (by kernel_rfl) rfl #[.slice A0 l0.length c0] rfl (by (try simp only [List.map_toArray, List.map_cons, List.map_nil]); first | done | rfl | (simp only [List.length_drop, List.length_take]; rfl)) ?_; (with_reducible refine (laws_toIntS.calls kj40 _ _ l0 t258 _ ?side1 ?side2 A64.out).mono ?_); (case side1 => repeat (first | exact (Kd.C_below HR0.out (Kp.kpL HB.out)) | (with_reducible refine Kd.C_alloc ?_ _) | (with_reducible refine Kd.C_drewN ?_ _) | (with_reducible refine Kd.C_drew ?_))); (case side2 => exact HC0.out); rintro e w70 ⟨v259, rfl, ho0, hb⟩; refine ⟨_, rfl, ?_⟩; have n0_ := Kp.a (Kd.R_below (Kp.kpR HO_9.out) hb); have n1_ := Kp.a (Kd.R_below (Kp.kpR HO_13.out) hb); have n2_ := Kp.a (Kd.R_lower ho0 (below_size (Kp.kpL HB.out))); have n3_ := Kp.a (below_step (Kp.kpL HB.out) hb); clear HO_9; clear HO_13; clear HB; have HO_9 := n0_; have HO_13 := n1_; have HO260 := n2_; have HB := n3_; clear n0_ n1_ n2_ n3_; (try clear hb); (try clear hb2); (try clear hk); (try clear hi); (try clear ho0)) | ((with_reducible refine gate_callee (f := 7) rfl ?_); refine goesL_ (some 101) rfl rfl Try.func7 (by kernel_rfl) rfl #[.slice A1 l1.length c1] rfl (by (try simp only [List.map_toArray, List.map_cons, List.map_nil]); first | done | rfl | (simp only [List.length_drop, List.length_take]; rfl)) ?_; (with_reducible refine (laws_toIntS.calls kj40 _ _ l1 t261 _ ?side1 ?side2 A65.out).mono ?_); (case side1 => repeat (first | exact (Kd.C_below HR1.out HB.out) | (with_reducible refine Kd.C_alloc ?_ _) | (with_reducible refine Kd.C_drewN ?_ _) | (with_reducible refine Kd.C_drew ?_))); (case side2 => exact HC1.out); rintro e w71 ⟨v262, rfl, ho0, hb⟩; refine ⟨_, rfl, ?_⟩; have n0_ := Kp.a (Kd.R_below (Kp.kpR HO_9.out) hb); have n1_ := Kp.a (Kd.R_below (Kp.kpR HO_13.out) hb); have n2_ := Kp.a (Kd.R_elder' (Kp.kpR HO260.out) (Kd.R_base ho0) hb); have n3_ := Kp.a (Kd.R_lower (Kd.R_new' ho0 (Kd.R_lt (Kp.kpR HO260.out))) (below_size (Kp.kpL HB.out))); have n4_ := Kp.a (below_step (Kp.kpL HB.out) hb); clear HO_9; clear HO_13; clear HO260; clear HB; have HO_9 := n0_; have HO_13 := n1_; have HO260 := n2_; have HO263 := n3_; have HB := n4_; clear n0_ n1_ n2_ n3_ n4_; (try clear hb); (try clear hb2); (try clear hk); (try clear hi); (try clear ho0); obtain ⟨Ao72, co72, eo72⟩ := Kd.R_slice HO260.out; subst eo72; obtain ⟨Ao73, co73, eo73⟩ := Kd.R_slice HO263.out; subst eo73) | ((with_reducible refine gate_callee (f := 8) rfl ?_); refine goesL_ (some 104) rfl rfl Try.func8 (by kernel_rfl) rfl #[.slice Ao72 t258.length co72, .slice Ao73 t261.length co73, .int .i64 a2, .int .i64 a3] rfl (by (try simp only [List.map_toArray, List.map_cons, List.map_nil]); first | done | rfl | (simp only [List.length_drop, List.length_take]; rfl)) ?_; (with_reducible refine (impl_Matched.calls kj40 _ _ t258 _ _ t261 a2 a3 t264 t265 _ ?side1 ?side2 ?side3 ?side4 A66.out).mono ?_); (case side1 => repeat (first | exact (Kd.R_reads' HO260.out).2.2 | (with_reducible refine Kd.C_alloc ?_ _) | (with_reducible refine Kd.C_drewN ?_ _) | (with_reducible refine Kd.C_drew ?_))); (case side2 => exact (Kd.R_reads' HO260.out).2.1); (case side3 => repeat (first | exact (Kd.R_reads' HO263.out).2.2 | (with_reducible refine Kd.C_alloc ?_ _) | (with_reducible refine Kd.C_drewN ?_ _) | (with_reducible refine Kd.C_drew ?_))); (case side4 => exact (Kd.R_reads' HO263.out).2.1); rintro e w74 ⟨v266, rfl, ho0, hb⟩; refine ⟨_, rfl, ?_⟩; have n0_ := Kp.a (Kd.R_elder' (Kp.kpR HO_9.out) (Kd.R_base ho0) hb); have n1_ := Kp.a (Kd.R_elder' (Kp.kpR HO_13.out) (Kd.R_base ho0) hb); have n2_ := Kp.a (Kd.R_below (Kp.kpR HO260.out) hb); have n3_ := Kp.a (Kd.R_below (Kp.kpR HO263.out) hb); have n4_ := Kp.a (Kd.R_lower (Kd.R_new' (Kd.R_new' ho0 (Kd.R_lt (Kp.kpR HO_9.out))) (Kd.R_lt (Kp.kpR HO_13.out))) (below_size (Kp.kpL HB.out))); have n5_ := Kp.a (below_step (Kp.kpL HB.out) hb); clear HO_9; clear HO_13; clear HO260; clear HO263; clear HB; have HO_9 := n0_; have HO_13 := n1_; have HO260 := n2_; have HO263 := n3_; have HO267 := n4_; have HB := n5_; clear n0_ n1_ n2_ n3_ n4_ n5_; (try clear hb); (try clear hb2); (try clear hk); (try clear hi); (try clear ho0)))
   (try simp only [Act.put, Kp.s0, Kp.s1, Kp.s2])
   go_cut [115] (fun v115 wc => ∃ (kq : Nat) (x115_66 : Bool), v115 = .bool x115_66 ∧ Aside0 (laws_FnExactMatched.j2 kq t256 t255 x115_66 = some r) ∧ Aside0 (kq ≤ kj40) ∧ Aside0 (Kd.R k37 37 wc w.heap.size (fun _ => True) (.slice Ao68 t237.length co68) t256) ∧ Aside0 (Below w.heap.size w wc))
   case first =>
    have H := HC67.out
    clear HC67
    replace H := Option.bind_eq_some_iff.mp H
    obtain ⟨t268, A750, H⟩ := H
    replace H : (if t268 = true then (laws_FnExactMatched.j2 kj40 t256 t255 (t265 != t228)) else (laws_FnExactMatched.j2 kj40 t256 t255 true)) = some r := H
    have A75 := Kp.a A750
    clear A750
    by_cases c76 : t268 = true
    ·subst c76
     have H1 : (laws_FnExactMatched.j2 kj40 t256 t255 (t265 != t228)) = some r := by rw [if_pos rfl] at H; exact H
     clear H
     have H := H1
     clear H1
     have H' := Kp.a H
     clear H
     obtain ⟨Ao77, co77, eo77⟩ := Kd.R_slice HO267.out
     subst eo77
     obtain ⟨Ao78, co78, eo78⟩ := Kd.R_slice HO_9.out
     subst eo78
     go_wp2_with (first | ((with_reducible refine gate_callee (f := 9) rfl ?_); refine goesL_ (some 109) rfl rfl Try.func9 (by kernel_rfl) rfl #[.slice Ao77 t264.length co77, .slice Ao78 t227.length co78] rfl (by (try simp only [List.map_toArray, List.map_cons, List.map_nil]); first | done | rfl | (simp only [List.length_drop, List.length_take]; rfl)) ?_; (with_reducible refine (laws_eqPairS.calls kj40 _ _ t264 _ _ t227 true _ ?side1 ?side2 ?side3 ?side4 A75.out).mono ?_); (case side1 => repeat (first | exact (Kd.R_reads' HO267.out).2.2 | (with_reducible refine Kd.C_alloc ?_ _) | (with_reducible refine Kd.C_drewN ?_ _) | (with_reducible refine Kd.C_drew ?_))); (case side2 => exact (Kd.R_reads' HO267.out).2.1); (case side3 => repeat (first | exact (Kd.R_reads' HO_9.out).2.2 | (with_reducible refine Kd.C_alloc ?_ _) | (with_reducible refine Kd.C_drewN ?_ _) | (with_reducible refine Kd.C_drew ?_))); (case side4 => exact (Kd.R_reads' HO_9.out).2.1); rintro e w79 ⟨rfl, hb⟩; refine ⟨_, rfl, ?_⟩; have n0_ := Kp.a (Kd.R_below (Kp.kpR HO_9.out) hb); have n1_ := Kp.a (Kd.R_below (Kp.kpR HO_13.out) hb); have n2_ := Kp.a (Kd.R_below (Kp.kpR HO260.out) hb); have n3_ := Kp.a (Kd.R_below (Kp.kpR HO263.out) hb); have n4_ := Kp.a (Kd.R_below (Kp.kpR HO267.out) hb); have n5_ := Kp.a (below_step (Kp.kpL HB.out) hb); clear HO_9; clear HO_13; clear HO260; clear HO263; clear HO267; clear HB; have HO_9 := n0_; have HO_13 := n1_; have HO260 := n2_; have HO263 := n3_; have HO267 := n4_; have HB := n5_; clear n0_ n1_ n2_ n3_ n4_ n5_; (try clear hb); (try clear hb2); (try clear hk); (try clear hi)))
     go_meet
     case rel => exact ⟨_, ((t265 != t228)), (by first | rfl | (simp; done) | (simp [*]; done)), H', ⟨by have := HJ12.out; have := HJ40.out; first | omega | exact Nat.le_refl _⟩, ⟨Kp.kpR (Kd.R_mono HO_13.out (fun _ hk => trivial))⟩, ⟨Kp.kpL HB.out⟩⟩
    replace c76 := Bool.eq_false_iff.mpr c76
    subst c76
    have H1 : (laws_FnExactMatched.j2 kj40 t256 t255 true) = some r := by rw [if_neg (show ¬ (false = true) by decide)] at H; exact H
    clear H
    have H := H1
    clear H1
    have H' := Kp.a H
    clear H
    obtain ⟨Ao80, co80, eo80⟩ := Kd.R_slice HO267.out
    subst eo80
    obtain ⟨Ao81, co81, eo81⟩ := Kd.R_slice HO_9.out
    subst eo81
    go_wp2_with (first | ((with_reducible refine gate_callee (f := 9) rfl ?_); refine goesL_ (some 109) rfl rfl Try.func9 (by kernel_rfl) rfl #[.slice Ao80 t264.length co80, .slice Ao81 t227.length co81] rfl (by (try simp only [List.map_toArray, List.map_cons, List.map_nil]); first | done | rfl | (simp only [List.length_drop, List.length_take]; rfl)) ?_; (with_reducible refine (laws_eqPairS.calls kj40 _ _ t264 _ _ t227 false _ ?side1 ?side2 ?side3 ?side4 A75.out).mono ?_); (case side1 => repeat (first | exact (Kd.R_reads' HO267.out).2.2 | (with_reducible refine Kd.C_alloc ?_ _) | (with_reducible refine Kd.C_drewN ?_ _) | (with_reducible refine Kd.C_drew ?_))); (case side2 => exact (Kd.R_reads' HO267.out).2.1); (case side3 => repeat (first | exact (Kd.R_reads' HO_9.out).2.2 | (with_reducible refine Kd.C_alloc ?_ _) | (with_reducible refine Kd.C_drewN ?_ _) | (with_reducible refine Kd.C_drew ?_))); (case side4 => exact (Kd.R_reads' HO_9.out).2.1); rintro e w82 ⟨rfl, hb⟩; refine ⟨_, rfl, ?_⟩; have n0_ := Kp.a (Kd.R_below (Kp.kpR HO_9.out) hb); have n1_ := Kp.a (Kd.R_below (Kp.kpR HO_13.out) hb); have n2_ := Kp.a (Kd.R_below (Kp.kpR HO260.out) hb); have n3_ := Kp.a (Kd.R_below (Kp.kpR HO263.out) hb); have n4_ := Kp.a (Kd.R_below (Kp.kpR HO267.out) hb); have n5_ := Kp.a (below_step (Kp.kpL HB.out) hb); clear HO_9; clear HO_13; clear HO260; clear HO263; clear HO267; clear HB; have HO_9 := n0_; have HO_13 := n1_; have HO260 := n2_; have HO263 := n3_; have HO267 := n4_; have HB := n5_; clear n0_ n1_ n2_ n3_ n4_ n5_; (try clear hb); (try clear hb2); (try clear hk); (try clear hi)))
    go_meet
    case rel => exact ⟨_, (true), (by first | rfl | (simp; done) | (simp [*]; done)), H', ⟨by have := HJ12.out; have := HJ40.out; first | omega | exact Nat.le_refl _⟩, ⟨Kp.kpR (Kd.R_mono HO_13.out (fun _ hk => trivial))⟩, ⟨Kp.kpL HB.out⟩⟩
   clear HC67
   try clear c1
   try clear c2
   try clear p2
   try clear c3
   try clear c4
   try clear c5
   try clear c5b0
   try clear c5b1
   try clear c6
   try clear c6b0
   try clear c6b1
   try clear c7
   try clear c8
   try clear c9
   try clear c10
   try clear c11
   try clear c12
   try clear c13
   try clear c25
   try clear c32
   try clear c35
   try clear c38
   try clear c48
   try clear c48b0
   try clear c50
   try clear c57
   try clear c60
   try clear c60b0
   try clear c63
   try clear c63b0
   try clear c63b1
   try clear c76
   try clear p2
   obtain ⟨kq, x115_66, rfl, HA, HJ66, HO_13, HB⟩ := hcut
   have hl13_66 := (Kd.R_reads' HO_13.out).1
   rw [hl13_66] at HO_13
   (try simp only [hl13_66])
   cases kq with
   | zero => exact absurd HA.out (by simp [laws_FnExactMatched.j2])
   | succ kj66 =>
    have H := HA.out
    clear HA
    simp only [laws_FnExactMatched.j2] at H
    by_cases c83 : x115_66 = true
    ·subst c83
     have H1 : (some false) = some r := by rw [if_pos rfl] at H; exact H
     clear H
     have H := H1
     clear H1
     obtain rfl := Option.some.inj H
     go_wp2
     go_ret
     exact ⟨by first | rfl | (simp [errW_none, errW_some] <;> rfl) | (simp [*, errW_none, errW_some] <;> rfl), Kp.kpL HB.out⟩
    replace c83 := Bool.eq_false_iff.mpr c83
    subst c83
    have H1 : ((laws_heldPairS.f kj66 t256 1).bind fun t269 => (if t269 < 0 then (some false) else (if t269 = t255 then (some true) else (some false)))) = some r := by rw [if_neg (show ¬ (false = true) by decide)] at H; exact H
    clear H
    have H := H1
    clear H1
    replace H := Option.bind_eq_some_iff.mp H
    obtain ⟨t269, A840, H⟩ := H
    replace H : (if t269 < 0 then (some false) else (if t269 = t255 then (some true) else (some false))) = some r := H
    have A84 := Kp.a A840
    clear A840
    by_cases c85 : t269 < 0
    ·rw [if_pos c85] at H
     have c85b0 : decide (t269 < 0) = true := decide_eq_true c85
     clear c85
     obtain rfl := Option.some.inj H
     go_wp2_with (first | ((with_reducible refine gate_callee (f := 13) rfl ?_); refine goesL_ (some 118) rfl rfl Try.func13 (by kernel_rfl) rfl #[.slice Ao68 t256.length co68, .int .i64 1] rfl (by (try simp only [List.map_toArray, List.map_cons, List.map_nil]); first | done | rfl | (simp only [List.length_drop, List.length_take]; rfl)) ?_; (with_reducible refine (laws_heldPairS.calls kj66 _ _ t256 1 t269 _ ?side1 ?side2 A84.out).mono ?_); (case side1 => repeat (first | exact (Kd.R_reads' HO_13.out).2.2 | (with_reducible refine Kd.C_alloc ?_ _) | (with_reducible refine Kd.C_drewN ?_ _) | (with_reducible refine Kd.C_drew ?_))); (case side2 => exact (Kd.R_reads' HO_13.out).2.1); rintro e w' ⟨rfl, ⟨nd, rfl⟩⟩; refine ⟨_, rfl, ?_⟩))
     go_ret
     exact ⟨by first | rfl | (simp [errW_none, errW_some] <;> rfl) | (simp [*, errW_none, errW_some] <;> rfl), Kp.kpL HB.out⟩
    rw [if_neg c85] at H
    have c85b0 : decide (t269 < 0) = false := decide_eq_false c85
    clear c85
    by_cases c86 : t269 = t255
    ·rw [if_pos c86] at H
     have c86b0 : (t269 == t255) = true := beq_iff_eq.mpr c86
     have c86b1 : (t269 != t255) = false := bne_eq_false_iff_eq.mpr c86
     clear c86
     obtain rfl := Option.some.inj H
     go_wp2_with (first | ((with_reducible refine gate_callee (f := 13) rfl ?_); refine goesL_ (some 118) rfl rfl Try.func13 (by kernel_rfl) rfl #[.slice Ao68 t256.length co68, .int .i64 1] rfl (by (try simp only [List.map_toArray, List.map_cons, List.map_nil]); first | done | rfl | (simp only [List.length_drop, List.length_take]; rfl)) ?_; (with_reducible refine (laws_heldPairS.calls kj66 _ _ t256 1 t269 _ ?side1 ?side2 A84.out).mono ?_); (case side1 => repeat (first | exact (Kd.R_reads' HO_13.out).2.2 | (with_reducible refine Kd.C_alloc ?_ _) | (with_reducible refine Kd.C_drewN ?_ _) | (with_reducible refine Kd.C_drew ?_))); (case side2 => exact (Kd.R_reads' HO_13.out).2.1); rintro e w' ⟨rfl, ⟨nd, rfl⟩⟩; refine ⟨_, rfl, ?_⟩))
     go_ret
     exact ⟨by first | rfl | (simp [errW_none, errW_some] <;> rfl) | (simp [*, errW_none, errW_some] <;> rfl), Kp.kpL HB.out⟩
    rw [if_neg c86] at H
    have c86b0 : (t269 == t255) = false := beq_eq_false_iff_ne.mpr c86
    have c86b1 : (t269 != t255) = true := bne_iff_ne.mpr c86
    obtain rfl := Option.some.inj H
    go_wp2_with (first | ((with_reducible refine gate_callee (f := 13) rfl ?_); refine goesL_ (some 118) rfl rfl Try.func13 (by kernel_rfl) rfl #[.slice Ao68 t256.length co68, .int .i64 1] rfl (by (try simp only [List.map_toArray, List.map_cons, List.map_nil]); first | done | rfl | (simp only [List.length_drop, List.length_take]; rfl)) ?_; (with_reducible refine (laws_heldPairS.calls kj66 _ _ t256 1 t269 _ ?side1 ?side2 A84.out).mono ?_); (case side1 => repeat (first | exact (Kd.R_reads' HO_13.out).2.2 | (with_reducible refine Kd.C_alloc ?_ _) | (with_reducible refine Kd.C_drewN ?_ _) | (with_reducible refine Kd.C_drew ?_))); (case side2 => exact (Kd.R_reads' HO_13.out).2.1); rintro e w' ⟨rfl, ⟨nd, rfl⟩⟩; refine ⟨_, rfl, ?_⟩))
    go_ret
    exact ⟨by first | rfl | (simp [errW_none, errW_some] <;> rfl) | (simp [*, errW_none, errW_some] <;> rfl), Kp.kpL HB.out⟩
def laws_FnExactMatched.Pure : Prop := ∀ (l0 : List Int) (l1 : List Int) (a2 : Int) (a3 : Int), l0.length ≤ maxLen → l0.length * 8 ≤ 140737488351232 → (∀ x ∈ l0, (Lit.int .i64 x).wf = true) → l1.length ≤ maxLen → l1.length * 8 ≤ 140737488351232 → (∀ x ∈ l1, (Lit.int .i64 x).wf = true) → (Lit.int .i64 a2).wf = true → (Lit.int .i64 a3).wf = true → ∃ k, laws_FnExactMatched.f k l0 l1 a2 a3 = some true
theorem laws_FnExactMatched.walk (P : laws_FnExactMatched.Pure) (a0 : Option Addr) (len0 cap0 : Nat) (z0 : List Int) (a1 : Option Addr) (len1 cap1 : Nat) (z1 : List Int) (a2 : Int) (a3 : Int) (w : World) (w0 : (a0 = none ∧ len0 = 0 ∧ cap0 = 0 ∧ z0 = []) ∨ ∃ x, a0 = some x ∧ len0 ≤ cap0 ∧ cap0 ≤ maxLen ∧ z0.length = cap0 ∧ (∀ i, i < z0.length → w.cell? (x.add i) = some (.int .i64 (z0.getD i 0))) ∧ ∀ n ∈ z0, (Lit.int .i64 n).wf = true) (y0 : len0 * 8 ≤ 140737488351232) (w1 : (a1 = none ∧ len1 = 0 ∧ cap1 = 0 ∧ z1 = []) ∨ ∃ x, a1 = some x ∧ len1 ≤ cap1 ∧ cap1 ≤ maxLen ∧ z1.length = cap1 ∧ (∀ i, i < z1.length → w.cell? (x.add i) = some (.int .i64 (z1.getD i 0))) ∧ ∀ n ∈ z1, (Lit.int .i64 n).wf = true) (y1 : len1 * 8 ≤ 140737488351232) (w2 : (Lit.int .i64 a2).wf = true) (w3 : (Lit.int .i64 a3).wf = true) :
  Calls Try.prog 3 #[.slice a0 len0 cap0, .slice a1 len1 cap1, .int .i64 a2, .int .i64 a3] w fun e w' => e = .returned (.bool true) ∧ Below w.heap.size w w' := by
 obtain ⟨l0, rfl, hr0, hm0, hw0, hc0⟩ := ReadsInt.ofRowC w0
 obtain ⟨l1, rfl, hr1, hm1, hw1, hc1⟩ := ReadsInt.ofRowC w1
 obtain ⟨k, h⟩ := P l0 l1 a2 a3 hm0 y0 hw0 hm1 y1 hw1 w2 w3
 refine (laws_FnExactMatched.calls k _ _ l0 _ _ l1 a2 a3 true w (Kd.C_of_reads (d := (0 : Int)) (h1 := fun _ => rfl) hr0) hc0 (Kd.C_of_reads (d := (0 : Int)) (h1 := fun _ => rfl) hr1) hc1 h).mono ?_
 rintro e w' ⟨rfl, hd⟩
 exact ⟨rfl, hd⟩
end Go.Proofs.Ytkijhilmgljegaa.PM


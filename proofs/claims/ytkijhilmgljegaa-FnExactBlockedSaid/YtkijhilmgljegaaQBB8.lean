import Derived.Test.YtkijhilmgljegaaQBB0
import Derived.Test.YtkijhilmgljegaaVBk
import Derived.Test.YtkijhilmgljegaaQBB1
import Derived.Test.YtkijhilmgljegaaQBB3
import Derived.Test.YtkijhilmgljegaaQBB7
namespace Go.Proofs.Ytkijhilmgljegaa.PB
open Go.RowKit Go.Proofs.YtkijhilmgljegaaW.PrintWords Go.Proofs.YtkijhilmgljegaaW.PrintLast Go.Proofs.YtkijhilmgljegaaW.PrintMore
attribute [local go_sem] max2_int min2_int max_two min_two max_three min_three max_four min_four
set_option linter.unusedVariables false
set_option linter.unusedSimpArgs false
def laws_heldIntS.l0 : Nat → List Int → Int → Int → Option (Int)
 | 0, _, _, _ => none
 | k + 1, x0, x1, x5 => if x5 < (x0.length : Int) then (if 0 ≤ x5 then (if (rd x0 x5) = x1 then (laws_heldIntS.l0 k x0 (wrap64 (x1 + 1)) (wrap64 (x5 + 1))) else (some (-1))) else (none)) else (some x1)
def laws_heldIntS.f (k : Nat) (l0 : List Int) (a1 : Int) : Option (Int) := laws_heldIntS.l0 k l0 a1 0
set_option maxHeartbeats 8000000 in
set_option maxRecDepth 100000 in
theorem laws_heldIntS.calls (k : Nat) (A0 : Option Addr) (c0 : Nat) (l0 : List Int) (a1 : Int) (r : Int) (w : World) (hr0 : Kd.C (Kd.int .i64) w A0 l0.length l0) (hc0 : l0.length ≤ c0) (h : laws_heldIntS.f k l0 a1 = some r) :
  Calls Try.prog 17 #[.slice A0 l0.length c0, .int .i64 a1] w fun e w' => e = .returned (.int .i64 r) ∧ Drawn0 w w' := by
 have HR0 := Kp.a hr0
 have HC0 := Kp.a hc0
 clear hr0 hc0
 have H : (laws_heldIntS.l0 k l0 a1 0) = some r := h
 clear h
 have H' := Kp.a H
 clear H
 go_enter Try.func17, Try.ntmps17
 go_wp2
 go_loopg [1, 5] k (fun kq v1 v5 w' => ∃ (x1_1 : Int) (x5_1 : Int), v1 = .int .i64 x1_1 ∧ v5 = .int .i64 x5_1 ∧ Aside0 (laws_heldIntS.l0 kq l0 x1_1 x5_1 = some r) ∧ Aside0 (kq ≤ k) ∧ Drawn0 w w')
 case atStart => exact ⟨(a1), (0), (by first | rfl | (simp; done) | (simp [*]; done)), (by first | rfl | (simp; done) | (simp [*]; done)), H', ⟨Nat.le_refl _⟩, by repeat (first | exact Drawn0.refl _ | apply Drawn0.step)⟩
 clear H'
 try clear c1
 try clear p2
 obtain ⟨x1_1, x5_1, rfl, rfl, HA, HK1, ⟨m1, rfl⟩⟩ := hrel
 cases gk with
 | zero => exact absurd HA.out (by simp [laws_heldIntS.l0])
 | succ k1 =>
  have H := HA.out
  clear HA
  simp only [laws_heldIntS.l0] at H
  by_cases c3 : x5_1 < (l0.length : Int)
  rotate_left
  ·rw [if_neg c3] at H
   have c3b0 : decide (x5_1 < (l0.length : Int)) = false := decide_eq_false c3
   clear c3
   obtain rfl := Option.some.inj H
   go_wp2
   go_ret
   exact ⟨by first | rfl | (simp; done) | (simp [*]; done), by repeat (first | exact Drawn0.refl _ | apply Drawn0.step)⟩
  rw [if_pos c3] at H
  have c3b0 : decide (x5_1 < (l0.length : Int)) = true := decide_eq_true c3
  clear c3
  by_cases c4 : 0 ≤ x5_1
  rotate_left
  ·rw [if_neg c4] at H
   exact absurd H (by simp)
  rw [if_pos c4] at H
  have c4b0 : decide (0 ≤ x5_1) = true := decide_eq_true c4
  clear c4
  by_cases c5 : (rd l0 x5_1) = x1_1
  rotate_left
  ·rw [if_neg c5] at H
   have c5b0 : ((rd l0 x5_1) == x1_1) = false := beq_eq_false_iff_ne.mpr c5
   have c5b1 : ((rd l0 x5_1) != x1_1) = true := bne_iff_ne.mpr c5
   obtain rfl := Option.some.inj H
   have p261 : 0 ≤ (x5_1 : Int) := Kp.d
   have q261 : x5_1 < (l0.length : Int) := Kp.d
   obtain ⟨ad261, e261, hx261_0⟩ := Kd.at_int HR0.out x5_1 p261 q261
   cases e261
   replace p261 := eq_true p261
   replace q261 := eq_true q261
   go_wp2
   go_ret
   exact ⟨by first | rfl | (simp; done) | (simp [*]; done), by repeat (first | exact Drawn0.refl _ | apply Drawn0.step)⟩
  rw [if_pos c5] at H
  have c5b0 : ((rd l0 x5_1) == x1_1) = true := beq_iff_eq.mpr c5
  have c5b1 : ((rd l0 x5_1) != x1_1) = false := bne_eq_false_iff_eq.mpr c5
  clear c5
  have H' := Kp.a H
  clear H
  have p261 : 0 ≤ (x5_1 : Int) := Kp.d
  have q261 : x5_1 < (l0.length : Int) := Kp.d
  obtain ⟨ad261, e261, hx261_0⟩ := Kd.at_int HR0.out x5_1 p261 q261
  cases e261
  replace p261 := eq_true p261
  replace q261 := eq_true q261
  go_wp2
  go_roundg k1
  case measure => have := HK1.out; omega
  case rel => exact ⟨(wrap64 (x1_1 + 1)), (wrap64 (x5_1 + 1)), (by first | rfl | (simp; done) | (simp [*]; done)), (by first | rfl | (simp; done) | (simp [*]; done)), H', ⟨by have := HK1.out; omega⟩, by repeat (first | exact Drawn0.refl _ | apply Drawn0.step)⟩
mutual
def laws_FnExactBlocked.j0 : Nat → List Int → List Int → Int → Int → List Int → List Int → Int → List Int → List Int → List Int → List Int → Int → Bool → Option (Bool)
 | 0, _, _, _, _, _, _, _, _, _, _, _, _, _ => none
 | k + 1, x0, x1, x2, x3, x9, x10, x11, x12, x13, x14, x15, x16, x67 => if x67 = true then (some false) else ((laws_toIntS.f k x0).bind fun t290 => ((laws_eqIntS.f k x12 t290).bind fun t293 => (if t293 = true then ((laws_toIntS.f k x1).bind fun t294 => ((laws_eqIntS.f k x13 t294).bind fun t297 => (if t297 = true then ((laws_markIntS.f k x12 1).bind fun bt298 => ((laws_markIntS.f k x13 bt298.1).bind fun bt300 => (if bt300.1 < 0 then (laws_FnExactBlocked.j1 k x0 x1 x2 x3 x9 x10 x11 x14 x15 true) else ((laws_eqIntS.f k x14 x9).bind fun t302 => (if t302 = true then ((laws_eqIntS.f k x15 x10).bind fun t303 => (if t303 = true then (laws_FnExactBlocked.j1 k x0 x1 x2 x3 x9 x10 x11 x14 x15 (x16 != x11)) else (laws_FnExactBlocked.j1 k x0 x1 x2 x3 x9 x10 x11 x14 x15 true))) else (laws_FnExactBlocked.j1 k x0 x1 x2 x3 x9 x10 x11 x14 x15 true)))))) else (some false)))) else (some false))))
def laws_FnExactBlocked.j1 : Nat → List Int → List Int → Int → Int → List Int → List Int → Int → List Int → List Int → Bool → Option (Bool)
 | 0, _, _, _, _, _, _, _, _, _, _ => none
 | k + 1, x0, x1, x2, x3, x9, x10, x11, x14, x15, x102 => if x102 = true then (some false) else ((laws_markIntS.f k x14 1).bind fun bt304 => ((laws_markIntS.f k x15 bt304.1).bind fun bt306 => ((laws_heldIntS.f k bt304.2 1).bind fun t308 => (if t308 < 0 then (some false) else ((laws_heldIntS.f k bt306.2 t308).bind fun t309 => (if t309 < 0 then (some false) else (if t309 = bt306.1 then ((laws_toIntS.f k x0).bind fun t310 => ((laws_toIntS.f k x1).bind fun t313 => ((impl_Blocked.f k t310 t313 x2 x3).bind fun bt316 => ((laws_eqIntS.f k bt316.1 x9).bind fun t323 => (if t323 = true then ((laws_eqIntS.f k bt316.2.1 x10).bind fun t324 => (if t324 = true then (laws_FnExactBlocked.j2 k bt304.2 bt306.2 bt306.1 (bt316.2.2 != x11)) else (laws_FnExactBlocked.j2 k bt304.2 bt306.2 bt306.1 true))) else (laws_FnExactBlocked.j2 k bt304.2 bt306.2 bt306.1 true)))))) else (some false))))))))
def laws_FnExactBlocked.j2 : Nat → List Int → List Int → Int → Bool → Option (Bool)
 | 0, _, _, _, _ => none
 | k + 1, x14, x15, x18, x147 => if x147 = true then (some false) else ((laws_heldIntS.f k x14 1).bind fun t325 => (if t325 < 0 then (some false) else ((laws_heldIntS.f k x15 t325).bind fun t326 => (if t326 < 0 then (some false) else (if t326 = x18 then (some true) else (some false))))))
end
def laws_FnExactBlocked.f (k : Nat) (l0 : List Int) (l1 : List Int) (a2 : Int) (a3 : Int) : Option (Bool) := if (l0.length : Int) > 1048576 then (some true) else (if (l1.length : Int) > 1048576 then (some true) else ((laws_toIntS.f k l0).bind fun t262 => ((laws_toIntS.f k l1).bind fun t265 => ((spec_Blocked.f k t262 t265 a2 a3).bind fun bt268 => ((laws_toIntS.f k l0).bind fun t275 => ((laws_toIntS.f k l1).bind fun t278 => ((impl_Blocked.f k t275 t278 a2 a3).bind fun bt281 => ((laws_eqIntS.f k bt281.1 bt268.1).bind fun t288 => (if t288 = true then ((laws_eqIntS.f k bt281.2.1 bt268.2.1).bind fun t289 => (if t289 = true then (laws_FnExactBlocked.j0 k l0 l1 a2 a3 bt268.1 bt268.2.1 bt268.2.2 t275 t278 bt281.1 bt281.2.1 bt281.2.2 (bt281.2.2 != bt268.2.2)) else (laws_FnExactBlocked.j0 k l0 l1 a2 a3 bt268.1 bt268.2.1 bt268.2.2 t275 t278 bt281.1 bt281.2.1 bt281.2.2 true))) else (laws_FnExactBlocked.j0 k l0 l1 a2 a3 bt268.1 bt268.2.1 bt268.2.2 t275 t278 bt281.1 bt281.2.1 bt281.2.2 true))))))))))
set_option maxHeartbeats 8000000 in
set_option maxRecDepth 100000 in
theorem laws_FnExactBlocked.calls (k : Nat) (A0 : Option Addr) (c0 : Nat) (l0 : List Int) (A1 : Option Addr) (c1 : Nat) (l1 : List Int) (a2 : Int) (a3 : Int) (r : Bool) (w : World) (hr0 : Kd.C (Kd.int .i64) w A0 l0.length l0) (hc0 : l0.length ≤ c0) (hr1 : Kd.C (Kd.int .i64) w A1 l1.length l1) (hc1 : l1.length ≤ c1) (h : laws_FnExactBlocked.f k l0 l1 a2 a3 = some r) :
  Calls Try.prog 5 #[.slice A0 l0.length c0, .slice A1 l1.length c1, .int .i64 a2, .int .i64 a3] w fun e w' => e = .returned (.bool r) ∧ Below w.heap.size w w' := by
 have HR0 := Kp.a hr0
 have HC0 := Kp.a hc0
 clear hr0 hc0
 have HR1 := Kp.a hr1
 have HC1 := Kp.a hc1
 clear hr1 hc1
 have HB := Kp.a (Below.refl w.heap.size w)
 have H : (if (l0.length : Int) > 1048576 then (some true) else (if (l1.length : Int) > 1048576 then (some true) else ((laws_toIntS.f k l0).bind fun t262 => ((laws_toIntS.f k l1).bind fun t265 => ((spec_Blocked.f k t262 t265 a2 a3).bind fun bt268 => ((laws_toIntS.f k l0).bind fun t275 => ((laws_toIntS.f k l1).bind fun t278 => ((impl_Blocked.f k t275 t278 a2 a3).bind fun bt281 => ((laws_eqIntS.f k bt281.1 bt268.1).bind fun t288 => (if t288 = true then ((laws_eqIntS.f k bt281.2.1 bt268.2.1).bind fun t289 => (if t289 = true then (laws_FnExactBlocked.j0 k l0 l1 a2 a3 bt268.1 bt268.2.1 bt268.2.2 t275 t278 bt281.1 bt281.2.1 bt281.2.2 (bt281.2.2 != bt268.2.2)) else (laws_FnExactBlocked.j0 k l0 l1 a2 a3 bt268.1 bt268.2.1 bt268.2.2 t275 t278 bt281.1 bt281.2.1 bt281.2.2 true))) else (laws_FnExactBlocked.j0 k l0 l1 a2 a3 bt268.1 bt268.2.1 bt268.2.2 t275 t278 bt281.1 bt281.2.1 bt281.2.2 true))))))))))) = some r := h
 clear h
 by_cases c5 : (l0.length : Int) > 1048576
 ·rw [if_pos c5] at H
  have c5b0 : decide (1048576 < (l0.length : Int)) = true := decide_eq_true c5
  have c5b1 : decide (1048576 < l0.length) = true := decide_eq_true (by omega)
  clear c5
  obtain rfl := Option.some.inj H
  go_enter Try.func5, Try.ntmps5
  go_wp2
  go_ret
  exact ⟨by first | rfl | (simp [errW_none, errW_some] <;> rfl) | (simp [*, errW_none, errW_some] <;> rfl), Kp.kpL HB.out⟩
 rw [if_neg c5] at H
 have c5b0 : decide (1048576 < (l0.length : Int)) = false := decide_eq_false c5
 have c5b1 : decide (1048576 < l0.length) = false := decide_eq_false (by omega)
 clear c5
 by_cases c6 : (l1.length : Int) > 1048576
 ·rw [if_pos c6] at H
  have c6b0 : decide (1048576 < (l1.length : Int)) = true := decide_eq_true c6
  have c6b1 : decide (1048576 < l1.length) = true := decide_eq_true (by omega)
  clear c6
  obtain rfl := Option.some.inj H
  go_enter Try.func5, Try.ntmps5
  go_wp2
  go_ret
  exact ⟨by first | rfl | (simp [errW_none, errW_some] <;> rfl) | (simp [*, errW_none, errW_some] <;> rfl), Kp.kpL HB.out⟩
 rw [if_neg c6] at H
 have c6b0 : decide (1048576 < (l1.length : Int)) = false := decide_eq_false c6
 have c6b1 : decide (1048576 < l1.length) = false := decide_eq_false (by omega)
 clear c6
 replace H := Option.bind_eq_some_iff.mp H
 obtain ⟨t262, A70, H⟩ := H
 replace H : ((laws_toIntS.f k l1).bind fun t265 => ((spec_Blocked.f k t262 t265 a2 a3).bind fun bt268 => ((laws_toIntS.f k l0).bind fun t275 => ((laws_toIntS.f k l1).bind fun t278 => ((impl_Blocked.f k t275 t278 a2 a3).bind fun bt281 => ((laws_eqIntS.f k bt281.1 bt268.1).bind fun t288 => (if t288 = true then ((laws_eqIntS.f k bt281.2.1 bt268.2.1).bind fun t289 => (if t289 = true then (laws_FnExactBlocked.j0 k l0 l1 a2 a3 bt268.1 bt268.2.1 bt268.2.2 t275 t278 bt281.1 bt281.2.1 bt281.2.2 (bt281.2.2 != bt268.2.2)) else (laws_FnExactBlocked.j0 k l0 l1 a2 a3 bt268.1 bt268.2.1 bt268.2.2 t275 t278 bt281.1 bt281.2.1 bt281.2.2 true))) else (laws_FnExactBlocked.j0 k l0 l1 a2 a3 bt268.1 bt268.2.1 bt268.2.2 t275 t278 bt281.1 bt281.2.1 bt281.2.2 true)))))))) = some r := H
 have A7 := Kp.a A70
 clear A70
 replace H := Option.bind_eq_some_iff.mp H
 obtain ⟨t265, A80, H⟩ := H
 replace H : ((spec_Blocked.f k t262 t265 a2 a3).bind fun bt268 => ((laws_toIntS.f k l0).bind fun t275 => ((laws_toIntS.f k l1).bind fun t278 => ((impl_Blocked.f k t275 t278 a2 a3).bind fun bt281 => ((laws_eqIntS.f k bt281.1 bt268.1).bind fun t288 => (if t288 = true then ((laws_eqIntS.f k bt281.2.1 bt268.2.1).bind fun t289 => (if t289 = true then (laws_FnExactBlocked.j0 k l0 l1 a2 a3 bt268.1 bt268.2.1 bt268.2.2 t275 t278 bt281.1 bt281.2.1 bt281.2.2 (bt281.2.2 != bt268.2.2)) else (laws_FnExactBlocked.j0 k l0 l1 a2 a3 bt268.1 bt268.2.1 bt268.2.2 t275 t278 bt281.1 bt281.2.1 bt281.2.2 true))) else (laws_FnExactBlocked.j0 k l0 l1 a2 a3 bt268.1 bt268.2.1 bt268.2.2 t275 t278 bt281.1 bt281.2.1 bt281.2.2 true))))))) = some r := H
 have A8 := Kp.a A80
 clear A80
 replace H := Option.bind_eq_some_iff.mp H
 obtain ⟨⟨t268, t269, t270⟩, A90, H⟩ := H
 replace H : ((laws_toIntS.f k l0).bind fun t275 => ((laws_toIntS.f k l1).bind fun t278 => ((impl_Blocked.f k t275 t278 a2 a3).bind fun bt281 => ((laws_eqIntS.f k bt281.1 t268).bind fun t288 => (if t288 = true then ((laws_eqIntS.f k bt281.2.1 t269).bind fun t289 => (if t289 = true then (laws_FnExactBlocked.j0 k l0 l1 a2 a3 t268 t269 t270 t275 t278 bt281.1 bt281.2.1 bt281.2.2 (bt281.2.2 != t270)) else (laws_FnExactBlocked.j0 k l0 l1 a2 a3 t268 t269 t270 t275 t278 bt281.1 bt281.2.1 bt281.2.2 true))) else (laws_FnExactBlocked.j0 k l0 l1 a2 a3 t268 t269 t270 t275 t278 bt281.1 bt281.2.1 bt281.2.2 true)))))) = some r := H
 have A9 := Kp.a A90
 clear A90
 replace H := Option.bind_eq_some_iff.mp H
 obtain ⟨t275, A100, H⟩ := H
 replace H : ((laws_toIntS.f k l1).bind fun t278 => ((impl_Blocked.f k t275 t278 a2 a3).bind fun bt281 => ((laws_eqIntS.f k bt281.1 t268).bind fun t288 => (if t288 = true then ((laws_eqIntS.f k bt281.2.1 t269).bind fun t289 => (if t289 = true then (laws_FnExactBlocked.j0 k l0 l1 a2 a3 t268 t269 t270 t275 t278 bt281.1 bt281.2.1 bt281.2.2 (bt281.2.2 != t270)) else (laws_FnExactBlocked.j0 k l0 l1 a2 a3 t268 t269 t270 t275 t278 bt281.1 bt281.2.1 bt281.2.2 true))) else (laws_FnExactBlocked.j0 k l0 l1 a2 a3 t268 t269 t270 t275 t278 bt281.1 bt281.2.1 bt281.2.2 true))))) = some r := H
 have A10 := Kp.a A100
 clear A100
 replace H := Option.bind_eq_some_iff.mp H
 obtain ⟨t278, A110, H⟩ := H
 replace H : ((impl_Blocked.f k t275 t278 a2 a3).bind fun bt281 => ((laws_eqIntS.f k bt281.1 t268).bind fun t288 => (if t288 = true then ((laws_eqIntS.f k bt281.2.1 t269).bind fun t289 => (if t289 = true then (laws_FnExactBlocked.j0 k l0 l1 a2 a3 t268 t269 t270 t275 t278 bt281.1 bt281.2.1 bt281.2.2 (bt281.2.2 != t270)) else (laws_FnExactBlocked.j0 k l0 l1 a2 a3 t268 t269 t270 t275 t278 bt281.1 bt281.2.1 bt281.2.2 true))) else (laws_FnExactBlocked.j0 k l0 l1 a2 a3 t268 t269 t270 t275 t278 bt281.1 bt281.2.1 bt281.2.2 true)))) = some r := H
 have A11 := Kp.a A110
 clear A110
 replace H := Option.bind_eq_some_iff.mp H
 obtain ⟨⟨t281, t282, t283⟩, A120, H⟩ := H
 replace H : ((laws_eqIntS.f k t281 t268).bind fun t288 => (if t288 = true then ((laws_eqIntS.f k t282 t269).bind fun t289 => (if t289 = true then (laws_FnExactBlocked.j0 k l0 l1 a2 a3 t268 t269 t270 t275 t278 t281 t282 t283 (t283 != t270)) else (laws_FnExactBlocked.j0 k l0 l1 a2 a3 t268 t269 t270 t275 t278 t281 t282 t283 true))) else (laws_FnExactBlocked.j0 k l0 l1 a2 a3 t268 t269 t270 t275 t278 t281 t282 t283 true))) = some r := H
 have A12 := Kp.a A120
 clear A120
 have HC13 := Kp.a H
 clear H
 go_enter Try.func5, Try.ntmps5
 go_upto_region 9 with (first | ((with_reducible refine gate_callee (f := 7) rfl ?_); refine goesL_ (some 31) rfl rfl Try.func7 (by kernel_rfl) rfl #[.slice A0 l0.length c0] rfl (by (try simp only [List.map_toArray, List.map_cons, List.map_nil]); first | done | rfl | (simp only [List.length_drop, List.length_take]; rfl)) ?_; (with_reducible refine (laws_toIntS.calls k _ _ l0 t262 _ ?side1 ?side2 A7.out).mono ?_); (case side1 => repeat (first | exact HR0.out | (with_reducible refine Kd.C_alloc ?_ _) | (with_reducible refine Kd.C_drewN ?_ _) | (with_reducible refine Kd.C_drew ?_))); (case side2 => exact HC0.out); rintro e w14 ⟨v263, rfl, ho0, hb⟩; refine ⟨_, rfl, ?_⟩; have n0_ := Kp.a (Kd.R_lower ho0 (below_size (Kp.kpL HB.out))); have n1_ := Kp.a (below_step (Kp.kpL HB.out) hb); clear HB; have HO264 := n0_; have HB := n1_; clear n0_ n1_; (try clear hb); (try clear hb2); (try clear hk); (try clear hi); (try clear ho0)) | ((with_reducible refine gate_callee (f := 7) rfl ?_); refine goesL_ (some 33) rfl rfl Try.func7 (by kernel_rfl) rfl #[.slice A1 l1.length c1] rfl (by (try simp only [List.map_toArray, List.map_cons, List.map_nil]); first | done | rfl | (simp only [List.length_drop, List.length_take]; rfl)) ?_; (with_reducible refine (laws_toIntS.calls k _ _ l1 t265 _ ?side1 ?side2 A8.out).mono ?_); (case side1 => repeat (first | exact (Kd.C_below HR1.out HB.out) | (with_reducible refine Kd.C_alloc ?_ _) | (with_reducible refine Kd.C_drewN ?_ _) | (with_reducible refine Kd.C_drew ?_))); (case side2 => exact HC1.out); rintro e w15 ⟨v266, rfl, ho0, hb⟩; refine ⟨_, rfl, ?_⟩; have n0_ := Kp.a (Kd.R_elder' (Kp.kpR HO264.out) (Kd.R_base ho0) hb); have n1_ := Kp.a (Kd.R_lower (Kd.R_new' ho0 (Kd.R_lt (Kp.kpR HO264.out))) (below_size (Kp.kpL HB.out))); have n2_ := Kp.a (below_step (Kp.kpL HB.out) hb); clear HO264; clear HB; have HO264 := n0_; have HO267 := n1_; have HB := n2_; clear n0_ n1_ n2_; (try clear hb); (try clear hb2); (try clear hk); (try clear hi); (try clear ho0); obtain ⟨Ao16, co16, eo16⟩ := Kd.R_slice HO264.out; subst eo16; obtain ⟨Ao17, co17, eo17⟩ := Kd.R_slice HO267.out; subst eo17) | ((with_reducible refine gate_callee (f := 16) rfl ?_); refine goesL_ (some 36) rfl rfl Try.func16 (by kernel_rfl) rfl #[.slice Ao16 t262.length co16, .slice Ao17 t265.length co17, .int .i64 a2, .int .i64 a3] rfl (by (try simp only [List.map_toArray, List.map_cons, List.map_nil]); first | done | rfl | (simp only [List.length_drop, List.length_take]; rfl)) ?_; (with_reducible refine (spec_Blocked.calls k _ _ t262 _ _ t265 a2 a3 t268 t269 t270 _ ?side1 ?side2 ?side3 ?side4 A9.out).mono ?_); (case side1 => repeat (first | exact (Kd.R_reads' HO264.out).2.2 | (with_reducible refine Kd.C_alloc ?_ _) | (with_reducible refine Kd.C_drewN ?_ _) | (with_reducible refine Kd.C_drew ?_))); (case side2 => exact (Kd.R_reads' HO264.out).2.1); (case side3 => repeat (first | exact (Kd.R_reads' HO267.out).2.2 | (with_reducible refine Kd.C_alloc ?_ _) | (with_reducible refine Kd.C_drewN ?_ _) | (with_reducible refine Kd.C_drew ?_))); (case side4 => exact (Kd.R_reads' HO267.out).2.1); rintro e w18 ⟨v271, v273, rfl, ho0, ho1, hb⟩; refine ⟨_, rfl, ?_⟩; have n0_ := Kp.a (Kd.R_mono (Kd.R_told (Kd.R_told (Kd.R_old (Kp.kpR HO264.out) hb) (Kd.R_base ho0)) (Kd.R_base ho1)) (fun _ h_ => h_.1)); have n1_ := Kp.a (Kd.R_mono (Kd.R_told (Kd.R_told (Kd.R_old (Kp.kpR HO267.out) hb) (Kd.R_base ho0)) (Kd.R_base ho1)) (fun _ h_ => h_.1)); have n2_ := Kp.a (Kd.R_lower (Kd.R_new' (Kd.R_new' ho0 (Kd.R_lt (Kp.kpR HO264.out))) (Kd.R_lt (Kp.kpR HO267.out))) (below_size (Kp.kpL HB.out))); have n3_ := Kp.a (Kd.R_lower (Kd.R_new' (Kd.R_new' ho1 (Kd.R_lt (Kp.kpR HO264.out))) (Kd.R_lt (Kp.kpR HO267.out))) (below_size (Kp.kpL HB.out))); have n4_ := Kp.a (below_step (Kp.kpL HB.out) hb); clear HO264; clear HO267; clear HB; have HO264 := n0_; have HO267 := n1_; have HO272 := n2_; have HO274 := n3_; have HB := n4_; clear n0_ n1_ n2_ n3_ n4_; (try clear hb); (try clear hb2); (try clear hk); (try clear hi); (try clear ho0); (try clear ho1)) | ((with_reducible refine gate_callee (f := 7) rfl ?_); refine goesL_ (some 41) rfl rfl Try.func7 (by kernel_rfl) rfl #[.slice A0 l0.length c0] rfl (by (try simp only [List.map_toArray, List.map_cons, List.map_nil]); first | done | rfl | (simp only [List.length_drop, List.length_take]; rfl)) ?_; (with_reducible refine (laws_toIntS.calls k _ _ l0 t275 _ ?side1 ?side2 A10.out).mono ?_); (case side1 => repeat (first | exact (Kd.C_below HR0.out HB.out) | (with_reducible refine Kd.C_alloc ?_ _) | (with_reducible refine Kd.C_drewN ?_ _) | (with_reducible refine Kd.C_drew ?_))); (case side2 => exact HC0.out); rintro e w19 ⟨v276, rfl, ho0, hb⟩; refine ⟨_, rfl, ?_⟩; have n0_ := Kp.a (Kd.R_elder' (Kp.kpR HO264.out) (Kd.R_base ho0) hb); have n1_ := Kp.a (Kd.R_elder' (Kp.kpR HO267.out) (Kd.R_base ho0) hb); have n2_ := Kp.a (Kd.R_elder' (Kp.kpR HO272.out) (Kd.R_base ho0) hb); have n3_ := Kp.a (Kd.R_elder' (Kp.kpR HO274.out) (Kd.R_base ho0) hb); have n4_ := Kp.a (Kd.R_lower (Kd.R_new' (Kd.R_new' (Kd.R_new' (Kd.R_new' ho0 (Kd.R_lt (Kp.kpR HO264.out))) (Kd.R_lt (Kp.kpR HO267.out))) (Kd.R_lt (Kp.kpR HO272.out))) (Kd.R_lt (Kp.kpR HO274.out))) (below_size (Kp.kpL HB.out))); have n5_ := Kp.a (below_step (Kp.kpL HB.out) hb); clear HO264; clear HO267; clear HO272; clear HO274; clear HB; have HO264 := n0_; have HO267 := n1_; have HO272 := n2_; have HO274 := n3_; have HO277 := n4_; have HB := n5_; clear n0_ n1_ n2_ n3_ n4_ n5_; (try clear hb); (try clear hb2); (try clear hk); (try clear hi); (try clear ho0)) | ((with_reducible refine gate_callee (f := 7) rfl ?_); refine goesL_ (some 43) rfl rfl Try.func7 (by kernel_rfl) rfl #[.slice A1 l1.length c1] rfl (by (try simp only [List.map_toArray, List.map_cons, List.map_nil]); first | done | rfl | (simp only [List.length_drop, List.length_take]; rfl)) ?_; (with_reducible refine (laws_toIntS.calls k _ _ l1 t278 _ ?side1 ?side2 A11.out).mono ?_); (case side1 => repeat (first | exact (Kd.C_below HR1.out HB.out) | (with_reducible refine Kd.C_alloc ?_ _) | (with_reducible refine Kd.C_drewN ?_ _) | (with_reducible refine Kd.C_drew ?_))); (case side2 => exact HC1.out); rintro e w20 ⟨v279, rfl, ho0, hb⟩; refine ⟨_, rfl, ?_⟩; have n0_ := Kp.a (Kd.R_elder' (Kp.kpR HO264.out) (Kd.R_base ho0) hb); have n1_ := Kp.a (Kd.R_elder' (Kp.kpR HO267.out) (Kd.R_base ho0) hb); have n2_ := Kp.a (Kd.R_elder' (Kp.kpR HO272.out) (Kd.R_base ho0) hb); have n3_ := Kp.a (Kd.R_elder' (Kp.kpR HO274.out) (Kd.R_base ho0) hb); have n4_ := Kp.a (Kd.R_elder' (Kp.kpR HO277.out) (Kd.R_base ho0) hb); have n5_ := Kp.a (Kd.R_lower (Kd.R_new' (Kd.R_new' (Kd.R_new' (Kd.R_new' (Kd.R_new' ho0 (Kd.R_lt (Kp.kpR HO264.out))) (Kd.R_lt (Kp.kpR HO267.out))) (Kd.R_lt (Kp.kpR HO272.out))) (Kd.R_lt (Kp.kpR HO274.out))) (Kd.R_lt (Kp.kpR HO277.out))) (below_size (Kp.kpL HB.out))); have n6_ := Kp.a (below_step (Kp.kpL HB.out) hb); clear HO264; clear HO267; clear HO272; clear HO274; clear HO277; clear HB; have HO264 := n0_; have HO267 := n1_; have HO272 := n2_; have HO274 := n3_; have HO277 := n4_; have HO280 := n5_; have HB := n6_; clear n0_ n1_ n2_ n3_ n4_ n5_ n6_; (try clear hb); (try clear hb2); (try clear hk); (try clear hi); (try clear ho0); obtain ⟨Ao21, co21, eo21⟩ := Kd.R_slice HO277.out; subst eo21; obtain ⟨Ao22, co22, eo22⟩ := Kd.R_slice HO280.out; subst eo22) | ((with_reducible refine gate_callee (f := 15) rfl ?_); refine goesL_ (some 49) rfl rfl Try.func15 (by kernel_rfl) rfl #[.slice Ao21 t275.length co21, .slice Ao22 t278.length co22, .int .i64 a2, .int .i64 a3] rfl (by (try simp only [List.map_toArray, List.map_cons, List.map_nil]); first | done | rfl | (simp only [List.length_drop, List.length_take]; rfl)) ?_; (with_reducible refine (impl_Blocked.calls k _ _ t275 _ _ t278 a2 a3 t281 t282 t283 _ ?side1 ?side2 ?side3 ?side4 A12.out).mono ?_); (case side1 => repeat (first | exact (Kd.R_reads' HO277.out).2.2 | (with_reducible refine Kd.C_alloc ?_ _) | (with_reducible refine Kd.C_drewN ?_ _) | (with_reducible refine Kd.C_drew ?_))); (case side2 => exact (Kd.R_reads' HO277.out).2.1); (case side3 => repeat (first | exact (Kd.R_reads' HO280.out).2.2 | (with_reducible refine Kd.C_alloc ?_ _) | (with_reducible refine Kd.C_drewN ?_ _) | (with_reducible refine Kd.C_drew ?_))); (case side4 => exact (Kd.R_reads' HO280.out).2.1); rintro e w23 ⟨v284, v286, rfl, ho0, ho1, hb⟩; refine ⟨_, rfl, ?_⟩; have n0_ := Kp.a (Kd.R_mono (Kd.R_told (Kd.R_told (Kd.R_old (Kp.kpR HO264.out) hb) (Kd.R_base ho0)) (Kd.R_base ho1)) (fun _ h_ => h_.1)); have n1_ := Kp.a (Kd.R_mono (Kd.R_told (Kd.R_told (Kd.R_old (Kp.kpR HO267.out) hb) (Kd.R_base ho0)) (Kd.R_base ho1)) (fun _ h_ => h_.1)); have n2_ := Kp.a (Kd.R_mono (Kd.R_told (Kd.R_told (Kd.R_old (Kp.kpR HO272.out) hb) (Kd.R_base ho0)) (Kd.R_base ho1)) (fun _ h_ => h_.1)); have n3_ := Kp.a (Kd.R_mono (Kd.R_told (Kd.R_told (Kd.R_old (Kp.kpR HO274.out) hb) (Kd.R_base ho0)) (Kd.R_base ho1)) (fun _ h_ => h_.1)); have n4_ := Kp.a (Kd.R_mono (Kd.R_told (Kd.R_told (Kd.R_old (Kp.kpR HO277.out) hb) (Kd.R_base ho0)) (Kd.R_base ho1)) (fun _ h_ => h_.1)); have n5_ := Kp.a (Kd.R_mono (Kd.R_told (Kd.R_told (Kd.R_old (Kp.kpR HO280.out) hb) (Kd.R_base ho0)) (Kd.R_base ho1)) (fun _ h_ => h_.1)); have n6_ := Kp.a (Kd.R_lower (Kd.R_new' (Kd.R_new' (Kd.R_new' (Kd.R_new' (Kd.R_new' (Kd.R_new' ho0 (Kd.R_lt (Kp.kpR HO264.out))) (Kd.R_lt (Kp.kpR HO267.out))) (Kd.R_lt (Kp.kpR HO272.out))) (Kd.R_lt (Kp.kpR HO274.out))) (Kd.R_lt (Kp.kpR HO277.out))) (Kd.R_lt (Kp.kpR HO280.out))) (below_size (Kp.kpL HB.out))); have n7_ := Kp.a (Kd.R_lower (Kd.R_new' (Kd.R_new' (Kd.R_new' (Kd.R_new' (Kd.R_new' (Kd.R_new' ho1 (Kd.R_lt (Kp.kpR HO264.out))) (Kd.R_lt (Kp.kpR HO267.out))) (Kd.R_lt (Kp.kpR HO272.out))) (Kd.R_lt (Kp.kpR HO274.out))) (Kd.R_lt (Kp.kpR HO277.out))) (Kd.R_lt (Kp.kpR HO280.out))) (below_size (Kp.kpL HB.out))); have n8_ := Kp.a (below_step (Kp.kpL HB.out) hb); clear HO264; clear HO267; clear HO272; clear HO274; clear HO277; clear HO280; clear HB; have HO264 := n0_; have HO267 := n1_; have HO272 := n2_; have HO274 := n3_; have HO277 := n4_; have HO280 := n5_; have HO285 := n6_; have HO287 := n7_; have HB := n8_; clear n0_ n1_ n2_ n3_ n4_ n5_ n6_ n7_ n8_; (try clear hb); (try clear hb2); (try clear hk); (try clear hi); (try clear ho0); (try clear ho1)))
 (try simp only [Act.put, Kp.s0, Kp.s1, Kp.s2])
 go_cut [67] (fun v67 wc => ∃ (kq : Nat) (x67_12 : Bool), v67 = .bool x67_12 ∧ Aside0 (laws_FnExactBlocked.j0 kq l0 l1 a2 a3 t268 t269 t270 t275 t278 t281 t282 t283 x67_12 = some r) ∧ Aside0 (kq ≤ k) ∧ Aside0 (Kd.R (Kd.int .i64) 3 wc w.heap.size (fun k_ => some k_ ≠ (v273 : Value).ownBlock ∧ some k_ ≠ ((.slice Ao21 t275.length co21) : Value).ownBlock ∧ some k_ ≠ ((.slice Ao22 t278.length co22) : Value).ownBlock ∧ some k_ ≠ (v284 : Value).ownBlock ∧ some k_ ≠ (v286 : Value).ownBlock) v271 t268) ∧ Aside0 (Kd.R (Kd.int .i64) 3 wc w.heap.size (fun k_ => some k_ ≠ (v271 : Value).ownBlock ∧ some k_ ≠ ((.slice Ao21 t275.length co21) : Value).ownBlock ∧ some k_ ≠ ((.slice Ao22 t278.length co22) : Value).ownBlock ∧ some k_ ≠ (v284 : Value).ownBlock ∧ some k_ ≠ (v286 : Value).ownBlock) v273 t269) ∧ Aside0 (Kd.R (Kd.int .i64) 3 wc w.heap.size (fun k_ => some k_ ≠ (v271 : Value).ownBlock ∧ some k_ ≠ (v273 : Value).ownBlock ∧ some k_ ≠ ((.slice Ao22 t278.length co22) : Value).ownBlock ∧ some k_ ≠ (v284 : Value).ownBlock ∧ some k_ ≠ (v286 : Value).ownBlock) (.slice Ao21 t275.length co21) t275) ∧ Aside0 (Kd.R (Kd.int .i64) 3 wc w.heap.size (fun k_ => some k_ ≠ (v271 : Value).ownBlock ∧ some k_ ≠ (v273 : Value).ownBlock ∧ some k_ ≠ ((.slice Ao21 t275.length co21) : Value).ownBlock ∧ some k_ ≠ (v284 : Value).ownBlock ∧ some k_ ≠ (v286 : Value).ownBlock) (.slice Ao22 t278.length co22) t278) ∧ Aside0 (Kd.R (Kd.int .i64) 3 wc w.heap.size (fun k_ => some k_ ≠ (v271 : Value).ownBlock ∧ some k_ ≠ (v273 : Value).ownBlock ∧ some k_ ≠ ((.slice Ao21 t275.length co21) : Value).ownBlock ∧ some k_ ≠ ((.slice Ao22 t278.length co22) : Value).ownBlock ∧ some k_ ≠ (v286 : Value).ownBlock) v284 t281) ∧ Aside0 (Kd.R (Kd.int .i64) 3 wc w.heap.size (fun k_ => some k_ ≠ (v271 : Value).ownBlock ∧ some k_ ≠ (v273 : Value).ownBlock ∧ some k_ ≠ ((.slice Ao21 t275.length co21) : Value).ownBlock ∧ some k_ ≠ ((.slice Ao22 t278.length co22) : Value).ownBlock ∧ some k_ ≠ (v284 : Value).ownBlock) v286 t282) ∧ Aside0 (Below w.heap.size w wc))
 case first =>
  have H := HC13.out
  clear HC13
  replace H := Option.bind_eq_some_iff.mp H
  obtain ⟨t288, A240, H⟩ := H
  replace H : (if t288 = true then ((laws_eqIntS.f k t282 t269).bind fun t289 => (if t289 = true then (laws_FnExactBlocked.j0 k l0 l1 a2 a3 t268 t269 t270 t275 t278 t281 t282 t283 (t283 != t270)) else (laws_FnExactBlocked.j0 k l0 l1 a2 a3 t268 t269 t270 t275 t278 t281 t282 t283 true))) else (laws_FnExactBlocked.j0 k l0 l1 a2 a3 t268 t269 t270 t275 t278 t281 t282 t283 true)) = some r := H
  have A24 := Kp.a A240
  clear A240
  by_cases c25 : t288 = true
  rotate_left
  ·replace c25 := Bool.eq_false_iff.mpr c25
   subst c25
   have H1 : (laws_FnExactBlocked.j0 k l0 l1 a2 a3 t268 t269 t270 t275 t278 t281 t282 t283 true) = some r := by rw [if_neg (show ¬ (false = true) by decide)] at H; exact H
   clear H
   have H := H1
   clear H1
   have H' := Kp.a H
   clear H
   obtain ⟨Ao36, co36, eo36⟩ := Kd.R_slice HO285.out
   subst eo36
   obtain ⟨Ao37, co37, eo37⟩ := Kd.R_slice HO272.out
   subst eo37
   go_wp2_with (first | ((with_reducible refine gate_callee (f := 10) rfl ?_); refine goesL_ (some 55) rfl rfl Try.func10 (by kernel_rfl) rfl #[.slice Ao36 t281.length co36, .slice Ao37 t268.length co37] rfl (by (try simp only [List.map_toArray, List.map_cons, List.map_nil]); first | done | rfl | (simp only [List.length_drop, List.length_take]; rfl)) ?_; (with_reducible refine (laws_eqIntS.calls k _ _ t281 _ _ t268 false _ ?side1 ?side2 ?side3 ?side4 A24.out).mono ?_); (case side1 => repeat (first | exact (Kd.R_reads' HO285.out).2.2 | (with_reducible refine Kd.C_alloc ?_ _) | (with_reducible refine Kd.C_drewN ?_ _) | (with_reducible refine Kd.C_drew ?_))); (case side2 => exact (Kd.R_reads' HO285.out).2.1); (case side3 => repeat (first | exact (Kd.R_reads' HO272.out).2.2 | (with_reducible refine Kd.C_alloc ?_ _) | (with_reducible refine Kd.C_drewN ?_ _) | (with_reducible refine Kd.C_drew ?_))); (case side4 => exact (Kd.R_reads' HO272.out).2.1); rintro e w' ⟨rfl, ⟨nd, rfl⟩⟩; refine ⟨_, rfl, ?_⟩))
   go_meet
   case rel => exact ⟨_, (true), (by first | rfl | (simp; done) | (simp [*]; done)), H', ⟨by first | omega | exact Nat.le_refl _⟩, ⟨Kp.kpR (Kd.R_mono HO272.out (fun _ hk => ⟨hk.1.1.1.1.1.1, ⟨hk.1.1.1.2, ⟨hk.1.1.2, ⟨hk.1.2, hk.2⟩⟩⟩⟩))⟩, ⟨Kp.kpR (Kd.R_mono HO274.out (fun _ hk => ⟨hk.1.1.1.1.1.1, ⟨hk.1.1.1.2, ⟨hk.1.1.2, ⟨hk.1.2, hk.2⟩⟩⟩⟩))⟩, ⟨Kp.kpR (Kd.R_mono HO277.out (fun _ hk => ⟨hk.1.1.1.1.2, ⟨hk.1.1.1.2, ⟨hk.1.1.2, ⟨hk.1.2, hk.2⟩⟩⟩⟩))⟩, ⟨Kp.kpR (Kd.R_mono HO280.out (fun _ hk => ⟨hk.1.1.1.1.2, ⟨hk.1.1.1.2, ⟨hk.1.1.2, ⟨hk.1.2, hk.2⟩⟩⟩⟩))⟩, ⟨Kp.kpR (Kd.R_mono HO285.out (fun _ hk => ⟨hk.1.1.1.2, ⟨hk.1.1.2, ⟨hk.1.2, ⟨hk.2, hk.1.1.1.1.1.1⟩⟩⟩⟩))⟩, ⟨Kp.kpR (Kd.R_mono HO287.out (fun _ hk => ⟨hk.1.1.1.2, ⟨hk.1.1.2, ⟨hk.1.2, ⟨hk.2, hk.1.1.1.1.1.1⟩⟩⟩⟩))⟩, ⟨Kp.kpL HB.out⟩⟩
  subst c25
  have H1 : ((laws_eqIntS.f k t282 t269).bind fun t289 => (if t289 = true then (laws_FnExactBlocked.j0 k l0 l1 a2 a3 t268 t269 t270 t275 t278 t281 t282 t283 (t283 != t270)) else (laws_FnExactBlocked.j0 k l0 l1 a2 a3 t268 t269 t270 t275 t278 t281 t282 t283 true))) = some r := by rw [if_pos rfl] at H; exact H
  clear H
  have H := H1
  clear H1
  replace H := Option.bind_eq_some_iff.mp H
  obtain ⟨t289, A260, H⟩ := H
  replace H : (if t289 = true then (laws_FnExactBlocked.j0 k l0 l1 a2 a3 t268 t269 t270 t275 t278 t281 t282 t283 (t283 != t270)) else (laws_FnExactBlocked.j0 k l0 l1 a2 a3 t268 t269 t270 t275 t278 t281 t282 t283 true)) = some r := H
  have A26 := Kp.a A260
  clear A260
  by_cases c27 : t289 = true
  ·subst c27
   have H1 : (laws_FnExactBlocked.j0 k l0 l1 a2 a3 t268 t269 t270 t275 t278 t281 t282 t283 (t283 != t270)) = some r := by rw [if_pos rfl] at H; exact H
   clear H
   have H := H1
   clear H1
   have H' := Kp.a H
   clear H
   obtain ⟨Ao28, co28, eo28⟩ := Kd.R_slice HO285.out
   subst eo28
   obtain ⟨Ao29, co29, eo29⟩ := Kd.R_slice HO272.out
   subst eo29
   go_wp2_with (first | ((with_reducible refine gate_callee (f := 10) rfl ?_); refine goesL_ (some 55) rfl rfl Try.func10 (by kernel_rfl) rfl #[.slice Ao28 t281.length co28, .slice Ao29 t268.length co29] rfl (by (try simp only [List.map_toArray, List.map_cons, List.map_nil]); first | done | rfl | (simp only [List.length_drop, List.length_take]; rfl)) ?_; (with_reducible refine (laws_eqIntS.calls k _ _ t281 _ _ t268 true _ ?side1 ?side2 ?side3 ?side4 A24.out).mono ?_); (case side1 => repeat (first | exact (Kd.R_reads' HO285.out).2.2 | (with_reducible refine Kd.C_alloc ?_ _) | (with_reducible refine Kd.C_drewN ?_ _) | (with_reducible refine Kd.C_drew ?_))); (case side2 => exact (Kd.R_reads' HO285.out).2.1); (case side3 => repeat (first | exact (Kd.R_reads' HO272.out).2.2 | (with_reducible refine Kd.C_alloc ?_ _) | (with_reducible refine Kd.C_drewN ?_ _) | (with_reducible refine Kd.C_drew ?_))); (case side4 => exact (Kd.R_reads' HO272.out).2.1); rintro e w' ⟨rfl, ⟨nd, rfl⟩⟩; refine ⟨_, rfl, ?_⟩; obtain ⟨Ao30, co30, eo30⟩ := Kd.R_slice HO287.out; subst eo30; obtain ⟨Ao31, co31, eo31⟩ := Kd.R_slice HO274.out; subst eo31) | (go_at_call 10; (with_reducible refine (laws_eqIntS.calls k _ _ t282 _ _ t269 true _ ?side1 ?side2 ?side3 ?side4 A26.out).mono ?_); (case side1 => repeat (first | exact (Kd.R_reads' HO287.out).2.2 | (with_reducible refine Kd.C_alloc ?_ _) | (with_reducible refine Kd.C_drewN ?_ _) | (with_reducible refine Kd.C_drew ?_))); (case side2 => exact (Kd.R_reads' HO287.out).2.1); (case side3 => repeat (first | exact (Kd.R_reads' HO274.out).2.2 | (with_reducible refine Kd.C_alloc ?_ _) | (with_reducible refine Kd.C_drewN ?_ _) | (with_reducible refine Kd.C_drew ?_))); (case side4 => exact (Kd.R_reads' HO274.out).2.1); rintro e w' ⟨rfl, ⟨nd, rfl⟩⟩))
   go_meet
   case rel => exact ⟨_, ((t283 != t270)), (by first | rfl | (simp; done) | (simp [*]; done)), H', ⟨by first | omega | exact Nat.le_refl _⟩, ⟨Kp.kpR (Kd.R_mono HO272.out (fun _ hk => ⟨hk.1.1.1.1.1.1, ⟨hk.1.1.1.2, ⟨hk.1.1.2, ⟨hk.1.2, hk.2⟩⟩⟩⟩))⟩, ⟨Kp.kpR (Kd.R_mono HO274.out (fun _ hk => ⟨hk.1.1.1.1.1.1, ⟨hk.1.1.1.2, ⟨hk.1.1.2, ⟨hk.1.2, hk.2⟩⟩⟩⟩))⟩, ⟨Kp.kpR (Kd.R_mono HO277.out (fun _ hk => ⟨hk.1.1.1.1.2, ⟨hk.1.1.1.2, ⟨hk.1.1.2, ⟨hk.1.2, hk.2⟩⟩⟩⟩))⟩, ⟨Kp.kpR (Kd.R_mono HO280.out (fun _ hk => ⟨hk.1.1.1.1.2, ⟨hk.1.1.1.2, ⟨hk.1.1.2, ⟨hk.1.2, hk.2⟩⟩⟩⟩))⟩, ⟨Kp.kpR (Kd.R_mono HO285.out (fun _ hk => ⟨hk.1.1.1.2, ⟨hk.1.1.2, ⟨hk.1.2, ⟨hk.2, hk.1.1.1.1.1.1⟩⟩⟩⟩))⟩, ⟨Kp.kpR (Kd.R_mono HO287.out (fun _ hk => ⟨hk.1.1.1.2, ⟨hk.1.1.2, ⟨hk.1.2, ⟨hk.2, hk.1.1.1.1.1.1⟩⟩⟩⟩))⟩, ⟨Kp.kpL HB.out⟩⟩
  replace c27 := Bool.eq_false_iff.mpr c27
  subst c27
  have H1 : (laws_FnExactBlocked.j0 k l0 l1 a2 a3 t268 t269 t270 t275 t278 t281 t282 t283 true) = some r := by rw [if_neg (show ¬ (false = true) by decide)] at H; exact H
  clear H
  have H := H1
  clear H1
  have H' := Kp.a H
  clear H
  obtain ⟨Ao32, co32, eo32⟩ := Kd.R_slice HO285.out
  subst eo32
  obtain ⟨Ao33, co33, eo33⟩ := Kd.R_slice HO272.out
  subst eo33
  go_wp2_with (first | ((with_reducible refine gate_callee (f := 10) rfl ?_); refine goesL_ (some 55) rfl rfl Try.func10 (by kernel_rfl) rfl #[.slice Ao32 t281.length co32, .slice Ao33 t268.length co33] rfl (by (try simp only [List.map_toArray, List.map_cons, List.map_nil]); first | done | rfl | (simp only [List.length_drop, List.length_take]; rfl)) ?_; (with_reducible refine (laws_eqIntS.calls k _ _ t281 _ _ t268 true _ ?side1 ?side2 ?side3 ?side4 A24.out).mono ?_); (case side1 => repeat (first | exact (Kd.R_reads' HO285.out).2.2 | (with_reducible refine Kd.C_alloc ?_ _) | (with_reducible refine Kd.C_drewN ?_ _) | (with_reducible refine Kd.C_drew ?_))); (case side2 => exact (Kd.R_reads' HO285.out).2.1); (case side3 => repeat (first | exact (Kd.R_reads' HO272.out).2.2 | (with_reducible refine Kd.C_alloc ?_ _) | (with_reducible refine Kd.C_drewN ?_ _) | (with_reducible refine Kd.C_drew ?_))); (case side4 => exact (Kd.R_reads' HO272.out).2.1); rintro e w' ⟨rfl, ⟨nd, rfl⟩⟩; refine ⟨_, rfl, ?_⟩; obtain ⟨Ao34, co34, eo34⟩ := Kd.R_slice HO287.out; subst eo34; obtain ⟨Ao35, co35, eo35⟩ := Kd.R_slice HO274.out; subst eo35) | (go_at_call 10; (with_reducible refine (laws_eqIntS.calls k _ _ t282 _ _ t269 false _ ?side1 ?side2 ?side3 ?side4 A26.out).mono ?_); (case side1 => repeat (first | exact (Kd.R_reads' HO287.out).2.2 | (with_reducible refine Kd.C_alloc ?_ _) | (with_reducible refine Kd.C_drewN ?_ _) | (with_reducible refine Kd.C_drew ?_))); (case side2 => exact (Kd.R_reads' HO287.out).2.1); (case side3 => repeat (first | exact (Kd.R_reads' HO274.out).2.2 | (with_reducible refine Kd.C_alloc ?_ _) | (with_reducible refine Kd.C_drewN ?_ _) | (with_reducible refine Kd.C_drew ?_))); (case side4 => exact (Kd.R_reads' HO274.out).2.1); rintro e w' ⟨rfl, ⟨nd, rfl⟩⟩))
  go_meet
  case rel => exact ⟨_, (true), (by first | rfl | (simp; done) | (simp [*]; done)), H', ⟨by first | omega | exact Nat.le_refl _⟩, ⟨Kp.kpR (Kd.R_mono HO272.out (fun _ hk => ⟨hk.1.1.1.1.1.1, ⟨hk.1.1.1.2, ⟨hk.1.1.2, ⟨hk.1.2, hk.2⟩⟩⟩⟩))⟩, ⟨Kp.kpR (Kd.R_mono HO274.out (fun _ hk => ⟨hk.1.1.1.1.1.1, ⟨hk.1.1.1.2, ⟨hk.1.1.2, ⟨hk.1.2, hk.2⟩⟩⟩⟩))⟩, ⟨Kp.kpR (Kd.R_mono HO277.out (fun _ hk => ⟨hk.1.1.1.1.2, ⟨hk.1.1.1.2, ⟨hk.1.1.2, ⟨hk.1.2, hk.2⟩⟩⟩⟩))⟩, ⟨Kp.kpR (Kd.R_mono HO280.out (fun _ hk => ⟨hk.1.1.1.1.2, ⟨hk.1.1.1.2, ⟨hk.1.1.2, ⟨hk.1.2, hk.2⟩⟩⟩⟩))⟩, ⟨Kp.kpR (Kd.R_mono HO285.out (fun _ hk => ⟨hk.1.1.1.2, ⟨hk.1.1.2, ⟨hk.1.2, ⟨hk.2, hk.1.1.1.1.1.1⟩⟩⟩⟩))⟩, ⟨Kp.kpR (Kd.R_mono HO287.out (fun _ hk => ⟨hk.1.1.1.2, ⟨hk.1.1.2, ⟨hk.1.2, ⟨hk.2, hk.1.1.1.1.1.1⟩⟩⟩⟩))⟩, ⟨Kp.kpL HB.out⟩⟩
 clear HC13
 try clear c1
 try clear c2
 try clear p2
 try clear c5
 try clear c5b0
 try clear c5b1
 try clear c6
 try clear c6b0
 try clear c6b1
 try clear c7
 try clear c10
 try clear c15
 try clear c16
 try clear c25
 try clear c27
 obtain ⟨kq, x67_12, rfl, HA, HJ12, HO_9, HO_10, HO_12, HO_13, HO_14, HO_15, HB⟩ := hcut
 cases kq with
 | zero => exact absurd HA.out (by simp [laws_FnExactBlocked.j0])
 | succ kj12 =>
  have H := HA.out
  clear HA
  simp only [laws_FnExactBlocked.j0] at H
  by_cases c38 : x67_12 = true
  ·subst c38
   have H1 : (some false) = some r := by rw [if_pos rfl] at H; exact H
   clear H
   have H := H1
   clear H1
   obtain rfl := Option.some.inj H
   go_wp2
   go_ret
   exact ⟨by first | rfl | (simp [errW_none, errW_some] <;> rfl) | (simp [*, errW_none, errW_some] <;> rfl), Kp.kpL HB.out⟩
  replace c38 := Bool.eq_false_iff.mpr c38
  subst c38
  have H1 : ((laws_toIntS.f kj12 l0).bind fun t290 => ((laws_eqIntS.f kj12 t275 t290).bind fun t293 => (if t293 = true then ((laws_toIntS.f kj12 l1).bind fun t294 => ((laws_eqIntS.f kj12 t278 t294).bind fun t297 => (if t297 = true then ((laws_markIntS.f kj12 t275 1).bind fun bt298 => ((laws_markIntS.f kj12 t278 bt298.1).bind fun bt300 => (if bt300.1 < 0 then (laws_FnExactBlocked.j1 kj12 l0 l1 a2 a3 t268 t269 t270 t281 t282 true) else ((laws_eqIntS.f kj12 t281 t268).bind fun t302 => (if t302 = true then ((laws_eqIntS.f kj12 t282 t269).bind fun t303 => (if t303 = true then (laws_FnExactBlocked.j1 kj12 l0 l1 a2 a3 t268 t269 t270 t281 t282 (t283 != t270)) else (laws_FnExactBlocked.j1 kj12 l0 l1 a2 a3 t268 t269 t270 t281 t282 true))) else (laws_FnExactBlocked.j1 kj12 l0 l1 a2 a3 t268 t269 t270 t281 t282 true)))))) else (some false)))) else (some false)))) = some r := by rw [if_neg (show ¬ (false = true) by decide)] at H; exact H
  clear H
  have H := H1
  clear H1
  replace H := Option.bind_eq_some_iff.mp H
  obtain ⟨t290, A390, H⟩ := H
  replace H : ((laws_eqIntS.f kj12 t275 t290).bind fun t293 => (if t293 = true then ((laws_toIntS.f kj12 l1).bind fun t294 => ((laws_eqIntS.f kj12 t278 t294).bind fun t297 => (if t297 = true then ((laws_markIntS.f kj12 t275 1).bind fun bt298 => ((laws_markIntS.f kj12 t278 bt298.1).bind fun bt300 => (if bt300.1 < 0 then (laws_FnExactBlocked.j1 kj12 l0 l1 a2 a3 t268 t269 t270 t281 t282 true) else ((laws_eqIntS.f kj12 t281 t268).bind fun t302 => (if t302 = true then ((laws_eqIntS.f kj12 t282 t269).bind fun t303 => (if t303 = true then (laws_FnExactBlocked.j1 kj12 l0 l1 a2 a3 t268 t269 t270 t281 t282 (t283 != t270)) else (laws_FnExactBlocked.j1 kj12 l0 l1 a2 a3 t268 t269 t270 t281 t282 true))) else (laws_FnExactBlocked.j1 kj12 l0 l1 a2 a3 t268 t269 t270 t281 t282 true)))))) else (some false)))) else (some false))) = some r := H
  have A39 := Kp.a A390
  clear A390
  replace H := Option.bind_eq_some_iff.mp H
  obtain ⟨t293, A400, H⟩ := H
  replace H : (if t293 = true then ((laws_toIntS.f kj12 l1).bind fun t294 => ((laws_eqIntS.f kj12 t278 t294).bind fun t297 => (if t297 = true then ((laws_markIntS.f kj12 t275 1).bind fun bt298 => ((laws_markIntS.f kj12 t278 bt298.1).bind fun bt300 => (if bt300.1 < 0 then (laws_FnExactBlocked.j1 kj12 l0 l1 a2 a3 t268 t269 t270 t281 t282 true) else ((laws_eqIntS.f kj12 t281 t268).bind fun t302 => (if t302 = true then ((laws_eqIntS.f kj12 t282 t269).bind fun t303 => (if t303 = true then (laws_FnExactBlocked.j1 kj12 l0 l1 a2 a3 t268 t269 t270 t281 t282 (t283 != t270)) else (laws_FnExactBlocked.j1 kj12 l0 l1 a2 a3 t268 t269 t270 t281 t282 true))) else (laws_FnExactBlocked.j1 kj12 l0 l1 a2 a3 t268 t269 t270 t281 t282 true)))))) else (some false)))) else (some false)) = some r := H
  have A40 := Kp.a A400
  clear A400
  by_cases c41 : t293 = true
  rotate_left
  ·replace c41 := Bool.eq_false_iff.mpr c41
   subst c41
   have H1 : (some false) = some r := by rw [if_neg (show ¬ (false = true) by decide)] at H; exact H
   clear H
   have H := H1
   clear H1
   obtain rfl := Option.some.inj H
   go_wp2_with (first | ((with_reducible refine gate_callee (f := 7) rfl ?_); refine goesL_ (some 70) rfl rfl Try.func7 (by kernel_rfl) rfl #[.slice A0 l0.length c0] rfl (by (try simp only [List.map_toArray, List.map_cons, List.map_nil]); first | done | rfl | (simp only [List.length_drop, List.length_take]; rfl)) ?_; (with_reducible refine (laws_toIntS.calls kj12 _ _ l0 t290 _ ?side1 ?side2 A39.out).mono ?_); (case side1 => repeat (first | exact (Kd.C_below HR0.out HB.out) | (with_reducible refine Kd.C_alloc ?_ _) | (with_reducible refine Kd.C_drewN ?_ _) | (with_reducible refine Kd.C_drew ?_))); (case side2 => exact HC0.out); rintro e w126 ⟨v291, rfl, ho0, hb⟩; refine ⟨_, rfl, ?_⟩; have n0_ := Kp.a (Kd.R_elder' (Kp.kpR HO_9.out) (Kd.R_base ho0) hb); have n1_ := Kp.a (Kd.R_elder' (Kp.kpR HO_10.out) (Kd.R_base ho0) hb); have n2_ := Kp.a (Kd.R_elder' (Kp.kpR HO_12.out) (Kd.R_base ho0) hb); have n3_ := Kp.a (Kd.R_elder' (Kp.kpR HO_13.out) (Kd.R_base ho0) hb); have n4_ := Kp.a (Kd.R_elder' (Kp.kpR HO_14.out) (Kd.R_base ho0) hb); have n5_ := Kp.a (Kd.R_elder' (Kp.kpR HO_15.out) (Kd.R_base ho0) hb); have n6_ := Kp.a (Kd.R_lower (Kd.R_new' (Kd.R_new' (Kd.R_new' (Kd.R_new' (Kd.R_new' (Kd.R_new' ho0 (Kd.R_lt (Kp.kpR HO_9.out))) (Kd.R_lt (Kp.kpR HO_10.out))) (Kd.R_lt (Kp.kpR HO_12.out))) (Kd.R_lt (Kp.kpR HO_13.out))) (Kd.R_lt (Kp.kpR HO_14.out))) (Kd.R_lt (Kp.kpR HO_15.out))) (below_size (Kp.kpL HB.out))); have n7_ := Kp.a (below_step (Kp.kpL HB.out) hb); clear HO_9; clear HO_10; clear HO_12; clear HO_13; clear HO_14; clear HO_15; clear HB; have HO_9 := n0_; have HO_10 := n1_; have HO_12 := n2_; have HO_13 := n3_; have HO_14 := n4_; have HO_15 := n5_; have HO292 := n6_; have HB := n7_; clear n0_ n1_ n2_ n3_ n4_ n5_ n6_ n7_; (try clear hb); (try clear hb2); (try clear hk); (try clear hi); (try clear ho0); obtain ⟨Ao127, co127, eo127⟩ := Kd.R_slice HO292.out; subst eo127) | ((with_reducible refine gate_callee (f := 10) rfl ?_); refine goesL_ (some 71) rfl rfl Try.func10 (by kernel_rfl) rfl #[.slice Ao21 t275.length co21, .slice Ao127 t290.length co127] rfl (by (try simp only [List.map_toArray, List.map_cons, List.map_nil]); first | done | rfl | (simp only [List.length_drop, List.length_take]; rfl)) ?_; (with_reducible refine (laws_eqIntS.calls kj12 _ _ t275 _ _ t290 false _ ?side1 ?side2 ?side3 ?side4 A40.out).mono ?_); (case side1 => repeat (first | exact (Kd.R_reads' HO_12.out).2.2 | (with_reducible refine Kd.C_alloc ?_ _) | (with_reducible refine Kd.C_drewN ?_ _) | (with_reducible refine Kd.C_drew ?_))); (case side2 => exact (Kd.R_reads' HO_12.out).2.1); (case side3 => repeat (first | exact (Kd.R_reads' HO292.out).2.2 | (with_reducible refine Kd.C_alloc ?_ _) | (with_reducible refine Kd.C_drewN ?_ _) | (with_reducible refine Kd.C_drew ?_))); (case side4 => exact (Kd.R_reads' HO292.out).2.1); rintro e w' ⟨rfl, ⟨nd, rfl⟩⟩; refine ⟨_, rfl, ?_⟩))
   go_ret
   exact ⟨by first | rfl | (simp [errW_none, errW_some] <;> rfl) | (simp [*, errW_none, errW_some] <;> rfl), Kp.kpL HB.out⟩
  subst c41
  have H1 : ((laws_toIntS.f kj12 l1).bind fun t294 => ((laws_eqIntS.f kj12 t278 t294).bind fun t297 => (if t297 = true then ((laws_markIntS.f kj12 t275 1).bind fun bt298 => ((laws_markIntS.f kj12 t278 bt298.1).bind fun bt300 => (if bt300.1 < 0 then (laws_FnExactBlocked.j1 kj12 l0 l1 a2 a3 t268 t269 t270 t281 t282 true) else ((laws_eqIntS.f kj12 t281 t268).bind fun t302 => (if t302 = true then ((laws_eqIntS.f kj12 t282 t269).bind fun t303 => (if t303 = true then (laws_FnExactBlocked.j1 kj12 l0 l1 a2 a3 t268 t269 t270 t281 t282 (t283 != t270)) else (laws_FnExactBlocked.j1 kj12 l0 l1 a2 a3 t268 t269 t270 t281 t282 true))) else (laws_FnExactBlocked.j1 kj12 l0 l1 a2 a3 t268 t269 t270 t281 t282 true)))))) else (some false)))) = some r := by rw [if_pos rfl] at H; exact H
  clear H
  have H := H1
  clear H1
  replace H := Option.bind_eq_some_iff.mp H
  obtain ⟨t294, A420, H⟩ := H
  replace H : ((laws_eqIntS.f kj12 t278 t294).bind fun t297 => (if t297 = true then ((laws_markIntS.f kj12 t275 1).bind fun bt298 => ((laws_markIntS.f kj12 t278 bt298.1).bind fun bt300 => (if bt300.1 < 0 then (laws_FnExactBlocked.j1 kj12 l0 l1 a2 a3 t268 t269 t270 t281 t282 true) else ((laws_eqIntS.f kj12 t281 t268).bind fun t302 => (if t302 = true then ((laws_eqIntS.f kj12 t282 t269).bind fun t303 => (if t303 = true then (laws_FnExactBlocked.j1 kj12 l0 l1 a2 a3 t268 t269 t270 t281 t282 (t283 != t270)) else (laws_FnExactBlocked.j1 kj12 l0 l1 a2 a3 t268 t269 t270 t281 t282 true))) else (laws_FnExactBlocked.j1 kj12 l0 l1 a2 a3 t268 t269 t270 t281 t282 true)))))) else (some false))) = some r := H
  have A42 := Kp.a A420
  clear A420
  replace H := Option.bind_eq_some_iff.mp H
  obtain ⟨t297, A430, H⟩ := H
  replace H : (if t297 = true then ((laws_markIntS.f kj12 t275 1).bind fun bt298 => ((laws_markIntS.f kj12 t278 bt298.1).bind fun bt300 => (if bt300.1 < 0 then (laws_FnExactBlocked.j1 kj12 l0 l1 a2 a3 t268 t269 t270 t281 t282 true) else ((laws_eqIntS.f kj12 t281 t268).bind fun t302 => (if t302 = true then ((laws_eqIntS.f kj12 t282 t269).bind fun t303 => (if t303 = true then (laws_FnExactBlocked.j1 kj12 l0 l1 a2 a3 t268 t269 t270 t281 t282 (t283 != t270)) else (laws_FnExactBlocked.j1 kj12 l0 l1 a2 a3 t268 t269 t270 t281 t282 true))) else (laws_FnExactBlocked.j1 kj12 l0 l1 a2 a3 t268 t269 t270 t281 t282 true)))))) else (some false)) = some r := H
  have A43 := Kp.a A430
  clear A430
  by_cases c44 : t297 = true
  rotate_left
  ·replace c44 := Bool.eq_false_iff.mpr c44
   subst c44
   have H1 : (some false) = some r := by rw [if_neg (show ¬ (false = true) by decide)] at H; exact H
   clear H
   have H := H1
   clear H1
   obtain rfl := Option.some.inj H
   go_wp2_with (first | ((with_reducible refine gate_callee (f := 7) rfl ?_); refine goesL_ (some 70) rfl rfl Try.func7 (by kernel_rfl) rfl #[.slice A0 l0.length c0] rfl (by (try simp only [List.map_toArray, List.map_cons, List.map_nil]); first | done | rfl | (simp only [List.length_drop, List.length_take]; rfl)) ?_; (with_reducible refine (laws_toIntS.calls kj12 _ _ l0 t290 _ ?side1 ?side2 A39.out).mono ?_); (case side1 => repeat (first | exact (Kd.C_below HR0.out HB.out) | (with_reducible refine Kd.C_alloc ?_ _) | (with_reducible refine Kd.C_drewN ?_ _) | (with_reducible refine Kd.C_drew ?_))); (case side2 => exact HC0.out); rintro e w122 ⟨v291, rfl, ho0, hb⟩; refine ⟨_, rfl, ?_⟩; have n0_ := Kp.a (Kd.R_elder' (Kp.kpR HO_9.out) (Kd.R_base ho0) hb); have n1_ := Kp.a (Kd.R_elder' (Kp.kpR HO_10.out) (Kd.R_base ho0) hb); have n2_ := Kp.a (Kd.R_elder' (Kp.kpR HO_12.out) (Kd.R_base ho0) hb); have n3_ := Kp.a (Kd.R_elder' (Kp.kpR HO_13.out) (Kd.R_base ho0) hb); have n4_ := Kp.a (Kd.R_elder' (Kp.kpR HO_14.out) (Kd.R_base ho0) hb); have n5_ := Kp.a (Kd.R_elder' (Kp.kpR HO_15.out) (Kd.R_base ho0) hb); have n6_ := Kp.a (Kd.R_lower (Kd.R_new' (Kd.R_new' (Kd.R_new' (Kd.R_new' (Kd.R_new' (Kd.R_new' ho0 (Kd.R_lt (Kp.kpR HO_9.out))) (Kd.R_lt (Kp.kpR HO_10.out))) (Kd.R_lt (Kp.kpR HO_12.out))) (Kd.R_lt (Kp.kpR HO_13.out))) (Kd.R_lt (Kp.kpR HO_14.out))) (Kd.R_lt (Kp.kpR HO_15.out))) (below_size (Kp.kpL HB.out))); have n7_ := Kp.a (below_step (Kp.kpL HB.out) hb); clear HO_9; clear HO_10; clear HO_12; clear HO_13; clear HO_14; clear HO_15; clear HB; have HO_9 := n0_; have HO_10 := n1_; have HO_12 := n2_; have HO_13 := n3_; have HO_14 := n4_; have HO_15 := n5_; have HO292 := n6_; have HB := n7_; clear n0_ n1_ n2_ n3_ n4_ n5_ n6_ n7_; (try clear hb); (try clear hb2); (try clear hk); (try clear hi); (try clear ho0); obtain ⟨Ao123, co123, eo123⟩ := Kd.R_slice HO292.out; subst eo123) | ((with_reducible refine gate_callee (f := 10) rfl ?_); refine goesL_ (some 71) rfl rfl Try.func10 (by kernel_rfl) rfl #[.slice Ao21 t275.length co21, .slice Ao123 t290.length co123] rfl (by (try simp only [List.map_toArray, List.map_cons, List.map_nil]); first | done | rfl | (simp only [List.length_drop, List.length_take]; rfl)) ?_; (with_reducible refine (laws_eqIntS.calls kj12 _ _ t275 _ _ t290 true _ ?side1 ?side2 ?side3 ?side4 A40.out).mono ?_); (case side1 => repeat (first | exact (Kd.R_reads' HO_12.out).2.2 | (with_reducible refine Kd.C_alloc ?_ _) | (with_reducible refine Kd.C_drewN ?_ _) | (with_reducible refine Kd.C_drew ?_))); (case side2 => exact (Kd.R_reads' HO_12.out).2.1); (case side3 => repeat (first | exact (Kd.R_reads' HO292.out).2.2 | (with_reducible refine Kd.C_alloc ?_ _) | (with_reducible refine Kd.C_drewN ?_ _) | (with_reducible refine Kd.C_drew ?_))); (case side4 => exact (Kd.R_reads' HO292.out).2.1); rintro e w' ⟨rfl, ⟨nd, rfl⟩⟩; refine ⟨_, rfl, ?_⟩) | ((with_reducible refine gate_callee (f := 7) rfl ?_); refine goesL_ (some 75) rfl rfl Try.func7 (by kernel_rfl) rfl #[.slice A1 l1.length c1] rfl (by (try simp only [List.map_toArray, List.map_cons, List.map_nil]); first | done | rfl | (simp only [List.length_drop, List.length_take]; rfl)) ?_; (with_reducible refine (laws_toIntS.calls kj12 _ _ l1 t294 _ ?side1 ?side2 A42.out).mono ?_); (case side1 => repeat (first | exact (Kd.C_below HR1.out (Kp.kpL HB.out)) | (with_reducible refine Kd.C_alloc ?_ _) | (with_reducible refine Kd.C_drewN ?_ _) | (with_reducible refine Kd.C_drew ?_))); (case side2 => exact HC1.out); rintro e w124 ⟨v295, rfl, ho0, hb⟩; refine ⟨_, rfl, ?_⟩; have n0_ := Kp.a (Kd.R_elder' (Kp.kpR HO_9.out) (Kd.R_base ho0) hb); have n1_ := Kp.a (Kd.R_elder' (Kp.kpR HO_10.out) (Kd.R_base ho0) hb); have n2_ := Kp.a (Kd.R_elder' (Kp.kpR HO_12.out) (Kd.R_base ho0) hb); have n3_ := Kp.a (Kd.R_elder' (Kp.kpR HO_13.out) (Kd.R_base ho0) hb); have n4_ := Kp.a (Kd.R_elder' (Kp.kpR HO_14.out) (Kd.R_base ho0) hb); have n5_ := Kp.a (Kd.R_elder' (Kp.kpR HO_15.out) (Kd.R_base ho0) hb); have n6_ := Kp.a (Kd.R_elder' (Kp.kpR HO292.out) (Kd.R_base ho0) hb); have n7_ := Kp.a (Kd.R_lower (Kd.R_new' (Kd.R_new' (Kd.R_new' (Kd.R_new' (Kd.R_new' (Kd.R_new' (Kd.R_new' ho0 (Kd.R_lt (Kp.kpR HO_9.out))) (Kd.R_lt (Kp.kpR HO_10.out))) (Kd.R_lt (Kp.kpR HO_12.out))) (Kd.R_lt (Kp.kpR HO_13.out))) (Kd.R_lt (Kp.kpR HO_14.out))) (Kd.R_lt (Kp.kpR HO_15.out))) (Kd.R_lt (Kp.kpR HO292.out))) (below_size (Kp.kpL HB.out))); have n8_ := Kp.a (below_step (Kp.kpL HB.out) hb); clear HO_9; clear HO_10; clear HO_12; clear HO_13; clear HO_14; clear HO_15; clear HO292; clear HB; have HO_9 := n0_; have HO_10 := n1_; have HO_12 := n2_; have HO_13 := n3_; have HO_14 := n4_; have HO_15 := n5_; have HO292 := n6_; have HO296 := n7_; have HB := n8_; clear n0_ n1_ n2_ n3_ n4_ n5_ n6_ n7_ n8_; (try clear hb); (try clear hb2); (try clear hk); (try clear hi); (try clear ho0); obtain ⟨Ao125, co125, eo125⟩ := Kd.R_slice HO296.out; subst eo125) | ((with_reducible refine gate_callee (f := 10) rfl ?_); refine goesL_ (some 76) rfl rfl Try.func10 (by kernel_rfl) rfl #[.slice Ao22 t278.length co22, .slice Ao125 t294.length co125] rfl (by (try simp only [List.map_toArray, List.map_cons, List.map_nil]); first | done | rfl | (simp only [List.length_drop, List.length_take]; rfl)) ?_; (with_reducible refine (laws_eqIntS.calls kj12 _ _ t278 _ _ t294 false _ ?side1 ?side2 ?side3 ?side4 A43.out).mono ?_); (case side1 => repeat (first | exact (Kd.R_reads' HO_13.out).2.2 | (with_reducible refine Kd.C_alloc ?_ _) | (with_reducible refine Kd.C_drewN ?_ _) | (with_reducible refine Kd.C_drew ?_))); (case side2 => exact (Kd.R_reads' HO_13.out).2.1); (case side3 => repeat (first | exact (Kd.R_reads' HO296.out).2.2 | (with_reducible refine Kd.C_alloc ?_ _) | (with_reducible refine Kd.C_drewN ?_ _) | (with_reducible refine Kd.C_drew ?_))); (case side4 => exact (Kd.R_reads' HO296.out).2.1); rintro e w' ⟨rfl, ⟨nd, rfl⟩⟩; refine ⟨_, rfl, ?_⟩))
   go_ret
   exact ⟨by first | rfl | (simp [errW_none, errW_some] <;> rfl) | (simp [*, errW_none, errW_some] <;> rfl), Kp.kpL HB.out⟩
  subst c44
  have H1 : ((laws_markIntS.f kj12 t275 1).bind fun bt298 => ((laws_markIntS.f kj12 t278 bt298.1).bind fun bt300 => (if bt300.1 < 0 then (laws_FnExactBlocked.j1 kj12 l0 l1 a2 a3 t268 t269 t270 t281 t282 true) else ((laws_eqIntS.f kj12 t281 t268).bind fun t302 => (if t302 = true then ((laws_eqIntS.f kj12 t282 t269).bind fun t303 => (if t303 = true then (laws_FnExactBlocked.j1 kj12 l0 l1 a2 a3 t268 t269 t270 t281 t282 (t283 != t270)) else (laws_FnExactBlocked.j1 kj12 l0 l1 a2 a3 t268 t269 t270 t281 t282 true))) else (laws_FnExactBlocked.j1 kj12 l0 l1 a2 a3 t268 t269 t270 t281 t282 true)))))) = some r := by rw [if_pos rfl] at H; exact H
  clear H
  have H := H1
  clear H1
  replace H := Option.bind_eq_some_iff.mp H
  obtain ⟨⟨t298, t299⟩, A450, H⟩ := H
  replace H : ((laws_markIntS.f kj12 t278 t298).bind fun bt300 => (if bt300.1 < 0 then (laws_FnExactBlocked.j1 kj12 l0 l1 a2 a3 t268 t269 t270 t281 t282 true) else ((laws_eqIntS.f kj12 t281 t268).bind fun t302 => (if t302 = true then ((laws_eqIntS.f kj12 t282 t269).bind fun t303 => (if t303 = true then (laws_FnExactBlocked.j1 kj12 l0 l1 a2 a3 t268 t269 t270 t281 t282 (t283 != t270)) else (laws_FnExactBlocked.j1 kj12 l0 l1 a2 a3 t268 t269 t270 t281 t282 true))) else (laws_FnExactBlocked.j1 kj12 l0 l1 a2 a3 t268 t269 t270 t281 t282 true))))) = some r := H
  have A45 := Kp.a A450
  clear A450
  replace H := Option.bind_eq_some_iff.mp H
  obtain ⟨⟨t300, t301⟩, A460, H⟩ := H
  replace H : (if t300 < 0 then (laws_FnExactBlocked.j1 kj12 l0 l1 a2 a3 t268 t269 t270 t281 t282 true) else ((laws_eqIntS.f kj12 t281 t268).bind fun t302 => (if t302 = true then ((laws_eqIntS.f kj12 t282 t269).bind fun t303 => (if t303 = true then (laws_FnExactBlocked.j1 kj12 l0 l1 a2 a3 t268 t269 t270 t281 t282 (t283 != t270)) else (laws_FnExactBlocked.j1 kj12 l0 l1 a2 a3 t268 t269 t270 t281 t282 true))) else (laws_FnExactBlocked.j1 kj12 l0 l1 a2 a3 t268 t269 t270 t281 t282 true)))) = some r := H
  have A46 := Kp.a A460
  clear A460
  have HC47 := Kp.a H
  clear H
  go_upto_region 18 with (first | ((with_reducible refine gate_callee (f := 7) rfl ?_); refine goesL_ (some 70) rfl rfl Try.func7 (by kernel_rfl) rfl #[.slice A0 l0.length c0] rfl (by (try simp only [List.map_toArray, List.map_cons, List.map_nil]); first | done | rfl | (simp only [List.length_drop, List.length_take]; rfl)) ?_; (with_reducible refine (laws_toIntS.calls kj12 _ _ l0 t290 _ ?side1 ?side2 A39.out).mono ?_); (case side1 => repeat (first | exact (Kd.C_below HR0.out HB.out) | (with_reducible refine Kd.C_alloc ?_ _) | (with_reducible refine Kd.C_drewN ?_ _) | (with_reducible refine Kd.C_drew ?_))); (case side2 => exact HC0.out); rintro e w48 ⟨v291, rfl, ho0, hb⟩; refine ⟨_, rfl, ?_⟩; have n0_ := Kp.a (Kd.R_elder' (Kp.kpR HO_9.out) (Kd.R_base ho0) hb); have n1_ := Kp.a (Kd.R_elder' (Kp.kpR HO_10.out) (Kd.R_base ho0) hb); have n2_ := Kp.a (Kd.R_elder' (Kp.kpR HO_12.out) (Kd.R_base ho0) hb); have n3_ := Kp.a (Kd.R_elder' (Kp.kpR HO_13.out) (Kd.R_base ho0) hb); have n4_ := Kp.a (Kd.R_elder' (Kp.kpR HO_14.out) (Kd.R_base ho0) hb); have n5_ := Kp.a (Kd.R_elder' (Kp.kpR HO_15.out) (Kd.R_base ho0) hb); have n6_ := Kp.a (Kd.R_lower (Kd.R_new' (Kd.R_new' (Kd.R_new' (Kd.R_new' (Kd.R_new' (Kd.R_new' ho0 (Kd.R_lt (Kp.kpR HO_9.out))) (Kd.R_lt (Kp.kpR HO_10.out))) (Kd.R_lt (Kp.kpR HO_12.out))) (Kd.R_lt (Kp.kpR HO_13.out))) (Kd.R_lt (Kp.kpR HO_14.out))) (Kd.R_lt (Kp.kpR HO_15.out))) (below_size (Kp.kpL HB.out))); have n7_ := Kp.a (below_step (Kp.kpL HB.out) hb); clear HO_9; clear HO_10; clear HO_12; clear HO_13; clear HO_14; clear HO_15; clear HB; have HO_9 := n0_; have HO_10 := n1_; have HO_12 := n2_; have HO_13 := n3_; have HO_14 := n4_; have HO_15 := n5_; have HO292 := n6_; have HB := n7_; clear n0_ n1_ n2_ n3_ n4_ n5_ n6_ n7_; (try clear hb); (try clear hb2); (try clear hk); (try clear hi); (try clear ho0); obtain ⟨Ao49, co49, eo49⟩ := Kd.R_slice HO292.out; subst eo49) | ((with_reducible refine gate_callee (f := 10) rfl ?_); refine goesL_ (some 71) rfl rfl Try.func10 (by kernel_rfl) rfl #[.slice Ao21 t275.length co21, .slice Ao49 t290.length co49] rfl (by (try simp only [List.map_toArray, List.map_cons, List.map_nil]); first | done | rfl | (simp only [List.length_drop, List.length_take]; rfl)) ?_; (with_reducible refine (laws_eqIntS.calls kj12 _ _ t275 _ _ t290 true _ ?side1 ?side2 ?side3 ?side4 A40.out).mono ?_); (case side1 => repeat (first | exact (Kd.R_reads' HO_12.out).2.2 | (with_reducible refine Kd.C_alloc ?_ _) | (with_reducible refine Kd.C_drewN ?_ _) | (with_reducible refine Kd.C_drew ?_))); (case side2 => exact (Kd.R_reads' HO_12.out).2.1); (case side3 => repeat (first | exact (Kd.R_reads' HO292.out).2.2 | (with_reducible refine Kd.C_alloc ?_ _) | (with_reducible refine Kd.C_drewN ?_ _) | (with_reducible refine Kd.C_drew ?_))); (case side4 => exact (Kd.R_reads' HO292.out).2.1); rintro e w' ⟨rfl, ⟨nd, rfl⟩⟩; refine ⟨_, rfl, ?_⟩) | ((with_reducible refine gate_callee (f := 7) rfl ?_); refine goesL_ (some 75) rfl rfl Try.func7 (by kernel_rfl) rfl #[.slice A1 l1.length c1] rfl (by (try simp only [List.map_toArray, List.map_cons, List.map_nil]); first | done | rfl | (simp only [List.length_drop, List.length_take]; rfl)) ?_; (with_reducible refine (laws_toIntS.calls kj12 _ _ l1 t294 _ ?side1 ?side2 A42.out).mono ?_); (case side1 => repeat (first | exact (Kd.C_below HR1.out (Kp.kpL HB.out)) | (with_reducible refine Kd.C_alloc ?_ _) | (with_reducible refine Kd.C_drewN ?_ _) | (with_reducible refine Kd.C_drew ?_))); (case side2 => exact HC1.out); rintro e w50 ⟨v295, rfl, ho0, hb⟩; refine ⟨_, rfl, ?_⟩; have n0_ := Kp.a (Kd.R_elder' (Kp.kpR HO_9.out) (Kd.R_base ho0) hb); have n1_ := Kp.a (Kd.R_elder' (Kp.kpR HO_10.out) (Kd.R_base ho0) hb); have n2_ := Kp.a (Kd.R_elder' (Kp.kpR HO_12.out) (Kd.R_base ho0) hb); have n3_ := Kp.a (Kd.R_elder' (Kp.kpR HO_13.out) (Kd.R_base ho0) hb); have n4_ := Kp.a (Kd.R_elder' (Kp.kpR HO_14.out) (Kd.R_base ho0) hb); have n5_ := Kp.a (Kd.R_elder' (Kp.kpR HO_15.out) (Kd.R_base ho0) hb); have n6_ := Kp.a (Kd.R_elder' (Kp.kpR HO292.out) (Kd.R_base ho0) hb); have n7_ := Kp.a (Kd.R_lower (Kd.R_new' (Kd.R_new' (Kd.R_new' (Kd.R_new' (Kd.R_new' (Kd.R_new' (Kd.R_new' ho0 (Kd.R_lt (Kp.kpR HO_9.out))) (Kd.R_lt (Kp.kpR HO_10.out))) (Kd.R_lt (Kp.kpR HO_12.out))) (Kd.R_lt (Kp.kpR HO_13.out))) (Kd.R_lt (Kp.kpR HO_14.out))) (Kd.R_lt (Kp.kpR HO_15.out))) (Kd.R_lt (Kp.kpR HO292.out))) (below_size (Kp.kpL HB.out))); have n8_ := Kp.a (below_step (Kp.kpL HB.out) hb); clear HO_9; clear HO_10; clear HO_12; clear HO_13; clear HO_14; clear HO_15; clear HO292; clear HB; have HO_9 := n0_; have HO_10 := n1_; have HO_12 := n2_; have HO_13 := n3_; have HO_14 := n4_; have HO_15 := n5_; have HO292 := n6_; have HO296 := n7_; have HB := n8_; clear n0_ n1_ n2_ n3_ n4_ n5_ n6_ n7_ n8_; (try clear hb); (try clear hb2); (try clear hk); (try clear hi); (try clear ho0); obtain ⟨Ao51, co51, eo51⟩ := Kd.R_slice HO296.out; subst eo51) | ((with_reducible refine gate_callee (f := 10) rfl ?_); refine goesL_ (some 76) rfl rfl Try.func10 (by kernel_rfl) rfl #[.slice Ao22 t278.length co22, .slice Ao51 t294.length co51] rfl (by (try simp only [List.map_toArray, List.map_cons, List.map_nil]); first | done | rfl | (simp only [List.length_drop, List.length_take]; rfl)) ?_; (with_reducible refine (laws_eqIntS.calls kj12 _ _ t278 _ _ t294 true _ ?side1 ?side2 ?side3 ?side4 A43.out).mono ?_); (case side1 => repeat (first | exact (Kd.R_reads' HO_13.out).2.2 | (with_reducible refine Kd.C_alloc ?_ _) | (with_reducible refine Kd.C_drewN ?_ _) | (with_reducible refine Kd.C_drew ?_))); (case side2 => exact (Kd.R_reads' HO_13.out).2.1); (case side3 => repeat (first | exact (Kd.R_reads' HO296.out).2.2 | (with_reducible refine Kd.C_alloc ?_ _) | (with_reducible refine Kd.C_drewN ?_ _) | (with_reducible refine Kd.C_drew ?_))); (case side4 => exact (Kd.R_reads' HO296.out).2.1); rintro e w' ⟨rfl, ⟨nd, rfl⟩⟩; refine ⟨_, rfl, ?_⟩) | ((with_reducible refine gate_callee (f := 11) rfl ?_); refine goesL_ (some 80) rfl rfl Try.func11 (by kernel_rfl) rfl #[.slice Ao21 t275.length co21, .int .i64 1] rfl (by (try simp only [List.map_toArray, List.map_cons, List.map_nil]); first | done | rfl | (simp only [List.length_drop, List.length_take]; rfl)) ?_; (with_reducible refine (laws_markIntS.calls kj12 (fun k_ => some k_ = (.slice Ao21 t275.length co21 : Value).ownBlock) (.slice Ao21 t275.length co21) t275 1 t298 t299 w _ ?side1 ?side2 A45.out).mono ?_); (case side1 => repeat (first | (with_reducible first | exact HB.out | apply below_alloc | apply pw_below_drewN | apply below_drew1) | exact HB.out)); (case side2 => exact Kd.R_tight rfl HO_12.out); rintro e w52 ⟨rfl, hy0, hb, hkp⟩; refine ⟨_, rfl, ?_⟩; have n0_ := Kp.a (Kd.R_mono (ok' := fun k_ => some k_ ≠ (v273 : Value).ownBlock ∧ some k_ ≠ (.slice Ao21 t275.length co21 : Value).ownBlock ∧ some k_ ≠ (.slice Ao22 t278.length co22 : Value).ownBlock ∧ some k_ ≠ (v284 : Value).ownBlock ∧ some k_ ≠ (v286 : Value).ownBlock ∧ some k_ ≠ (.slice Ao49 t290.length co49 : Value).ownBlock ∧ some k_ ≠ (.slice Ao51 t294.length co51 : Value).ownBlock) (Kd.R_keptB (HO_9.out) hkp (fun k_ hk_ hs_ => (hk_.1.1.2.1) hs_)) (fun k_ hk_ => ⟨hk_.1.1.1.1, hk_.1.1.1.2.1, hk_.1.1.1.2.2.1, hk_.1.1.1.2.2.2.1, hk_.1.1.1.2.2.2.2, hk_.1.1.2, hk_.1.2⟩)); have n1_ := Kp.a (Kd.R_mono (ok' := fun k_ => some k_ ≠ (v271 : Value).ownBlock ∧ some k_ ≠ (.slice Ao21 t275.length co21 : Value).ownBlock ∧ some k_ ≠ (.slice Ao22 t278.length co22 : Value).ownBlock ∧ some k_ ≠ (v284 : Value).ownBlock ∧ some k_ ≠ (v286 : Value).ownBlock ∧ some k_ ≠ (.slice Ao49 t290.length co49 : Value).ownBlock ∧ some k_ ≠ (.slice Ao51 t294.length co51 : Value).ownBlock) (Kd.R_keptB (HO_10.out) hkp (fun k_ hk_ hs_ => (hk_.1.1.2.1) hs_)) (fun k_ hk_ => ⟨hk_.1.1.1.1, hk_.1.1.1.2.1, hk_.1.1.1.2.2.1, hk_.1.1.1.2.2.2.1, hk_.1.1.1.2.2.2.2, hk_.1.1.2, hk_.1.2⟩)); have n2_ := Kp.a (Kd.R_reok rfl hy0 (fun k_ e_ => HO_12.out.1 k_ e_)); have n3_ := Kp.a (Kd.R_mono (ok' := fun k_ => some k_ ≠ (v271 : Value).ownBlock ∧ some k_ ≠ (v273 : Value).ownBlock ∧ some k_ ≠ (.slice Ao21 t275.length co21 : Value).ownBlock ∧ some k_ ≠ (v284 : Value).ownBlock ∧ some k_ ≠ (v286 : Value).ownBlock ∧ some k_ ≠ (.slice Ao49 t290.length co49 : Value).ownBlock ∧ some k_ ≠ (.slice Ao51 t294.length co51 : Value).ownBlock) (Kd.R_keptB (HO_13.out) hkp (fun k_ hk_ hs_ => (hk_.1.1.2.2.1) hs_)) (fun k_ hk_ => ⟨hk_.1.1.1.1, hk_.1.1.1.2.1, hk_.1.1.1.2.2.1, hk_.1.1.1.2.2.2.1, hk_.1.1.1.2.2.2.2, hk_.1.1.2, hk_.1.2⟩)); have n4_ := Kp.a (Kd.R_mono (ok' := fun k_ => some k_ ≠ (v271 : Value).ownBlock ∧ some k_ ≠ (v273 : Value).ownBlock ∧ some k_ ≠ (.slice Ao21 t275.length co21 : Value).ownBlock ∧ some k_ ≠ (.slice Ao22 t278.length co22 : Value).ownBlock ∧ some k_ ≠ (v286 : Value).ownBlock ∧ some k_ ≠ (.slice Ao49 t290.length co49 : Value).ownBlock ∧ some k_ ≠ (.slice Ao51 t294.length co51 : Value).ownBlock) (Kd.R_keptB (HO_14.out) hkp (fun k_ hk_ hs_ => (hk_.1.1.2.2.1) hs_)) (fun k_ hk_ => ⟨hk_.1.1.1.1, hk_.1.1.1.2.1, hk_.1.1.1.2.2.1, hk_.1.1.1.2.2.2.1, hk_.1.1.1.2.2.2.2, hk_.1.1.2, hk_.1.2⟩)); have n5_ := Kp.a (Kd.R_mono (ok' := fun k_ => some k_ ≠ (v271 : Value).ownBlock ∧ some k_ ≠ (v273 : Value).ownBlock ∧ some k_ ≠ (.slice Ao21 t275.length co21 : Value).ownBlock ∧ some k_ ≠ (.slice Ao22 t278.length co22 : Value).ownBlock ∧ some k_ ≠ (v284 : Value).ownBlock ∧ some k_ ≠ (.slice Ao49 t290.length co49 : Value).ownBlock ∧ some k_ ≠ (.slice Ao51 t294.length co51 : Value).ownBlock) (Kd.R_keptB (HO_15.out) hkp (fun k_ hk_ hs_ => (hk_.1.1.2.2.1) hs_)) (fun k_ hk_ => ⟨hk_.1.1.1.1, hk_.1.1.1.2.1, hk_.1.1.1.2.2.1, hk_.1.1.1.2.2.2.1, hk_.1.1.1.2.2.2.2, hk_.1.1.2, hk_.1.2⟩)); have n6_ := Kp.a (Kd.R_mono (ok' := fun k_ => some k_ ≠ (v271 : Value).ownBlock ∧ some k_ ≠ (v273 : Value).ownBlock ∧ some k_ ≠ (.slice Ao21 t275.length co21 : Value).ownBlock ∧ some k_ ≠ (.slice Ao22 t278.length co22 : Value).ownBlock ∧ some k_ ≠ (v284 : Value).ownBlock ∧ some k_ ≠ (v286 : Value).ownBlock ∧ some k_ ≠ (.slice Ao51 t294.length co51 : Value).ownBlock) (Kd.R_keptB (HO292.out) hkp (fun k_ hk_ hs_ => (hk_.1.1.1.1.2) hs_)) (fun k_ hk_ => ⟨hk_.1.1.1.1.1.1.1.2, hk_.1.1.1.1.1.1.2, hk_.1.1.1.1.1.2, hk_.1.1.1.1.2, hk_.1.1.1.2, hk_.1.1.2, hk_.1.2⟩)); have n7_ := Kp.a (Kd.R_mono (ok' := fun k_ => some k_ ≠ (v271 : Value).ownBlock ∧ some k_ ≠ (v273 : Value).ownBlock ∧ some k_ ≠ (.slice Ao21 t275.length co21 : Value).ownBlock ∧ some k_ ≠ (.slice Ao22 t278.length co22 : Value).ownBlock ∧ some k_ ≠ (v284 : Value).ownBlock ∧ some k_ ≠ (v286 : Value).ownBlock ∧ some k_ ≠ (.slice Ao49 t290.length co49 : Value).ownBlock) (Kd.R_keptB (HO296.out) hkp (fun k_ hk_ hs_ => (hk_.1.1.1.1.2) hs_)) (fun k_ hk_ => ⟨hk_.1.1.1.1.1.1.1.2, hk_.1.1.1.1.1.1.2, hk_.1.1.1.1.1.2, hk_.1.1.1.1.2, hk_.1.1.1.2, hk_.1.1.2, hk_.1.2⟩)); have n8_ := Kp.a (hb); clear HO_9; clear HO_10; clear HO_12; clear HO_13; clear HO_14; clear HO_15; clear HO292; clear HO296; clear HB; have HO_9 := n0_; have HO_10 := n1_; have HO_12 := n2_; have HO_13 := n3_; have HO_14 := n4_; have HO_15 := n5_; have HO292 := n6_; have HO296 := n7_; have HB := n8_; clear n0_ n1_ n2_ n3_ n4_ n5_ n6_ n7_ n8_; (try clear hb); (try clear hkp); (try clear hy0)) | ((with_reducible refine gate_callee (f := 11) rfl ?_); refine goesL_ (some 83) rfl rfl Try.func11 (by kernel_rfl) rfl #[.slice Ao22 t278.length co22, .int .i64 t298] rfl (by (try simp only [List.map_toArray, List.map_cons, List.map_nil]); first | done | rfl | (simp only [List.length_drop, List.length_take]; rfl)) ?_; (with_reducible refine (laws_markIntS.calls kj12 (fun k_ => some k_ = (.slice Ao22 t278.length co22 : Value).ownBlock) (.slice Ao22 t278.length co22) t278 t298 t300 t301 w _ ?side1 ?side2 A46.out).mono ?_); (case side1 => repeat (first | (with_reducible first | exact HB.out | apply below_alloc | apply pw_below_drewN | apply below_drew1) | exact HB.out)); (case side2 => exact Kd.R_tight rfl HO_13.out); rintro e w53 ⟨rfl, hy0, hb, hkp⟩; refine ⟨_, rfl, ?_⟩; have n0_ := Kp.a (Kd.R_mono (ok' := fun k_ => some k_ ≠ (v273 : Value).ownBlock ∧ some k_ ≠ (.slice Ao21 t275.length co21 : Value).ownBlock ∧ some k_ ≠ (.slice Ao22 t278.length co22 : Value).ownBlock ∧ some k_ ≠ (v284 : Value).ownBlock ∧ some k_ ≠ (v286 : Value).ownBlock ∧ some k_ ≠ (.slice Ao49 t290.length co49 : Value).ownBlock ∧ some k_ ≠ (.slice Ao51 t294.length co51 : Value).ownBlock) (Kd.R_keptB (HO_9.out) hkp (fun k_ hk_ hs_ => (hk_.2.2.1) hs_)) (fun k_ hk_ => ⟨hk_.1.1, hk_.1.2.1, hk_.1.2.2.1, hk_.1.2.2.2.1, hk_.1.2.2.2.2.1, hk_.1.2.2.2.2.2.1, hk_.1.2.2.2.2.2.2⟩)); have n1_ := Kp.a (Kd.R_mono (ok' := fun k_ => some k_ ≠ (v271 : Value).ownBlock ∧ some k_ ≠ (.slice Ao21 t275.length co21 : Value).ownBlock ∧ some k_ ≠ (.slice Ao22 t278.length co22 : Value).ownBlock ∧ some k_ ≠ (v284 : Value).ownBlock ∧ some k_ ≠ (v286 : Value).ownBlock ∧ some k_ ≠ (.slice Ao49 t290.length co49 : Value).ownBlock ∧ some k_ ≠ (.slice Ao51 t294.length co51 : Value).ownBlock) (Kd.R_keptB (HO_10.out) hkp (fun k_ hk_ hs_ => (hk_.2.2.1) hs_)) (fun k_ hk_ => ⟨hk_.1.1, hk_.1.2.1, hk_.1.2.2.1, hk_.1.2.2.2.1, hk_.1.2.2.2.2.1, hk_.1.2.2.2.2.2.1, hk_.1.2.2.2.2.2.2⟩)); have n2_ := Kp.a (Kd.R_mono (ok' := fun k_ => some k_ ≠ (v271 : Value).ownBlock ∧ some k_ ≠ (v273 : Value).ownBlock ∧ some k_ ≠ (.slice Ao22 t278.length co22 : Value).ownBlock ∧ some k_ ≠ (v284 : Value).ownBlock ∧ some k_ ≠ (v286 : Value).ownBlock ∧ some k_ ≠ (.slice Ao49 t290.length co49 : Value).ownBlock ∧ some k_ ≠ (.slice Ao51 t294.length co51 : Value).ownBlock) (Kd.R_keptB (HO_12.out) hkp (fun k_ hk_ hs_ => (hk_.1.1.2.2.1) hs_)) (fun k_ hk_ => ⟨hk_.1.1.1.1, hk_.1.1.1.2.1, hk_.1.1.1.2.2.1, hk_.1.1.1.2.2.2.1, hk_.1.1.1.2.2.2.2, hk_.1.1.2, hk_.1.2⟩)); have n3_ := Kp.a (Kd.R_reok rfl hy0 (fun k_ e_ => HO_13.out.1 k_ e_)); have n4_ := Kp.a (Kd.R_mono (ok' := fun k_ => some k_ ≠ (v271 : Value).ownBlock ∧ some k_ ≠ (v273 : Value).ownBlock ∧ some k_ ≠ (.slice Ao21 t275.length co21 : Value).ownBlock ∧ some k_ ≠ (.slice Ao22 t278.length co22 : Value).ownBlock ∧ some k_ ≠ (v286 : Value).ownBlock ∧ some k_ ≠ (.slice Ao49 t290.length co49 : Value).ownBlock ∧ some k_ ≠ (.slice Ao51 t294.length co51 : Value).ownBlock) (Kd.R_keptB (HO_14.out) hkp (fun k_ hk_ hs_ => (hk_.2.2.2.1) hs_)) (fun k_ hk_ => ⟨hk_.1.1, hk_.1.2.1, hk_.1.2.2.1, hk_.1.2.2.2.1, hk_.1.2.2.2.2.1, hk_.1.2.2.2.2.2.1, hk_.1.2.2.2.2.2.2⟩)); have n5_ := Kp.a (Kd.R_mono (ok' := fun k_ => some k_ ≠ (v271 : Value).ownBlock ∧ some k_ ≠ (v273 : Value).ownBlock ∧ some k_ ≠ (.slice Ao21 t275.length co21 : Value).ownBlock ∧ some k_ ≠ (.slice Ao22 t278.length co22 : Value).ownBlock ∧ some k_ ≠ (v284 : Value).ownBlock ∧ some k_ ≠ (.slice Ao49 t290.length co49 : Value).ownBlock ∧ some k_ ≠ (.slice Ao51 t294.length co51 : Value).ownBlock) (Kd.R_keptB (HO_15.out) hkp (fun k_ hk_ hs_ => (hk_.2.2.2.1) hs_)) (fun k_ hk_ => ⟨hk_.1.1, hk_.1.2.1, hk_.1.2.2.1, hk_.1.2.2.2.1, hk_.1.2.2.2.2.1, hk_.1.2.2.2.2.2.1, hk_.1.2.2.2.2.2.2⟩)); have n6_ := Kp.a (Kd.R_mono (ok' := fun k_ => some k_ ≠ (v271 : Value).ownBlock ∧ some k_ ≠ (v273 : Value).ownBlock ∧ some k_ ≠ (.slice Ao21 t275.length co21 : Value).ownBlock ∧ some k_ ≠ (.slice Ao22 t278.length co22 : Value).ownBlock ∧ some k_ ≠ (v284 : Value).ownBlock ∧ some k_ ≠ (v286 : Value).ownBlock ∧ some k_ ≠ (.slice Ao51 t294.length co51 : Value).ownBlock) (Kd.R_keptB (HO292.out) hkp (fun k_ hk_ hs_ => (hk_.2.2.2.1) hs_)) (fun k_ hk_ => ⟨hk_.1.1, hk_.1.2.1, hk_.1.2.2.1, hk_.1.2.2.2.1, hk_.1.2.2.2.2.1, hk_.1.2.2.2.2.2.1, hk_.1.2.2.2.2.2.2⟩)); have n7_ := Kp.a (Kd.R_mono (ok' := fun k_ => some k_ ≠ (v271 : Value).ownBlock ∧ some k_ ≠ (v273 : Value).ownBlock ∧ some k_ ≠ (.slice Ao21 t275.length co21 : Value).ownBlock ∧ some k_ ≠ (.slice Ao22 t278.length co22 : Value).ownBlock ∧ some k_ ≠ (v284 : Value).ownBlock ∧ some k_ ≠ (v286 : Value).ownBlock ∧ some k_ ≠ (.slice Ao49 t290.length co49 : Value).ownBlock) (Kd.R_keptB (HO296.out) hkp (fun k_ hk_ hs_ => (hk_.2.2.2.1) hs_)) (fun k_ hk_ => ⟨hk_.1.1, hk_.1.2.1, hk_.1.2.2.1, hk_.1.2.2.2.1, hk_.1.2.2.2.2.1, hk_.1.2.2.2.2.2.1, hk_.1.2.2.2.2.2.2⟩)); have n8_ := Kp.a (hb); clear HO_9; clear HO_10; clear HO_12; clear HO_13; clear HO_14; clear HO_15; clear HO292; clear HO296; clear HB; have HO_9 := n0_; have HO_10 := n1_; have HO_12 := n2_; have HO_13 := n3_; have HO_14 := n4_; have HO_15 := n5_; have HO292 := n6_; have HO296 := n7_; have HB := n8_; clear n0_ n1_ n2_ n3_ n4_ n5_ n6_ n7_ n8_; (try clear hb); (try clear hkp); (try clear hy0)))
  (try simp only [Act.put, Kp.s0, Kp.s1, Kp.s2])
  go_cut [102] (fun v102 wc => ∃ (kq : Nat) (x102_46 : Bool), v102 = .bool x102_46 ∧ Aside0 (laws_FnExactBlocked.j1 kq l0 l1 a2 a3 t268 t269 t270 t281 t282 x102_46 = some r) ∧ Aside0 (kq ≤ kj12) ∧ Aside0 (Kd.R (Kd.int .i64) 3 wc w.heap.size (fun k_ => some k_ ≠ (v273 : Value).ownBlock ∧ some k_ ≠ (v284 : Value).ownBlock ∧ some k_ ≠ (v286 : Value).ownBlock) v271 t268) ∧ Aside0 (Kd.R (Kd.int .i64) 3 wc w.heap.size (fun k_ => some k_ ≠ (v271 : Value).ownBlock ∧ some k_ ≠ (v284 : Value).ownBlock ∧ some k_ ≠ (v286 : Value).ownBlock) v273 t269) ∧ Aside0 (Kd.R (Kd.int .i64) 3 wc w.heap.size (fun k_ => some k_ ≠ (v271 : Value).ownBlock ∧ some k_ ≠ (v273 : Value).ownBlock ∧ some k_ ≠ (v286 : Value).ownBlock) v284 t281) ∧ Aside0 (Kd.R (Kd.int .i64) 3 wc w.heap.size (fun k_ => some k_ ≠ (v271 : Value).ownBlock ∧ some k_ ≠ (v273 : Value).ownBlock ∧ some k_ ≠ (v284 : Value).ownBlock) v286 t282) ∧ Aside0 (Below w.heap.size w wc))
  case first =>
   have H := HC47.out
   clear HC47
   by_cases c54 : t300 < 0
   ·rw [if_pos c54] at H
    have c54b0 : decide (t300 < 0) = true := decide_eq_true c54
    clear c54
    (first | rw [c54b0] | (simp only [i64_w, i32_w]; rw [c54b0]) | skip)
    have H' := Kp.a H
    clear H
    go_wp2
    go_meet
    case rel => exact ⟨_, (true), (by first | rfl | (simp; done) | (simp [*]; done)), H', ⟨by have := HJ12.out; first | omega | exact Nat.le_refl _⟩, ⟨Kp.kpR (Kd.R_mono HO_9.out (fun _ hk => ⟨hk.1, ⟨hk.2.2.2.1, hk.2.2.2.2.1⟩⟩))⟩, ⟨Kp.kpR (Kd.R_mono HO_10.out (fun _ hk => ⟨hk.1, ⟨hk.2.2.2.1, hk.2.2.2.2.1⟩⟩))⟩, ⟨Kp.kpR (Kd.R_mono HO_14.out (fun _ hk => ⟨hk.1, ⟨hk.2.1, hk.2.2.2.2.1⟩⟩))⟩, ⟨Kp.kpR (Kd.R_mono HO_15.out (fun _ hk => ⟨hk.1, ⟨hk.2.1, hk.2.2.2.2.1⟩⟩))⟩, ⟨Kp.kpL HB.out⟩⟩
   rw [if_neg c54] at H
   have c54b0 : decide (t300 < 0) = false := decide_eq_false c54
   clear c54
   (first | rw [c54b0] | (simp only [i64_w, i32_w]; rw [c54b0]) | skip)
   replace H := Option.bind_eq_some_iff.mp H
   obtain ⟨t302, A550, H⟩ := H
   replace H : (if t302 = true then ((laws_eqIntS.f kj12 t282 t269).bind fun t303 => (if t303 = true then (laws_FnExactBlocked.j1 kj12 l0 l1 a2 a3 t268 t269 t270 t281 t282 (t283 != t270)) else (laws_FnExactBlocked.j1 kj12 l0 l1 a2 a3 t268 t269 t270 t281 t282 true))) else (laws_FnExactBlocked.j1 kj12 l0 l1 a2 a3 t268 t269 t270 t281 t282 true)) = some r := H
   have A55 := Kp.a A550
   clear A550
   by_cases c56 : t302 = true
   rotate_left
   ·replace c56 := Bool.eq_false_iff.mpr c56
    subst c56
    have H1 : (laws_FnExactBlocked.j1 kj12 l0 l1 a2 a3 t268 t269 t270 t281 t282 true) = some r := by rw [if_neg (show ¬ (false = true) by decide)] at H; exact H
    clear H
    have H := H1
    clear H1
    have H' := Kp.a H
    clear H
    obtain ⟨Ao67, co67, eo67⟩ := Kd.R_slice HO_14.out
    subst eo67
    obtain ⟨Ao68, co68, eo68⟩ := Kd.R_slice HO_9.out
    subst eo68
    go_wp2_with (first | (go_at_call 10; (with_reducible refine (laws_eqIntS.calls kj12 _ _ t281 _ _ t268 false _ ?side1 ?side2 ?side3 ?side4 A55.out).mono ?_); (case side1 => repeat (first | exact (Kd.R_reads' HO_14.out).2.2 | (with_reducible refine Kd.C_alloc ?_ _) | (with_reducible refine Kd.C_drewN ?_ _) | (with_reducible refine Kd.C_drew ?_))); (case side2 => exact (Kd.R_reads' HO_14.out).2.1); (case side3 => repeat (first | exact (Kd.R_reads' HO_9.out).2.2 | (with_reducible refine Kd.C_alloc ?_ _) | (with_reducible refine Kd.C_drewN ?_ _) | (with_reducible refine Kd.C_drew ?_))); (case side4 => exact (Kd.R_reads' HO_9.out).2.1); rintro e w' ⟨rfl, ⟨nd, rfl⟩⟩))
    go_meet
    case rel => exact ⟨_, (true), (by first | rfl | (simp; done) | (simp [*]; done)), H', ⟨by have := HJ12.out; first | omega | exact Nat.le_refl _⟩, ⟨Kp.kpR (Kd.R_mono HO_9.out (fun _ hk => ⟨hk.1, ⟨hk.2.2.2.1, hk.2.2.2.2.1⟩⟩))⟩, ⟨Kp.kpR (Kd.R_mono HO_10.out (fun _ hk => ⟨hk.1, ⟨hk.2.2.2.1, hk.2.2.2.2.1⟩⟩))⟩, ⟨Kp.kpR (Kd.R_mono HO_14.out (fun _ hk => ⟨hk.1, ⟨hk.2.1, hk.2.2.2.2.1⟩⟩))⟩, ⟨Kp.kpR (Kd.R_mono HO_15.out (fun _ hk => ⟨hk.1, ⟨hk.2.1, hk.2.2.2.2.1⟩⟩))⟩, ⟨Kp.kpL HB.out⟩⟩
   subst c56
   have H1 : ((laws_eqIntS.f kj12 t282 t269).bind fun t303 => (if t303 = true then (laws_FnExactBlocked.j1 kj12 l0 l1 a2 a3 t268 t269 t270 t281 t282 (t283 != t270)) else (laws_FnExactBlocked.j1 kj12 l0 l1 a2 a3 t268 t269 t270 t281 t282 true))) = some r := by rw [if_pos rfl] at H; exact H
   clear H
   have H := H1
   clear H1
   replace H := Option.bind_eq_some_iff.mp H
   obtain ⟨t303, A570, H⟩ := H
   replace H : (if t303 = true then (laws_FnExactBlocked.j1 kj12 l0 l1 a2 a3 t268 t269 t270 t281 t282 (t283 != t270)) else (laws_FnExactBlocked.j1 kj12 l0 l1 a2 a3 t268 t269 t270 t281 t282 true)) = some r := H
   have A57 := Kp.a A570
   clear A570
   by_cases c58 : t303 = true
   ·subst c58
    have H1 : (laws_FnExactBlocked.j1 kj12 l0 l1 a2 a3 t268 t269 t270 t281 t282 (t283 != t270)) = some r := by rw [if_pos rfl] at H; exact H
    clear H
    have H := H1
    clear H1
    have H' := Kp.a H
    clear H
    obtain ⟨Ao59, co59, eo59⟩ := Kd.R_slice HO_14.out
    subst eo59
    obtain ⟨Ao60, co60, eo60⟩ := Kd.R_slice HO_9.out
    subst eo60
    go_wp2_with (first | (go_at_call 10; (with_reducible refine (laws_eqIntS.calls kj12 _ _ t281 _ _ t268 true _ ?side1 ?side2 ?side3 ?side4 A55.out).mono ?_); (case side1 => repeat (first | exact (Kd.R_reads' HO_14.out).2.2 | (with_reducible refine Kd.C_alloc ?_ _) | (with_reducible refine Kd.C_drewN ?_ _) | (with_reducible refine Kd.C_drew ?_))); (case side2 => exact (Kd.R_reads' HO_14.out).2.1); (case side3 => repeat (first | exact (Kd.R_reads' HO_9.out).2.2 | (with_reducible refine Kd.C_alloc ?_ _) | (with_reducible refine Kd.C_drewN ?_ _) | (with_reducible refine Kd.C_drew ?_))); (case side4 => exact (Kd.R_reads' HO_9.out).2.1); rintro e w' ⟨rfl, ⟨nd, rfl⟩⟩; obtain ⟨Ao61, co61, eo61⟩ := Kd.R_slice HO_15.out; subst eo61; obtain ⟨Ao62, co62, eo62⟩ := Kd.R_slice HO_10.out; subst eo62) | (go_at_call 10; (with_reducible refine (laws_eqIntS.calls kj12 _ _ t282 _ _ t269 true _ ?side1 ?side2 ?side3 ?side4 A57.out).mono ?_); (case side1 => repeat (first | exact (Kd.R_reads' HO_15.out).2.2 | (with_reducible refine Kd.C_alloc ?_ _) | (with_reducible refine Kd.C_drewN ?_ _) | (with_reducible refine Kd.C_drew ?_))); (case side2 => exact (Kd.R_reads' HO_15.out).2.1); (case side3 => repeat (first | exact (Kd.R_reads' HO_10.out).2.2 | (with_reducible refine Kd.C_alloc ?_ _) | (with_reducible refine Kd.C_drewN ?_ _) | (with_reducible refine Kd.C_drew ?_))); (case side4 => exact (Kd.R_reads' HO_10.out).2.1); rintro e w' ⟨rfl, ⟨nd, rfl⟩⟩))
    go_meet
    case rel => exact ⟨_, ((t283 != t270)), (by first | rfl | (simp; done) | (simp [*]; done)), H', ⟨by have := HJ12.out; first | omega | exact Nat.le_refl _⟩, ⟨Kp.kpR (Kd.R_mono HO_9.out (fun _ hk => ⟨hk.1, ⟨hk.2.2.2.1, hk.2.2.2.2.1⟩⟩))⟩, ⟨Kp.kpR (Kd.R_mono HO_10.out (fun _ hk => ⟨hk.1, ⟨hk.2.2.2.1, hk.2.2.2.2.1⟩⟩))⟩, ⟨Kp.kpR (Kd.R_mono HO_14.out (fun _ hk => ⟨hk.1, ⟨hk.2.1, hk.2.2.2.2.1⟩⟩))⟩, ⟨Kp.kpR (Kd.R_mono HO_15.out (fun _ hk => ⟨hk.1, ⟨hk.2.1, hk.2.2.2.2.1⟩⟩))⟩, ⟨Kp.kpL HB.out⟩⟩
   replace c58 := Bool.eq_false_iff.mpr c58
   subst c58
   have H1 : (laws_FnExactBlocked.j1 kj12 l0 l1 a2 a3 t268 t269 t270 t281 t282 true) = some r := by rw [if_neg (show ¬ (false = true) by decide)] at H; exact H
   clear H
   have H := H1
   clear H1
   have H' := Kp.a H
   clear H
   obtain ⟨Ao63, co63, eo63⟩ := Kd.R_slice HO_14.out
   subst eo63
   obtain ⟨Ao64, co64, eo64⟩ := Kd.R_slice HO_9.out
   subst eo64
   go_wp2_with (first | (go_at_call 10; (with_reducible refine (laws_eqIntS.calls kj12 _ _ t281 _ _ t268 true _ ?side1 ?side2 ?side3 ?side4 A55.out).mono ?_); (case side1 => repeat (first | exact (Kd.R_reads' HO_14.out).2.2 | (with_reducible refine Kd.C_alloc ?_ _) | (with_reducible refine Kd.C_drewN ?_ _) | (with_reducible refine Kd.C_drew ?_))); (case side2 => exact (Kd.R_reads' HO_14.out).2.1); (case side3 => repeat (first | exact (Kd.R_reads' HO_9.out).2.2 | (with_reducible refine Kd.C_alloc ?_ _) | (with_reducible refine Kd.C_drewN ?_ _) | (with_reducible refine Kd.C_drew ?_))); (case side4 => exact (Kd.R_reads' HO_9.out).2.1); rintro e w' ⟨rfl, ⟨nd, rfl⟩⟩; obtain ⟨Ao65, co65, eo65⟩ := Kd.R_slice HO_15.out; subst eo65; obtain ⟨Ao66, co66, eo66⟩ := Kd.R_slice HO_10.out; subst eo66) | (go_at_call 10; (with_reducible refine (laws_eqIntS.calls kj12 _ _ t282 _ _ t269 false _ ?side1 ?side2 ?side3 ?side4 A57.out).mono ?_); (case side1 => repeat (first | exact (Kd.R_reads' HO_15.out).2.2 | (with_reducible refine Kd.C_alloc ?_ _) | (with_reducible refine Kd.C_drewN ?_ _) | (with_reducible refine Kd.C_drew ?_))); (case side2 => exact (Kd.R_reads' HO_15.out).2.1); (case side3 => repeat (first | exact (Kd.R_reads' HO_10.out).2.2 | (with_reducible refine Kd.C_alloc ?_ _) | (with_reducible refine Kd.C_drewN ?_ _) | (with_reducible refine Kd.C_drew ?_))); (case side4 => exact (Kd.R_reads' HO_10.out).2.1); rintro e w' ⟨rfl, ⟨nd, rfl⟩⟩))
   go_meet
   case rel => exact ⟨_, (true), (by first | rfl | (simp; done) | (simp [*]; done)), H', ⟨by have := HJ12.out; first | omega | exact Nat.le_refl _⟩, ⟨Kp.kpR (Kd.R_mono HO_9.out (fun _ hk => ⟨hk.1, ⟨hk.2.2.2.1, hk.2.2.2.2.1⟩⟩))⟩, ⟨Kp.kpR (Kd.R_mono HO_10.out (fun _ hk => ⟨hk.1, ⟨hk.2.2.2.1, hk.2.2.2.2.1⟩⟩))⟩, ⟨Kp.kpR (Kd.R_mono HO_14.out (fun _ hk => ⟨hk.1, ⟨hk.2.1, hk.2.2.2.2.1⟩⟩))⟩, ⟨Kp.kpR (Kd.R_mono HO_15.out (fun _ hk => ⟨hk.1, ⟨hk.2.1, hk.2.2.2.2.1⟩⟩))⟩, ⟨Kp.kpL HB.out⟩⟩
  clear HC47
  try clear c1
  try clear c2
  try clear p2
  try clear c3
  try clear c4
  try clear c5
  try clear c5b0
  try clear c5b1
  try clear c6
  try clear c6b0
  try clear c6b1
  try clear c7
  try clear c10
  try clear c11
  try clear c15
  try clear c16
  try clear c25
  try clear c27
  try clear c38
  try clear c41
  try clear c44
  try clear c54
  try clear c54b0
  try clear c56
  try clear c58
  try clear p2
  obtain ⟨kq, x102_46, rfl, HA, HJ46, HO_9, HO_10, HO_14, HO_15, HB⟩ := hcut
  cases kq with
  | zero => exact absurd HA.out (by simp [laws_FnExactBlocked.j1])
  | succ kj46 =>
   have H := HA.out
   clear HA
   simp only [laws_FnExactBlocked.j1] at H
   by_cases c69 : x102_46 = true
   ·subst c69
    have H1 : (some false) = some r := by rw [if_pos rfl] at H; exact H
    clear H
    have H := H1
    clear H1
    obtain rfl := Option.some.inj H
    go_wp2
    go_ret
    exact ⟨by first | rfl | (simp [errW_none, errW_some] <;> rfl) | (simp [*, errW_none, errW_some] <;> rfl), Kp.kpL HB.out⟩
   replace c69 := Bool.eq_false_iff.mpr c69
   subst c69
   have H1 : ((laws_markIntS.f kj46 t281 1).bind fun bt304 => ((laws_markIntS.f kj46 t282 bt304.1).bind fun bt306 => ((laws_heldIntS.f kj46 bt304.2 1).bind fun t308 => (if t308 < 0 then (some false) else ((laws_heldIntS.f kj46 bt306.2 t308).bind fun t309 => (if t309 < 0 then (some false) else (if t309 = bt306.1 then ((laws_toIntS.f kj46 l0).bind fun t310 => ((laws_toIntS.f kj46 l1).bind fun t313 => ((impl_Blocked.f kj46 t310 t313 a2 a3).bind fun bt316 => ((laws_eqIntS.f kj46 bt316.1 t268).bind fun t323 => (if t323 = true then ((laws_eqIntS.f kj46 bt316.2.1 t269).bind fun t324 => (if t324 = true then (laws_FnExactBlocked.j2 kj46 bt304.2 bt306.2 bt306.1 (bt316.2.2 != t270)) else (laws_FnExactBlocked.j2 kj46 bt304.2 bt306.2 bt306.1 true))) else (laws_FnExactBlocked.j2 kj46 bt304.2 bt306.2 bt306.1 true)))))) else (some false)))))))) = some r := by rw [if_neg (show ¬ (false = true) by decide)] at H; exact H
   clear H
   have H := H1
   clear H1
   replace H := Option.bind_eq_some_iff.mp H
   obtain ⟨⟨t304, t305⟩, A700, H⟩ := H
   replace H : ((laws_markIntS.f kj46 t282 t304).bind fun bt306 => ((laws_heldIntS.f kj46 t305 1).bind fun t308 => (if t308 < 0 then (some false) else ((laws_heldIntS.f kj46 bt306.2 t308).bind fun t309 => (if t309 < 0 then (some false) else (if t309 = bt306.1 then ((laws_toIntS.f kj46 l0).bind fun t310 => ((laws_toIntS.f kj46 l1).bind fun t313 => ((impl_Blocked.f kj46 t310 t313 a2 a3).bind fun bt316 => ((laws_eqIntS.f kj46 bt316.1 t268).bind fun t323 => (if t323 = true then ((laws_eqIntS.f kj46 bt316.2.1 t269).bind fun t324 => (if t324 = true then (laws_FnExactBlocked.j2 kj46 t305 bt306.2 bt306.1 (bt316.2.2 != t270)) else (laws_FnExactBlocked.j2 kj46 t305 bt306.2 bt306.1 true))) else (laws_FnExactBlocked.j2 kj46 t305 bt306.2 bt306.1 true)))))) else (some false))))))) = some r := H
   have A70 := Kp.a A700
   clear A700
   replace H := Option.bind_eq_some_iff.mp H
   obtain ⟨⟨t306, t307⟩, A710, H⟩ := H
   replace H : ((laws_heldIntS.f kj46 t305 1).bind fun t308 => (if t308 < 0 then (some false) else ((laws_heldIntS.f kj46 t307 t308).bind fun t309 => (if t309 < 0 then (some false) else (if t309 = t306 then ((laws_toIntS.f kj46 l0).bind fun t310 => ((laws_toIntS.f kj46 l1).bind fun t313 => ((impl_Blocked.f kj46 t310 t313 a2 a3).bind fun bt316 => ((laws_eqIntS.f kj46 bt316.1 t268).bind fun t323 => (if t323 = true then ((laws_eqIntS.f kj46 bt316.2.1 t269).bind fun t324 => (if t324 = true then (laws_FnExactBlocked.j2 kj46 t305 t307 t306 (bt316.2.2 != t270)) else (laws_FnExactBlocked.j2 kj46 t305 t307 t306 true))) else (laws_FnExactBlocked.j2 kj46 t305 t307 t306 true)))))) else (some false)))))) = some r := H
   have A71 := Kp.a A710
   clear A710
   replace H := Option.bind_eq_some_iff.mp H
   obtain ⟨t308, A720, H⟩ := H
   replace H : (if t308 < 0 then (some false) else ((laws_heldIntS.f kj46 t307 t308).bind fun t309 => (if t309 < 0 then (some false) else (if t309 = t306 then ((laws_toIntS.f kj46 l0).bind fun t310 => ((laws_toIntS.f kj46 l1).bind fun t313 => ((impl_Blocked.f kj46 t310 t313 a2 a3).bind fun bt316 => ((laws_eqIntS.f kj46 bt316.1 t268).bind fun t323 => (if t323 = true then ((laws_eqIntS.f kj46 bt316.2.1 t269).bind fun t324 => (if t324 = true then (laws_FnExactBlocked.j2 kj46 t305 t307 t306 (bt316.2.2 != t270)) else (laws_FnExactBlocked.j2 kj46 t305 t307 t306 true))) else (laws_FnExactBlocked.j2 kj46 t305 t307 t306 true)))))) else (some false))))) = some r := H
   have A72 := Kp.a A720
   clear A720
   by_cases c73 : t308 < 0
   ·rw [if_pos c73] at H
    have c73b0 : decide (t308 < 0) = true := decide_eq_true c73
    clear c73
    obtain rfl := Option.some.inj H
    obtain ⟨Ao74, co74, eo74⟩ := Kd.R_slice HO_14.out
    subst eo74
    go_wp2_with (first | ((with_reducible refine gate_callee (f := 11) rfl ?_); refine goesL_ (some 105) rfl rfl Try.func11 (by kernel_rfl) rfl #[.slice Ao74 t281.length co74, .int .i64 1] rfl (by (try simp only [List.map_toArray, List.map_cons, List.map_nil]); first | done | rfl | (simp only [List.length_drop, List.length_take]; rfl)) ?_; (with_reducible refine (laws_markIntS.calls kj46 (fun k_ => some k_ = (.slice Ao74 t281.length co74 : Value).ownBlock) (.slice Ao74 t281.length co74) t281 1 t304 t305 w _ ?side1 ?side2 A70.out).mono ?_); (case side1 => repeat (first | (with_reducible first | exact HB.out | apply below_alloc | apply pw_below_drewN | apply below_drew1) | exact HB.out)); (case side2 => exact Kd.R_tight rfl HO_14.out); rintro e w75 ⟨rfl, hy0, hb, hkp⟩; refine ⟨_, rfl, ?_⟩; have n0_ := Kp.a (Kd.R_mono (ok' := fun k_ => some k_ ≠ (v273 : Value).ownBlock ∧ some k_ ≠ (.slice Ao74 t281.length co74 : Value).ownBlock ∧ some k_ ≠ (v286 : Value).ownBlock) (Kd.R_keptB (HO_9.out) hkp (fun k_ hk_ hs_ => (hk_.2.1) hs_)) (fun k_ hk_ => ⟨hk_.1.1, hk_.1.2.1, hk_.1.2.2⟩)); have n1_ := Kp.a (Kd.R_mono (ok' := fun k_ => some k_ ≠ (v271 : Value).ownBlock ∧ some k_ ≠ (.slice Ao74 t281.length co74 : Value).ownBlock ∧ some k_ ≠ (v286 : Value).ownBlock) (Kd.R_keptB (HO_10.out) hkp (fun k_ hk_ hs_ => (hk_.2.1) hs_)) (fun k_ hk_ => ⟨hk_.1.1, hk_.1.2.1, hk_.1.2.2⟩)); have n2_ := Kp.a (Kd.R_reok rfl hy0 (fun k_ e_ => HO_14.out.1 k_ e_)); have n3_ := Kp.a (Kd.R_mono (ok' := fun k_ => some k_ ≠ (v271 : Value).ownBlock ∧ some k_ ≠ (v273 : Value).ownBlock ∧ some k_ ≠ (.slice Ao74 t281.length co74 : Value).ownBlock) (Kd.R_keptB (HO_15.out) hkp (fun k_ hk_ hs_ => (hk_.2.2) hs_)) (fun k_ hk_ => ⟨hk_.1.1, hk_.1.2.1, hk_.1.2.2⟩)); have n4_ := Kp.a (hb); clear HO_9; clear HO_10; clear HO_14; clear HO_15; clear HB; have HO_9 := n0_; have HO_10 := n1_; have HO_14 := n2_; have HO_15 := n3_; have HB := n4_; clear n0_ n1_ n2_ n3_ n4_; (try clear hb); (try clear hkp); (try clear hy0); obtain ⟨Ao76, co76, eo76⟩ := Kd.R_slice HO_15.out; subst eo76) | ((with_reducible refine gate_callee (f := 11) rfl ?_); refine goesL_ (some 108) rfl rfl Try.func11 (by kernel_rfl) rfl #[.slice Ao76 t282.length co76, .int .i64 t304] rfl (by (try simp only [List.map_toArray, List.map_cons, List.map_nil]); first | done | rfl | (simp only [List.length_drop, List.length_take]; rfl)) ?_; (with_reducible refine (laws_markIntS.calls kj46 (fun k_ => some k_ = (.slice Ao76 t282.length co76 : Value).ownBlock) (.slice Ao76 t282.length co76) t282 t304 t306 t307 w _ ?side1 ?side2 A71.out).mono ?_); (case side1 => repeat (first | (with_reducible first | exact HB.out | apply below_alloc | apply pw_below_drewN | apply below_drew1) | exact HB.out)); (case side2 => exact Kd.R_tight rfl HO_15.out); rintro e w77 ⟨rfl, hy0, hb, hkp⟩; refine ⟨_, rfl, ?_⟩; have n0_ := Kp.a (Kd.R_mono (ok' := fun k_ => some k_ ≠ (v273 : Value).ownBlock ∧ some k_ ≠ (.slice Ao74 t281.length co74 : Value).ownBlock ∧ some k_ ≠ (.slice Ao76 t282.length co76 : Value).ownBlock) (Kd.R_keptB (HO_9.out) hkp (fun k_ hk_ hs_ => (hk_.2.2) hs_)) (fun k_ hk_ => ⟨hk_.1.1, hk_.1.2.1, hk_.1.2.2⟩)); have n1_ := Kp.a (Kd.R_mono (ok' := fun k_ => some k_ ≠ (v271 : Value).ownBlock ∧ some k_ ≠ (.slice Ao74 t281.length co74 : Value).ownBlock ∧ some k_ ≠ (.slice Ao76 t282.length co76 : Value).ownBlock) (Kd.R_keptB (HO_10.out) hkp (fun k_ hk_ hs_ => (hk_.2.2) hs_)) (fun k_ hk_ => ⟨hk_.1.1, hk_.1.2.1, hk_.1.2.2⟩)); have n2_ := Kp.a (Kd.R_mono (ok' := fun k_ => some k_ ≠ (v271 : Value).ownBlock ∧ some k_ ≠ (v273 : Value).ownBlock ∧ some k_ ≠ (.slice Ao76 t282.length co76 : Value).ownBlock) (Kd.R_keptB (HO_14.out) hkp (fun k_ hk_ hs_ => (hk_.2.2) hs_)) (fun k_ hk_ => ⟨hk_.1.1, hk_.1.2.1, hk_.1.2.2⟩)); have n3_ := Kp.a (Kd.R_reok rfl hy0 (fun k_ e_ => HO_15.out.1 k_ e_)); have n4_ := Kp.a (hb); clear HO_9; clear HO_10; clear HO_14; clear HO_15; clear HB; have HO_9 := n0_; have HO_10 := n1_; have HO_14 := n2_; have HO_15 := n3_; have HB := n4_; clear n0_ n1_ n2_ n3_ n4_; (try clear hb); (try clear hkp); (try clear hy0)) | ((with_reducible refine gate_callee (f := 17) rfl ?_); refine goesL_ (some 111) rfl rfl Try.func17 (by kernel_rfl) rfl #[.slice Ao74 t305.length co74, .int .i64 1] rfl (by (try simp only [List.map_toArray, List.map_cons, List.map_nil]); first | done | (rw [show t305.length = t281.length from (Kd.R_reads' HO_14.out).1.symm] <;> rfl) | rfl | (simp only [List.length_drop, List.length_take]; rfl)) ?_; (with_reducible refine (laws_heldIntS.calls kj46 _ _ t305 1 t308 _ ?side1 ?side2 A72.out).mono ?_); (case side1 => repeat (first | exact (Kd.R_reads' HO_14.out).2.2 | (with_reducible refine Kd.C_alloc ?_ _) | (with_reducible refine Kd.C_drewN ?_ _) | (with_reducible refine Kd.C_drew ?_))); (case side2 => rw [show t305.length = t281.length from (Kd.R_reads' HO_14.out).1.symm]; exact (Kd.R_reads' HO_14.out).2.1); rintro e w' ⟨rfl, ⟨nd, rfl⟩⟩; refine ⟨_, rfl, ?_⟩))
    go_ret
    exact ⟨by first | rfl | (simp [errW_none, errW_some] <;> rfl) | (simp [*, errW_none, errW_some] <;> rfl), Kp.kpL HB.out⟩
   rw [if_neg c73] at H
   have c73b0 : decide (t308 < 0) = false := decide_eq_false c73
   clear c73
   replace H := Option.bind_eq_some_iff.mp H
   obtain ⟨t309, A780, H⟩ := H
   replace H : (if t309 < 0 then (some false) else (if t309 = t306 then ((laws_toIntS.f kj46 l0).bind fun t310 => ((laws_toIntS.f kj46 l1).bind fun t313 => ((impl_Blocked.f kj46 t310 t313 a2 a3).bind fun bt316 => ((laws_eqIntS.f kj46 bt316.1 t268).bind fun t323 => (if t323 = true then ((laws_eqIntS.f kj46 bt316.2.1 t269).bind fun t324 => (if t324 = true then (laws_FnExactBlocked.j2 kj46 t305 t307 t306 (bt316.2.2 != t270)) else (laws_FnExactBlocked.j2 kj46 t305 t307 t306 true))) else (laws_FnExactBlocked.j2 kj46 t305 t307 t306 true)))))) else (some false))) = some r := H
   have A78 := Kp.a A780
   clear A780
   by_cases c79 : t309 < 0
   ·rw [if_pos c79] at H
    have c79b0 : decide (t309 < 0) = true := decide_eq_true c79
    clear c79
    obtain rfl := Option.some.inj H
    obtain ⟨Ao80, co80, eo80⟩ := Kd.R_slice HO_14.out
    subst eo80
    go_wp2_with (first | ((with_reducible refine gate_callee (f := 11) rfl ?_); refine goesL_ (some 105) rfl rfl Try.func11 (by kernel_rfl) rfl #[.slice Ao80 t281.length co80, .int .i64 1] rfl (by (try simp only [List.map_toArray, List.map_cons, List.map_nil]); first | done | rfl | (simp only [List.length_drop, List.length_take]; rfl)) ?_; (with_reducible refine (laws_markIntS.calls kj46 (fun k_ => some k_ = (.slice Ao80 t281.length co80 : Value).ownBlock) (.slice Ao80 t281.length co80) t281 1 t304 t305 w _ ?side1 ?side2 A70.out).mono ?_); (case side1 => repeat (first | (with_reducible first | exact HB.out | apply below_alloc | apply pw_below_drewN | apply below_drew1) | exact HB.out)); (case side2 => exact Kd.R_tight rfl HO_14.out); rintro e w81 ⟨rfl, hy0, hb, hkp⟩; refine ⟨_, rfl, ?_⟩; have n0_ := Kp.a (Kd.R_mono (ok' := fun k_ => some k_ ≠ (v273 : Value).ownBlock ∧ some k_ ≠ (.slice Ao80 t281.length co80 : Value).ownBlock ∧ some k_ ≠ (v286 : Value).ownBlock) (Kd.R_keptB (HO_9.out) hkp (fun k_ hk_ hs_ => (hk_.2.1) hs_)) (fun k_ hk_ => ⟨hk_.1.1, hk_.1.2.1, hk_.1.2.2⟩)); have n1_ := Kp.a (Kd.R_mono (ok' := fun k_ => some k_ ≠ (v271 : Value).ownBlock ∧ some k_ ≠ (.slice Ao80 t281.length co80 : Value).ownBlock ∧ some k_ ≠ (v286 : Value).ownBlock) (Kd.R_keptB (HO_10.out) hkp (fun k_ hk_ hs_ => (hk_.2.1) hs_)) (fun k_ hk_ => ⟨hk_.1.1, hk_.1.2.1, hk_.1.2.2⟩)); have n2_ := Kp.a (Kd.R_reok rfl hy0 (fun k_ e_ => HO_14.out.1 k_ e_)); have n3_ := Kp.a (Kd.R_mono (ok' := fun k_ => some k_ ≠ (v271 : Value).ownBlock ∧ some k_ ≠ (v273 : Value).ownBlock ∧ some k_ ≠ (.slice Ao80 t281.length co80 : Value).ownBlock) (Kd.R_keptB (HO_15.out) hkp (fun k_ hk_ hs_ => (hk_.2.2) hs_)) (fun k_ hk_ => ⟨hk_.1.1, hk_.1.2.1, hk_.1.2.2⟩)); have n4_ := Kp.a (hb); clear HO_9; clear HO_10; clear HO_14; clear HO_15; clear HB; have HO_9 := n0_; have HO_10 := n1_; have HO_14 := n2_; have HO_15 := n3_; have HB := n4_; clear n0_ n1_ n2_ n3_ n4_; (try clear hb); (try clear hkp); (try clear hy0); obtain ⟨Ao82, co82, eo82⟩ := Kd.R_slice HO_15.out; subst eo82) | ((with_reducible refine gate_callee (f := 11) rfl ?_); refine goesL_ (some 108) rfl rfl Try.func11 (by kernel_rfl) rfl #[.slice Ao82 t282.length co82, .int .i64 t304] rfl (by (try simp only [List.map_toArray, List.map_cons, List.map_nil]); first | done | rfl | (simp only [List.length_drop, List.length_take]; rfl)) ?_; (with_reducible refine (laws_markIntS.calls kj46 (fun k_ => some k_ = (.slice Ao82 t282.length co82 : Value).ownBlock) (.slice Ao82 t282.length co82) t282 t304 t306 t307 w _ ?side1 ?side2 A71.out).mono ?_); (case side1 => repeat (first | (with_reducible first | exact HB.out | apply below_alloc | apply pw_below_drewN | apply below_drew1) | exact HB.out)); (case side2 => exact Kd.R_tight rfl HO_15.out); rintro e w83 ⟨rfl, hy0, hb, hkp⟩; refine ⟨_, rfl, ?_⟩; have n0_ := Kp.a (Kd.R_mono (ok' := fun k_ => some k_ ≠ (v273 : Value).ownBlock ∧ some k_ ≠ (.slice Ao80 t281.length co80 : Value).ownBlock ∧ some k_ ≠ (.slice Ao82 t282.length co82 : Value).ownBlock) (Kd.R_keptB (HO_9.out) hkp (fun k_ hk_ hs_ => (hk_.2.2) hs_)) (fun k_ hk_ => ⟨hk_.1.1, hk_.1.2.1, hk_.1.2.2⟩)); have n1_ := Kp.a (Kd.R_mono (ok' := fun k_ => some k_ ≠ (v271 : Value).ownBlock ∧ some k_ ≠ (.slice Ao80 t281.length co80 : Value).ownBlock ∧ some k_ ≠ (.slice Ao82 t282.length co82 : Value).ownBlock) (Kd.R_keptB (HO_10.out) hkp (fun k_ hk_ hs_ => (hk_.2.2) hs_)) (fun k_ hk_ => ⟨hk_.1.1, hk_.1.2.1, hk_.1.2.2⟩)); have n2_ := Kp.a (Kd.R_mono (ok' := fun k_ => some k_ ≠ (v271 : Value).ownBlock ∧ some k_ ≠ (v273 : Value).ownBlock ∧ some k_ ≠ (.slice Ao82 t282.length co82 : Value).ownBlock) (Kd.R_keptB (HO_14.out) hkp (fun k_ hk_ hs_ => (hk_.2.2) hs_)) (fun k_ hk_ => ⟨hk_.1.1, hk_.1.2.1, hk_.1.2.2⟩)); have n3_ := Kp.a (Kd.R_reok rfl hy0 (fun k_ e_ => HO_15.out.1 k_ e_)); have n4_ := Kp.a (hb); clear HO_9; clear HO_10; clear HO_14; clear HO_15; clear HB; have HO_9 := n0_; have HO_10 := n1_; have HO_14 := n2_; have HO_15 := n3_; have HB := n4_; clear n0_ n1_ n2_ n3_ n4_; (try clear hb); (try clear hkp); (try clear hy0)) | ((with_reducible refine gate_callee (f := 17) rfl ?_); refine goesL_ (some 111) rfl rfl Try.func17 (by kernel_rfl) rfl #[.slice Ao80 t305.length co80, .int .i64 1] rfl (by (try simp only [List.map_toArray, List.map_cons, List.map_nil]); first | done | (rw [show t305.length = t281.length from (Kd.R_reads' HO_14.out).1.symm] <;> rfl) | rfl | (simp only [List.length_drop, List.length_take]; rfl)) ?_; (with_reducible refine (laws_heldIntS.calls kj46 _ _ t305 1 t308 _ ?side1 ?side2 A72.out).mono ?_); (case side1 => repeat (first | exact (Kd.R_reads' HO_14.out).2.2 | (with_reducible refine Kd.C_alloc ?_ _) | (with_reducible refine Kd.C_drewN ?_ _) | (with_reducible refine Kd.C_drew ?_))); (case side2 => rw [show t305.length = t281.length from (Kd.R_reads' HO_14.out).1.symm]; exact (Kd.R_reads' HO_14.out).2.1); rintro e w' ⟨rfl, ⟨nd, rfl⟩⟩; refine ⟨_, rfl, ?_⟩) | ((with_reducible refine gate_callee (f := 17) rfl ?_); refine goesL_ (some 116) rfl rfl Try.func17 (by kernel_rfl) rfl #[.slice Ao82 t307.length co82, .int .i64 t308] rfl (by (try simp only [List.map_toArray, List.map_cons, List.map_nil]); first | done | (rw [show t307.length = t282.length from (Kd.R_reads' HO_15.out).1.symm] <;> rfl) | rfl | (simp only [List.length_drop, List.length_take]; rfl)) ?_; (with_reducible refine (laws_heldIntS.calls kj46 _ _ t307 t308 t309 _ ?side1 ?side2 A78.out).mono ?_); (case side1 => repeat (first | exact (Kd.R_reads' HO_15.out).2.2 | (with_reducible refine Kd.C_alloc ?_ _) | (with_reducible refine Kd.C_drewN ?_ _) | (with_reducible refine Kd.C_drew ?_))); (case side2 => rw [show t307.length = t282.length from (Kd.R_reads' HO_15.out).1.symm]; exact (Kd.R_reads' HO_15.out).2.1); rintro e w' ⟨rfl, ⟨nd, rfl⟩⟩; refine ⟨_, rfl, ?_⟩))
    go_ret
    exact ⟨by first | rfl | (simp [errW_none, errW_some] <;> rfl) | (simp [*, errW_none, errW_some] <;> rfl), Kp.kpL HB.out⟩
   rw [if_neg c79] at H
   have c79b0 : decide (t309 < 0) = false := decide_eq_false c79
   clear c79
   by_cases c84 : t309 = t306
   rotate_left
   ·rw [if_neg c84] at H
    have c84b0 : (t309 == t306) = false := beq_eq_false_iff_ne.mpr c84
    have c84b1 : (t309 != t306) = true := bne_iff_ne.mpr c84
    obtain rfl := Option.some.inj H
    obtain ⟨Ao118, co118, eo118⟩ := Kd.R_slice HO_14.out
    subst eo118
    go_wp2_with (first | ((with_reducible refine gate_callee (f := 11) rfl ?_); refine goesL_ (some 105) rfl rfl Try.func11 (by kernel_rfl) rfl #[.slice Ao118 t281.length co118, .int .i64 1] rfl (by (try simp only [List.map_toArray, List.map_cons, List.map_nil]); first | done | rfl | (simp only [List.length_drop, List.length_take]; rfl)) ?_; (with_reducible refine (laws_markIntS.calls kj46 (fun k_ => some k_ = (.slice Ao118 t281.length co118 : Value).ownBlock) (.slice Ao118 t281.length co118) t281 1 t304 t305 w _ ?side1 ?side2 A70.out).mono ?_); (case side1 => repeat (first | (with_reducible first | exact HB.out | apply below_alloc | apply pw_below_drewN | apply below_drew1) | exact HB.out)); (case side2 => exact Kd.R_tight rfl HO_14.out); rintro e w119 ⟨rfl, hy0, hb, hkp⟩; refine ⟨_, rfl, ?_⟩; have n0_ := Kp.a (Kd.R_mono (ok' := fun k_ => some k_ ≠ (v273 : Value).ownBlock ∧ some k_ ≠ (.slice Ao118 t281.length co118 : Value).ownBlock ∧ some k_ ≠ (v286 : Value).ownBlock) (Kd.R_keptB (HO_9.out) hkp (fun k_ hk_ hs_ => (hk_.2.1) hs_)) (fun k_ hk_ => ⟨hk_.1.1, hk_.1.2.1, hk_.1.2.2⟩)); have n1_ := Kp.a (Kd.R_mono (ok' := fun k_ => some k_ ≠ (v271 : Value).ownBlock ∧ some k_ ≠ (.slice Ao118 t281.length co118 : Value).ownBlock ∧ some k_ ≠ (v286 : Value).ownBlock) (Kd.R_keptB (HO_10.out) hkp (fun k_ hk_ hs_ => (hk_.2.1) hs_)) (fun k_ hk_ => ⟨hk_.1.1, hk_.1.2.1, hk_.1.2.2⟩)); have n2_ := Kp.a (Kd.R_reok rfl hy0 (fun k_ e_ => HO_14.out.1 k_ e_)); have n3_ := Kp.a (Kd.R_mono (ok' := fun k_ => some k_ ≠ (v271 : Value).ownBlock ∧ some k_ ≠ (v273 : Value).ownBlock ∧ some k_ ≠ (.slice Ao118 t281.length co118 : Value).ownBlock) (Kd.R_keptB (HO_15.out) hkp (fun k_ hk_ hs_ => (hk_.2.2) hs_)) (fun k_ hk_ => ⟨hk_.1.1, hk_.1.2.1, hk_.1.2.2⟩)); have n4_ := Kp.a (hb); clear HO_9; clear HO_10; clear HO_14; clear HO_15; clear HB; have HO_9 := n0_; have HO_10 := n1_; have HO_14 := n2_; have HO_15 := n3_; have HB := n4_; clear n0_ n1_ n2_ n3_ n4_; (try clear hb); (try clear hkp); (try clear hy0); obtain ⟨Ao120, co120, eo120⟩ := Kd.R_slice HO_15.out; subst eo120) | ((with_reducible refine gate_callee (f := 11) rfl ?_); refine goesL_ (some 108) rfl rfl Try.func11 (by kernel_rfl) rfl #[.slice Ao120 t282.length co120, .int .i64 t304] rfl (by (try simp only [List.map_toArray, List.map_cons, List.map_nil]); first | done | rfl | (simp only [List.length_drop, List.length_take]; rfl)) ?_; (with_reducible refine (laws_markIntS.calls kj46 (fun k_ => some k_ = (.slice Ao120 t282.length co120 : Value).ownBlock) (.slice Ao120 t282.length co120) t282 t304 t306 t307 w _ ?side1 ?side2 A71.out).mono ?_); (case side1 => repeat (first | (with_reducible first | exact HB.out | apply below_alloc | apply pw_below_drewN | apply below_drew1) | exact HB.out)); (case side2 => exact Kd.R_tight rfl HO_15.out); rintro e w121 ⟨rfl, hy0, hb, hkp⟩; refine ⟨_, rfl, ?_⟩; have n0_ := Kp.a (Kd.R_mono (ok' := fun k_ => some k_ ≠ (v273 : Value).ownBlock ∧ some k_ ≠ (.slice Ao118 t281.length co118 : Value).ownBlock ∧ some k_ ≠ (.slice Ao120 t282.length co120 : Value).ownBlock) (Kd.R_keptB (HO_9.out) hkp (fun k_ hk_ hs_ => (hk_.2.2) hs_)) (fun k_ hk_ => ⟨hk_.1.1, hk_.1.2.1, hk_.1.2.2⟩)); have n1_ := Kp.a (Kd.R_mono (ok' := fun k_ => some k_ ≠ (v271 : Value).ownBlock ∧ some k_ ≠ (.slice Ao118 t281.length co118 : Value).ownBlock ∧ some k_ ≠ (.slice Ao120 t282.length co120 : Value).ownBlock) (Kd.R_keptB (HO_10.out) hkp (fun k_ hk_ hs_ => (hk_.2.2) hs_)) (fun k_ hk_ => ⟨hk_.1.1, hk_.1.2.1, hk_.1.2.2⟩)); have n2_ := Kp.a (Kd.R_mono (ok' := fun k_ => some k_ ≠ (v271 : Value).ownBlock ∧ some k_ ≠ (v273 : Value).ownBlock ∧ some k_ ≠ (.slice Ao120 t282.length co120 : Value).ownBlock) (Kd.R_keptB (HO_14.out) hkp (fun k_ hk_ hs_ => (hk_.2.2) hs_)) (fun k_ hk_ => ⟨hk_.1.1, hk_.1.2.1, hk_.1.2.2⟩)); have n3_ := Kp.a (Kd.R_reok rfl hy0 (fun k_ e_ => HO_15.out.1 k_ e_)); have n4_ := Kp.a (hb); clear HO_9; clear HO_10; clear HO_14; clear HO_15; clear HB; have HO_9 := n0_; have HO_10 := n1_; have HO_14 := n2_; have HO_15 := n3_; have HB := n4_; clear n0_ n1_ n2_ n3_ n4_; (try clear hb); (try clear hkp); (try clear hy0)) | ((with_reducible refine gate_callee (f := 17) rfl ?_); refine goesL_ (some 111) rfl rfl Try.func17 (by kernel_rfl) rfl #[.slice Ao118 t305.length co118, .int .i64 1] rfl (by (try simp only [List.map_toArray, List.map_cons, List.map_nil]); first | done | (rw [show t305.length = t281.length from (Kd.R_reads' HO_14.out).1.symm] <;> rfl) | rfl | (simp only [List.length_drop, List.length_take]; rfl)) ?_; (with_reducible refine (laws_heldIntS.calls kj46 _ _ t305 1 t308 _ ?side1 ?side2 A72.out).mono ?_); (case side1 => repeat (first | exact (Kd.R_reads' HO_14.out).2.2 | (with_reducible refine Kd.C_alloc ?_ _) | (with_reducible refine Kd.C_drewN ?_ _) | (with_reducible refine Kd.C_drew ?_))); (case side2 => rw [show t305.length = t281.length from (Kd.R_reads' HO_14.out).1.symm]; exact (Kd.R_reads' HO_14.out).2.1); rintro e w' ⟨rfl, ⟨nd, rfl⟩⟩; refine ⟨_, rfl, ?_⟩) | ((with_reducible refine gate_callee (f := 17) rfl ?_); refine goesL_ (some 116) rfl rfl Try.func17 (by kernel_rfl) rfl #[.slice Ao120 t307.length co120, .int .i64 t308] rfl (by (try simp only [List.map_toArray, List.map_cons, List.map_nil]); first | done | (rw [show t307.length = t282.length from (Kd.R_reads' HO_15.out).1.symm] <;> rfl) | rfl | (simp only [List.length_drop, List.length_take]; rfl)) ?_; (with_reducible refine (laws_heldIntS.calls kj46 _ _ t307 t308 t309 _ ?side1 ?side2 A78.out).mono ?_); (case side1 => repeat (first | exact (Kd.R_reads' HO_15.out).2.2 | (with_reducible refine Kd.C_alloc ?_ _) | (with_reducible refine Kd.C_drewN ?_ _) | (with_reducible refine Kd.C_drew ?_))); (case side2 => rw [show t307.length = t282.length from (Kd.R_reads' HO_15.out).1.symm]; exact (Kd.R_reads' HO_15.out).2.1); rintro e w' ⟨rfl, ⟨nd, rfl⟩⟩; refine ⟨_, rfl, ?_⟩))
    go_ret
    exact ⟨by first | rfl | (simp [errW_none, errW_some] <;> rfl) | (simp [*, errW_none, errW_some] <;> rfl), Kp.kpL HB.out⟩
   rw [if_pos c84] at H
   have c84b0 : (t309 == t306) = true := beq_iff_eq.mpr c84
   have c84b1 : (t309 != t306) = false := bne_eq_false_iff_eq.mpr c84
   clear c84
   replace H := Option.bind_eq_some_iff.mp H
   obtain ⟨t310, A850, H⟩ := H
   replace H : ((laws_toIntS.f kj46 l1).bind fun t313 => ((impl_Blocked.f kj46 t310 t313 a2 a3).bind fun bt316 => ((laws_eqIntS.f kj46 bt316.1 t268).bind fun t323 => (if t323 = true then ((laws_eqIntS.f kj46 bt316.2.1 t269).bind fun t324 => (if t324 = true then (laws_FnExactBlocked.j2 kj46 t305 t307 t306 (bt316.2.2 != t270)) else (laws_FnExactBlocked.j2 kj46 t305 t307 t306 true))) else (laws_FnExactBlocked.j2 kj46 t305 t307 t306 true))))) = some r := H
   have A85 := Kp.a A850
   clear A850
   replace H := Option.bind_eq_some_iff.mp H
   obtain ⟨t313, A860, H⟩ := H
   replace H : ((impl_Blocked.f kj46 t310 t313 a2 a3).bind fun bt316 => ((laws_eqIntS.f kj46 bt316.1 t268).bind fun t323 => (if t323 = true then ((laws_eqIntS.f kj46 bt316.2.1 t269).bind fun t324 => (if t324 = true then (laws_FnExactBlocked.j2 kj46 t305 t307 t306 (bt316.2.2 != t270)) else (laws_FnExactBlocked.j2 kj46 t305 t307 t306 true))) else (laws_FnExactBlocked.j2 kj46 t305 t307 t306 true)))) = some r := H
   have A86 := Kp.a A860
   clear A860
   replace H := Option.bind_eq_some_iff.mp H
   obtain ⟨⟨t316, t317, t318⟩, A870, H⟩ := H
   replace H : ((laws_eqIntS.f kj46 t316 t268).bind fun t323 => (if t323 = true then ((laws_eqIntS.f kj46 t317 t269).bind fun t324 => (if t324 = true then (laws_FnExactBlocked.j2 kj46 t305 t307 t306 (t318 != t270)) else (laws_FnExactBlocked.j2 kj46 t305 t307 t306 true))) else (laws_FnExactBlocked.j2 kj46 t305 t307 t306 true))) = some r := H
   have A87 := Kp.a A870
   clear A870
   have HC88 := Kp.a H
   clear H
   obtain ⟨Ao89, co89, eo89⟩ := Kd.R_slice HO_14.out
   subst eo89
   go_upto_region 33 with (first | ((with_reducible refine gate_callee (f := 11) rfl ?_); refine goesL_ (some 105) rfl rfl Try.func11 (by kernel_rfl) rfl #[.slice Ao89 t281.length co89, .int .i64 1] rfl (by (try simp only [List.map_toArray, List.map_cons, List.map_nil]); first | done | rfl | (simp only [List.length_drop, List.length_take]; rfl)) ?_; (with_reducible refine (laws_markIntS.calls kj46 (fun k_ => some k_ = (.slice Ao89 t281.length co89 : Value).ownBlock) (.slice Ao89 t281.length co89) t281 1 t304 t305 w _ ?side1 ?side2 A70.out).mono ?_); (case side1 => repeat (first | (with_reducible first | exact HB.out | apply below_alloc | apply pw_below_drewN | apply below_drew1) | exact HB.out)); (case side2 => exact Kd.R_tight rfl HO_14.out); rintro e w90 ⟨rfl, hy0, hb, hkp⟩; refine ⟨_, rfl, ?_⟩; have n0_ := Kp.a (Kd.R_mono (ok' := fun k_ => some k_ ≠ (v273 : Value).ownBlock ∧ some k_ ≠ (.slice Ao89 t281.length co89 : Value).ownBlock ∧ some k_ ≠ (v286 : Value).ownBlock) (Kd.R_keptB (HO_9.out) hkp (fun k_ hk_ hs_ => (hk_.2.1) hs_)) (fun k_ hk_ => ⟨hk_.1.1, hk_.1.2.1, hk_.1.2.2⟩)); have n1_ := Kp.a (Kd.R_mono (ok' := fun k_ => some k_ ≠ (v271 : Value).ownBlock ∧ some k_ ≠ (.slice Ao89 t281.length co89 : Value).ownBlock ∧ some k_ ≠ (v286 : Value).ownBlock) (Kd.R_keptB (HO_10.out) hkp (fun k_ hk_ hs_ => (hk_.2.1) hs_)) (fun k_ hk_ => ⟨hk_.1.1, hk_.1.2.1, hk_.1.2.2⟩)); have n2_ := Kp.a (Kd.R_reok rfl hy0 (fun k_ e_ => HO_14.out.1 k_ e_)); have n3_ := Kp.a (Kd.R_mono (ok' := fun k_ => some k_ ≠ (v271 : Value).ownBlock ∧ some k_ ≠ (v273 : Value).ownBlock ∧ some k_ ≠ (.slice Ao89 t281.length co89 : Value).ownBlock) (Kd.R_keptB (HO_15.out) hkp (fun k_ hk_ hs_ => (hk_.2.2) hs_)) (fun k_ hk_ => ⟨hk_.1.1, hk_.1.2.1, hk_.1.2.2⟩)); have n4_ := Kp.a (hb); clear HO_9; clear HO_10; clear HO_14; clear HO_15; clear HB; have HO_9 := n0_; have HO_10 := n1_; have HO_14 := n2_; have HO_15 := n3_; have HB := n4_; clear n0_ n1_ n2_ n3_ n4_; (try clear hb); (try clear hkp); (try clear hy0); obtain ⟨Ao91, co91, eo91⟩ := Kd.R_slice HO_15.out; subst eo91) | ((with_reducible refine gate_callee (f := 11) rfl ?_); refine goesL_ (some 108) rfl rfl Try.func11 (by kernel_rfl) rfl #[.slice Ao91 t282.length co91, .int .i64 t304] rfl (by (try simp only [List.map_toArray, List.map_cons, List.map_nil]); first | done | rfl | (simp only [List.length_drop, List.length_take]; rfl)) ?_; (with_reducible refine (laws_markIntS.calls kj46 (fun k_ => some k_ = (.slice Ao91 t282.length co91 : Value).ownBlock) (.slice Ao91 t282.length co91) t282 t304 t306 t307 w _ ?side1 ?side2 A71.out).mono ?_); (case side1 => repeat (first | (with_reducible first | exact HB.out | apply below_alloc | apply pw_below_drewN | apply below_drew1) | exact HB.out)); (case side2 => exact Kd.R_tight rfl HO_15.out); rintro e w92 ⟨rfl, hy0, hb, hkp⟩; refine ⟨_, rfl, ?_⟩; have n0_ := Kp.a (Kd.R_mono (ok' := fun k_ => some k_ ≠ (v273 : Value).ownBlock ∧ some k_ ≠ (.slice Ao89 t281.length co89 : Value).ownBlock ∧ some k_ ≠ (.slice Ao91 t282.length co91 : Value).ownBlock) (Kd.R_keptB (HO_9.out) hkp (fun k_ hk_ hs_ => (hk_.2.2) hs_)) (fun k_ hk_ => ⟨hk_.1.1, hk_.1.2.1, hk_.1.2.2⟩)); have n1_ := Kp.a (Kd.R_mono (ok' := fun k_ => some k_ ≠ (v271 : Value).ownBlock ∧ some k_ ≠ (.slice Ao89 t281.length co89 : Value).ownBlock ∧ some k_ ≠ (.slice Ao91 t282.length co91 : Value).ownBlock) (Kd.R_keptB (HO_10.out) hkp (fun k_ hk_ hs_ => (hk_.2.2) hs_)) (fun k_ hk_ => ⟨hk_.1.1, hk_.1.2.1, hk_.1.2.2⟩)); have n2_ := Kp.a (Kd.R_mono (ok' := fun k_ => some k_ ≠ (v271 : Value).ownBlock ∧ some k_ ≠ (v273 : Value).ownBlock ∧ some k_ ≠ (.slice Ao91 t282.length co91 : Value).ownBlock) (Kd.R_keptB (HO_14.out) hkp (fun k_ hk_ hs_ => (hk_.2.2) hs_)) (fun k_ hk_ => ⟨hk_.1.1, hk_.1.2.1, hk_.1.2.2⟩)); have n3_ := Kp.a (Kd.R_reok rfl hy0 (fun k_ e_ => HO_15.out.1 k_ e_)); have n4_ := Kp.a (hb); clear HO_9; clear HO_10; clear HO_14; clear HO_15; clear HB; have HO_9 := n0_; have HO_10 := n1_; have HO_14 := n2_; have HO_15 := n3_; have HB := n4_; clear n0_ n1_ n2_ n3_ n4_; (try clear hb); (try clear hkp); (try clear hy0)) | ((with_reducible refine gate_callee (f := 17) rfl ?_); refine goesL_ (some 111) rfl rfl Try.func17 (by kernel_rfl) rfl #[.slice Ao89 t305.length co89, .int .i64 1] rfl (by (try simp only [List.map_toArray, List.map_cons, List.map_nil]); first | done | (rw [show t305.length = t281.length from (Kd.R_reads' HO_14.out).1.symm] <;> rfl) | rfl | (simp only [List.length_drop, List.length_take]; rfl)) ?_; (with_reducible refine (laws_heldIntS.calls kj46 _ _ t305 1 t308 _ ?side1 ?side2 A72.out).mono ?_); (case side1 => repeat (first | exact (Kd.R_reads' HO_14.out).2.2 | (with_reducible refine Kd.C_alloc ?_ _) | (with_reducible refine Kd.C_drewN ?_ _) | (with_reducible refine Kd.C_drew ?_))); (case side2 => rw [show t305.length = t281.length from (Kd.R_reads' HO_14.out).1.symm]; exact (Kd.R_reads' HO_14.out).2.1); rintro e w' ⟨rfl, ⟨nd, rfl⟩⟩; refine ⟨_, rfl, ?_⟩) | ((with_reducible refine gate_callee (f := 17) rfl ?_); refine goesL_ (some 116) rfl rfl Try.func17 (by kernel_rfl) rfl #[.slice Ao91 t307.length co91, .int .i64 t308] rfl (by (try simp only [List.map_toArray, List.map_cons, List.map_nil]); first | done | (rw [show t307.length = t282.length from (Kd.R_reads' HO_15.out).1.symm] <;> rfl) | rfl | (simp only [List.length_drop, List.length_take]; rfl)) ?_; (with_reducible refine (laws_heldIntS.calls kj46 _ _ t307 t308 t309 _ ?side1 ?side2 A78.out).mono ?_); (case side1 => repeat (first | exact (Kd.R_reads' HO_15.out).2.2 | (with_reducible refine Kd.C_alloc ?_ _) | (with_reducible refine Kd.C_drewN ?_ _) | (with_reducible refine Kd.C_drew ?_))); (case side2 => rw [show t307.length = t282.length from (Kd.R_reads' HO_15.out).1.symm]; exact (Kd.R_reads' HO_15.out).2.1); rintro e w' ⟨rfl, ⟨nd, rfl⟩⟩; refine ⟨_, rfl, ?_⟩) | ((with_reducible refine gate_callee (f := 7) rfl ?_); refine goesL_ (some 124) rfl rfl Try.func7 (by kernel_rfl) rfl #[.slice A0 l0.length c0] rfl (by (try simp only [List.map_toArray, List.map_cons, List.map_nil]); first | done | rfl | (simp only [List.length_drop, List.length_take]; rfl)) ?_; (with_reducible refine (laws_toIntS.calls kj46 _ _ l0 t310 _ ?side1 ?side2 A85.out).mono ?_); (case side1 => repeat (first | exact (Kd.C_below HR0.out (Kp.kpL HB.out)) | (with_reducible refine Kd.C_alloc ?_ _) | (with_reducible refine Kd.C_drewN ?_ _) | (with_reducible refine Kd.C_drew ?_))); (case side2 => exact HC0.out); rintro e w93 ⟨v311, rfl, ho0, hb⟩; refine ⟨_, rfl, ?_⟩; have n0_ := Kp.a (Kd.R_elder' (Kp.kpR HO_9.out) (Kd.R_base ho0) hb); have n1_ := Kp.a (Kd.R_elder' (Kp.kpR HO_10.out) (Kd.R_base ho0) hb); have n2_ := Kp.a (Kd.R_elder' (Kp.kpR HO_14.out) (Kd.R_base ho0) hb); have n3_ := Kp.a (Kd.R_elder' (Kp.kpR HO_15.out) (Kd.R_base ho0) hb); have n4_ := Kp.a (Kd.R_lower (Kd.R_new' (Kd.R_new' (Kd.R_new' (Kd.R_new' ho0 (Kd.R_lt (Kp.kpR HO_9.out))) (Kd.R_lt (Kp.kpR HO_10.out))) (Kd.R_lt (Kp.kpR HO_14.out))) (Kd.R_lt (Kp.kpR HO_15.out))) (below_size (Kp.kpL HB.out))); have n5_ := Kp.a (below_step (Kp.kpL HB.out) hb); clear HO_9; clear HO_10; clear HO_14; clear HO_15; clear HB; have HO_9 := n0_; have HO_10 := n1_; have HO_14 := n2_; have HO_15 := n3_; have HO312 := n4_; have HB := n5_; clear n0_ n1_ n2_ n3_ n4_ n5_; (try clear hb); (try clear hb2); (try clear hk); (try clear hi); (try clear ho0)) | ((with_reducible refine gate_callee (f := 7) rfl ?_); refine goesL_ (some 126) rfl rfl Try.func7 (by kernel_rfl) rfl #[.slice A1 l1.length c1] rfl (by (try simp only [List.map_toArray, List.map_cons, List.map_nil]); first | done | rfl | (simp only [List.length_drop, List.length_take]; rfl)) ?_; (with_reducible refine (laws_toIntS.calls kj46 _ _ l1 t313 _ ?side1 ?side2 A86.out).mono ?_); (case side1 => repeat (first | exact (Kd.C_below HR1.out HB.out) | (with_reducible refine Kd.C_alloc ?_ _) | (with_reducible refine Kd.C_drewN ?_ _) | (with_reducible refine Kd.C_drew ?_))); (case side2 => exact HC1.out); rintro e w94 ⟨v314, rfl, ho0, hb⟩; refine ⟨_, rfl, ?_⟩; have n0_ := Kp.a (Kd.R_elder' (Kp.kpR HO_9.out) (Kd.R_base ho0) hb); have n1_ := Kp.a (Kd.R_elder' (Kp.kpR HO_10.out) (Kd.R_base ho0) hb); have n2_ := Kp.a (Kd.R_elder' (Kp.kpR HO_14.out) (Kd.R_base ho0) hb); have n3_ := Kp.a (Kd.R_elder' (Kp.kpR HO_15.out) (Kd.R_base ho0) hb); have n4_ := Kp.a (Kd.R_elder' (Kp.kpR HO312.out) (Kd.R_base ho0) hb); have n5_ := Kp.a (Kd.R_lower (Kd.R_new' (Kd.R_new' (Kd.R_new' (Kd.R_new' (Kd.R_new' ho0 (Kd.R_lt (Kp.kpR HO_9.out))) (Kd.R_lt (Kp.kpR HO_10.out))) (Kd.R_lt (Kp.kpR HO_14.out))) (Kd.R_lt (Kp.kpR HO_15.out))) (Kd.R_lt (Kp.kpR HO312.out))) (below_size (Kp.kpL HB.out))); have n6_ := Kp.a (below_step (Kp.kpL HB.out) hb); clear HO_9; clear HO_10; clear HO_14; clear HO_15; clear HO312; clear HB; have HO_9 := n0_; have HO_10 := n1_; have HO_14 := n2_; have HO_15 := n3_; have HO312 := n4_; have HO315 := n5_; have HB := n6_; clear n0_ n1_ n2_ n3_ n4_ n5_ n6_; (try clear hb); (try clear hb2); (try clear hk); (try clear hi); (try clear ho0); obtain ⟨Ao95, co95, eo95⟩ := Kd.R_slice HO312.out; subst eo95; obtain ⟨Ao96, co96, eo96⟩ := Kd.R_slice HO315.out; subst eo96) | ((with_reducible refine gate_callee (f := 15) rfl ?_); refine goesL_ (some 129) rfl rfl Try.func15 (by kernel_rfl) rfl #[.slice Ao95 t310.length co95, .slice Ao96 t313.length co96, .int .i64 a2, .int .i64 a3] rfl (by (try simp only [List.map_toArray, List.map_cons, List.map_nil]); first | done | rfl | (simp only [List.length_drop, List.length_take]; rfl)) ?_; (with_reducible refine (impl_Blocked.calls kj46 _ _ t310 _ _ t313 a2 a3 t316 t317 t318 _ ?side1 ?side2 ?side3 ?side4 A87.out).mono ?_); (case side1 => repeat (first | exact (Kd.R_reads' HO312.out).2.2 | (with_reducible refine Kd.C_alloc ?_ _) | (with_reducible refine Kd.C_drewN ?_ _) | (with_reducible refine Kd.C_drew ?_))); (case side2 => exact (Kd.R_reads' HO312.out).2.1); (case side3 => repeat (first | exact (Kd.R_reads' HO315.out).2.2 | (with_reducible refine Kd.C_alloc ?_ _) | (with_reducible refine Kd.C_drewN ?_ _) | (with_reducible refine Kd.C_drew ?_))); (case side4 => exact (Kd.R_reads' HO315.out).2.1); rintro e w97 ⟨v319, v321, rfl, ho0, ho1, hb⟩; refine ⟨_, rfl, ?_⟩; have n0_ := Kp.a (Kd.R_mono (Kd.R_told (Kd.R_told (Kd.R_old (Kp.kpR HO_9.out) hb) (Kd.R_base ho0)) (Kd.R_base ho1)) (fun _ h_ => h_.1)); have n1_ := Kp.a (Kd.R_mono (Kd.R_told (Kd.R_told (Kd.R_old (Kp.kpR HO_10.out) hb) (Kd.R_base ho0)) (Kd.R_base ho1)) (fun _ h_ => h_.1)); have n2_ := Kp.a (Kd.R_mono (Kd.R_told (Kd.R_told (Kd.R_old (Kp.kpR HO_14.out) hb) (Kd.R_base ho0)) (Kd.R_base ho1)) (fun _ h_ => h_.1)); have n3_ := Kp.a (Kd.R_mono (Kd.R_told (Kd.R_told (Kd.R_old (Kp.kpR HO_15.out) hb) (Kd.R_base ho0)) (Kd.R_base ho1)) (fun _ h_ => h_.1)); have n4_ := Kp.a (Kd.R_mono (Kd.R_told (Kd.R_told (Kd.R_old (Kp.kpR HO312.out) hb) (Kd.R_base ho0)) (Kd.R_base ho1)) (fun _ h_ => h_.1)); have n5_ := Kp.a (Kd.R_mono (Kd.R_told (Kd.R_told (Kd.R_old (Kp.kpR HO315.out) hb) (Kd.R_base ho0)) (Kd.R_base ho1)) (fun _ h_ => h_.1)); have n6_ := Kp.a (Kd.R_lower (Kd.R_new' (Kd.R_new' (Kd.R_new' (Kd.R_new' (Kd.R_new' (Kd.R_new' ho0 (Kd.R_lt (Kp.kpR HO_9.out))) (Kd.R_lt (Kp.kpR HO_10.out))) (Kd.R_lt (Kp.kpR HO_14.out))) (Kd.R_lt (Kp.kpR HO_15.out))) (Kd.R_lt (Kp.kpR HO312.out))) (Kd.R_lt (Kp.kpR HO315.out))) (below_size (Kp.kpL HB.out))); have n7_ := Kp.a (Kd.R_lower (Kd.R_new' (Kd.R_new' (Kd.R_new' (Kd.R_new' (Kd.R_new' (Kd.R_new' ho1 (Kd.R_lt (Kp.kpR HO_9.out))) (Kd.R_lt (Kp.kpR HO_10.out))) (Kd.R_lt (Kp.kpR HO_14.out))) (Kd.R_lt (Kp.kpR HO_15.out))) (Kd.R_lt (Kp.kpR HO312.out))) (Kd.R_lt (Kp.kpR HO315.out))) (below_size (Kp.kpL HB.out))); have n8_ := Kp.a (below_step (Kp.kpL HB.out) hb); clear HO_9; clear HO_10; clear HO_14; clear HO_15; clear HO312; clear HO315; clear HB; have HO_9 := n0_; have HO_10 := n1_; have HO_14 := n2_; have HO_15 := n3_; have HO312 := n4_; have HO315 := n5_; have HO320 := n6_; have HO322 := n7_; have HB := n8_; clear n0_ n1_ n2_ n3_ n4_ n5_ n6_ n7_ n8_; (try clear hb); (try clear hb2); (try clear hk); (try clear hi); (try clear ho0); (try clear ho1)))
   (try simp only [Act.put, Kp.s0, Kp.s1, Kp.s2])
   go_cut [147] (fun v147 wc => ∃ (kq : Nat) (x147_87 : Bool), v147 = .bool x147_87 ∧ Aside0 (laws_FnExactBlocked.j2 kq t305 t307 t306 x147_87 = some r) ∧ Aside0 (kq ≤ kj46) ∧ Aside0 (Kd.R (Kd.int .i64) 3 wc w.heap.size (fun k_ => some k_ ≠ ((.slice Ao91 t282.length co91) : Value).ownBlock) (.slice Ao89 t281.length co89) t305) ∧ Aside0 (Kd.R (Kd.int .i64) 3 wc w.heap.size (fun k_ => some k_ ≠ ((.slice Ao89 t281.length co89) : Value).ownBlock) (.slice Ao91 t282.length co91) t307) ∧ Aside0 (Below w.heap.size w wc))
   case first =>
    have H := HC88.out
    clear HC88
    replace H := Option.bind_eq_some_iff.mp H
    obtain ⟨t323, A980, H⟩ := H
    replace H : (if t323 = true then ((laws_eqIntS.f kj46 t317 t269).bind fun t324 => (if t324 = true then (laws_FnExactBlocked.j2 kj46 t305 t307 t306 (t318 != t270)) else (laws_FnExactBlocked.j2 kj46 t305 t307 t306 true))) else (laws_FnExactBlocked.j2 kj46 t305 t307 t306 true)) = some r := H
    have A98 := Kp.a A980
    clear A980
    by_cases c99 : t323 = true
    rotate_left
    ·replace c99 := Bool.eq_false_iff.mpr c99
     subst c99
     have H1 : (laws_FnExactBlocked.j2 kj46 t305 t307 t306 true) = some r := by rw [if_neg (show ¬ (false = true) by decide)] at H; exact H
     clear H
     have H := H1
     clear H1
     have H' := Kp.a H
     clear H
     obtain ⟨Ao110, co110, eo110⟩ := Kd.R_slice HO320.out
     subst eo110
     obtain ⟨Ao111, co111, eo111⟩ := Kd.R_slice HO_9.out
     subst eo111
     go_wp2_with (first | ((with_reducible refine gate_callee (f := 10) rfl ?_); refine goesL_ (some 135) rfl rfl Try.func10 (by kernel_rfl) rfl #[.slice Ao110 t316.length co110, .slice Ao111 t268.length co111] rfl (by (try simp only [List.map_toArray, List.map_cons, List.map_nil]); first | done | rfl | (simp only [List.length_drop, List.length_take]; rfl)) ?_; (with_reducible refine (laws_eqIntS.calls kj46 _ _ t316 _ _ t268 false _ ?side1 ?side2 ?side3 ?side4 A98.out).mono ?_); (case side1 => repeat (first | exact (Kd.R_reads' HO320.out).2.2 | (with_reducible refine Kd.C_alloc ?_ _) | (with_reducible refine Kd.C_drewN ?_ _) | (with_reducible refine Kd.C_drew ?_))); (case side2 => exact (Kd.R_reads' HO320.out).2.1); (case side3 => repeat (first | exact (Kd.R_reads' HO_9.out).2.2 | (with_reducible refine Kd.C_alloc ?_ _) | (with_reducible refine Kd.C_drewN ?_ _) | (with_reducible refine Kd.C_drew ?_))); (case side4 => exact (Kd.R_reads' HO_9.out).2.1); rintro e w' ⟨rfl, ⟨nd, rfl⟩⟩; refine ⟨_, rfl, ?_⟩))
     go_meet
     case rel => exact ⟨_, (true), (by first | rfl | (simp; done) | (simp [*]; done)), H', ⟨by have := HJ12.out; have := HJ46.out; first | omega | exact Nat.le_refl _⟩, ⟨Kp.kpR (Kd.R_mono HO_14.out (fun _ hk => hk.1.1.1.1.2.2))⟩, ⟨Kp.kpR (Kd.R_mono HO_15.out (fun _ hk => hk.1.1.1.1.2.2))⟩, ⟨Kp.kpL HB.out⟩⟩
    subst c99
    have H1 : ((laws_eqIntS.f kj46 t317 t269).bind fun t324 => (if t324 = true then (laws_FnExactBlocked.j2 kj46 t305 t307 t306 (t318 != t270)) else (laws_FnExactBlocked.j2 kj46 t305 t307 t306 true))) = some r := by rw [if_pos rfl] at H; exact H
    clear H
    have H := H1
    clear H1
    replace H := Option.bind_eq_some_iff.mp H
    obtain ⟨t324, A1000, H⟩ := H
    replace H : (if t324 = true then (laws_FnExactBlocked.j2 kj46 t305 t307 t306 (t318 != t270)) else (laws_FnExactBlocked.j2 kj46 t305 t307 t306 true)) = some r := H
    have A100 := Kp.a A1000
    clear A1000
    by_cases c101 : t324 = true
    ·subst c101
     have H1 : (laws_FnExactBlocked.j2 kj46 t305 t307 t306 (t318 != t270)) = some r := by rw [if_pos rfl] at H; exact H
     clear H
     have H := H1
     clear H1
     have H' := Kp.a H
     clear H
     obtain ⟨Ao102, co102, eo102⟩ := Kd.R_slice HO320.out
     subst eo102
     obtain ⟨Ao103, co103, eo103⟩ := Kd.R_slice HO_9.out
     subst eo103
     go_wp2_with (first | ((with_reducible refine gate_callee (f := 10) rfl ?_); refine goesL_ (some 135) rfl rfl Try.func10 (by kernel_rfl) rfl #[.slice Ao102 t316.length co102, .slice Ao103 t268.length co103] rfl (by (try simp only [List.map_toArray, List.map_cons, List.map_nil]); first | done | rfl | (simp only [List.length_drop, List.length_take]; rfl)) ?_; (with_reducible refine (laws_eqIntS.calls kj46 _ _ t316 _ _ t268 true _ ?side1 ?side2 ?side3 ?side4 A98.out).mono ?_); (case side1 => repeat (first | exact (Kd.R_reads' HO320.out).2.2 | (with_reducible refine Kd.C_alloc ?_ _) | (with_reducible refine Kd.C_drewN ?_ _) | (with_reducible refine Kd.C_drew ?_))); (case side2 => exact (Kd.R_reads' HO320.out).2.1); (case side3 => repeat (first | exact (Kd.R_reads' HO_9.out).2.2 | (with_reducible refine Kd.C_alloc ?_ _) | (with_reducible refine Kd.C_drewN ?_ _) | (with_reducible refine Kd.C_drew ?_))); (case side4 => exact (Kd.R_reads' HO_9.out).2.1); rintro e w' ⟨rfl, ⟨nd, rfl⟩⟩; refine ⟨_, rfl, ?_⟩; obtain ⟨Ao104, co104, eo104⟩ := Kd.R_slice HO322.out; subst eo104; obtain ⟨Ao105, co105, eo105⟩ := Kd.R_slice HO_10.out; subst eo105) | (go_at_call 10; (with_reducible refine (laws_eqIntS.calls kj46 _ _ t317 _ _ t269 true _ ?side1 ?side2 ?side3 ?side4 A100.out).mono ?_); (case side1 => repeat (first | exact (Kd.R_reads' HO322.out).2.2 | (with_reducible refine Kd.C_alloc ?_ _) | (with_reducible refine Kd.C_drewN ?_ _) | (with_reducible refine Kd.C_drew ?_))); (case side2 => exact (Kd.R_reads' HO322.out).2.1); (case side3 => repeat (first | exact (Kd.R_reads' HO_10.out).2.2 | (with_reducible refine Kd.C_alloc ?_ _) | (with_reducible refine Kd.C_drewN ?_ _) | (with_reducible refine Kd.C_drew ?_))); (case side4 => exact (Kd.R_reads' HO_10.out).2.1); rintro e w' ⟨rfl, ⟨nd, rfl⟩⟩))
     go_meet
     case rel => exact ⟨_, ((t318 != t270)), (by first | rfl | (simp; done) | (simp [*]; done)), H', ⟨by have := HJ12.out; have := HJ46.out; first | omega | exact Nat.le_refl _⟩, ⟨Kp.kpR (Kd.R_mono HO_14.out (fun _ hk => hk.1.1.1.1.2.2))⟩, ⟨Kp.kpR (Kd.R_mono HO_15.out (fun _ hk => hk.1.1.1.1.2.2))⟩, ⟨Kp.kpL HB.out⟩⟩
    replace c101 := Bool.eq_false_iff.mpr c101
    subst c101
    have H1 : (laws_FnExactBlocked.j2 kj46 t305 t307 t306 true) = some r := by rw [if_neg (show ¬ (false = true) by decide)] at H; exact H
    clear H
    have H := H1
    clear H1
    have H' := Kp.a H
    clear H
    obtain ⟨Ao106, co106, eo106⟩ := Kd.R_slice HO320.out
    subst eo106
    obtain ⟨Ao107, co107, eo107⟩ := Kd.R_slice HO_9.out
    subst eo107
    go_wp2_with (first | ((with_reducible refine gate_callee (f := 10) rfl ?_); refine goesL_ (some 135) rfl rfl Try.func10 (by kernel_rfl) rfl #[.slice Ao106 t316.length co106, .slice Ao107 t268.length co107] rfl (by (try simp only [List.map_toArray, List.map_cons, List.map_nil]); first | done | rfl | (simp only [List.length_drop, List.length_take]; rfl)) ?_; (with_reducible refine (laws_eqIntS.calls kj46 _ _ t316 _ _ t268 true _ ?side1 ?side2 ?side3 ?side4 A98.out).mono ?_); (case side1 => repeat (first | exact (Kd.R_reads' HO320.out).2.2 | (with_reducible refine Kd.C_alloc ?_ _) | (with_reducible refine Kd.C_drewN ?_ _) | (with_reducible refine Kd.C_drew ?_))); (case side2 => exact (Kd.R_reads' HO320.out).2.1); (case side3 => repeat (first | exact (Kd.R_reads' HO_9.out).2.2 | (with_reducible refine Kd.C_alloc ?_ _) | (with_reducible refine Kd.C_drewN ?_ _) | (with_reducible refine Kd.C_drew ?_))); (case side4 => exact (Kd.R_reads' HO_9.out).2.1); rintro e w' ⟨rfl, ⟨nd, rfl⟩⟩; refine ⟨_, rfl, ?_⟩; obtain ⟨Ao108, co108, eo108⟩ := Kd.R_slice HO322.out; subst eo108; obtain ⟨Ao109, co109, eo109⟩ := Kd.R_slice HO_10.out; subst eo109) | (go_at_call 10; (with_reducible refine (laws_eqIntS.calls kj46 _ _ t317 _ _ t269 false _ ?side1 ?side2 ?side3 ?side4 A100.out).mono ?_); (case side1 => repeat (first | exact (Kd.R_reads' HO322.out).2.2 | (with_reducible refine Kd.C_alloc ?_ _) | (with_reducible refine Kd.C_drewN ?_ _) | (with_reducible refine Kd.C_drew ?_))); (case side2 => exact (Kd.R_reads' HO322.out).2.1); (case side3 => repeat (first | exact (Kd.R_reads' HO_10.out).2.2 | (with_reducible refine Kd.C_alloc ?_ _) | (with_reducible refine Kd.C_drewN ?_ _) | (with_reducible refine Kd.C_drew ?_))); (case side4 => exact (Kd.R_reads' HO_10.out).2.1); rintro e w' ⟨rfl, ⟨nd, rfl⟩⟩))
    go_meet
    case rel => exact ⟨_, (true), (by first | rfl | (simp; done) | (simp [*]; done)), H', ⟨by have := HJ12.out; have := HJ46.out; first | omega | exact Nat.le_refl _⟩, ⟨Kp.kpR (Kd.R_mono HO_14.out (fun _ hk => hk.1.1.1.1.2.2))⟩, ⟨Kp.kpR (Kd.R_mono HO_15.out (fun _ hk => hk.1.1.1.1.2.2))⟩, ⟨Kp.kpL HB.out⟩⟩
   clear HC88
   try clear c1
   try clear c2
   try clear p2
   try clear c3
   try clear c4
   try clear c5
   try clear c5b0
   try clear c5b1
   try clear c6
   try clear c6b0
   try clear c6b1
   try clear c7
   try clear c8
   try clear c9
   try clear c10
   try clear c11
   try clear c15
   try clear c16
   try clear c17
   try clear c25
   try clear c27
   try clear c38
   try clear c41
   try clear c44
   try clear c54
   try clear c54b0
   try clear c56
   try clear c58
   try clear c69
   try clear c73
   try clear c73b0
   try clear c79
   try clear c79b0
   try clear c84
   try clear c84b0
   try clear c84b1
   try clear c99
   try clear c101
   try clear p2
   obtain ⟨kq, x147_87, rfl, HA, HJ87, HO_14, HO_15, HB⟩ := hcut
   have hl14_87 := (Kd.R_reads' HO_14.out).1
   rw [hl14_87] at HO_14
   (try simp only [hl14_87])
   (try simp only [hl14_87] at HO_15)
   have hl15_87 := (Kd.R_reads' HO_15.out).1
   rw [hl15_87] at HO_15
   (try simp only [hl15_87])
   (try simp only [hl15_87] at HO_14)
   cases kq with
   | zero => exact absurd HA.out (by simp [laws_FnExactBlocked.j2])
   | succ kj87 =>
    have H := HA.out
    clear HA
    simp only [laws_FnExactBlocked.j2] at H
    by_cases c112 : x147_87 = true
    ·subst c112
     have H1 : (some false) = some r := by rw [if_pos rfl] at H; exact H
     clear H
     have H := H1
     clear H1
     obtain rfl := Option.some.inj H
     go_wp2
     go_ret
     exact ⟨by first | rfl | (simp [errW_none, errW_some] <;> rfl) | (simp [*, errW_none, errW_some] <;> rfl), Kp.kpL HB.out⟩
    replace c112 := Bool.eq_false_iff.mpr c112
    subst c112
    have H1 : ((laws_heldIntS.f kj87 t305 1).bind fun t325 => (if t325 < 0 then (some false) else ((laws_heldIntS.f kj87 t307 t325).bind fun t326 => (if t326 < 0 then (some false) else (if t326 = t306 then (some true) else (some false)))))) = some r := by rw [if_neg (show ¬ (false = true) by decide)] at H; exact H
    clear H
    have H := H1
    clear H1
    replace H := Option.bind_eq_some_iff.mp H
    obtain ⟨t325, A1130, H⟩ := H
    replace H : (if t325 < 0 then (some false) else ((laws_heldIntS.f kj87 t307 t325).bind fun t326 => (if t326 < 0 then (some false) else (if t326 = t306 then (some true) else (some false))))) = some r := H
    have A113 := Kp.a A1130
    clear A1130
    by_cases c114 : t325 < 0
    ·rw [if_pos c114] at H
     have c114b0 : decide (t325 < 0) = true := decide_eq_true c114
     clear c114
     obtain rfl := Option.some.inj H
     go_wp2_with (first | ((with_reducible refine gate_callee (f := 17) rfl ?_); refine goesL_ (some 150) rfl rfl Try.func17 (by kernel_rfl) rfl #[.slice Ao89 t305.length co89, .int .i64 1] rfl (by (try simp only [List.map_toArray, List.map_cons, List.map_nil]); first | done | rfl | (simp only [List.length_drop, List.length_take]; rfl)) ?_; (with_reducible refine (laws_heldIntS.calls kj87 _ _ t305 1 t325 _ ?side1 ?side2 A113.out).mono ?_); (case side1 => repeat (first | exact (Kd.R_reads' HO_14.out).2.2 | (with_reducible refine Kd.C_alloc ?_ _) | (with_reducible refine Kd.C_drewN ?_ _) | (with_reducible refine Kd.C_drew ?_))); (case side2 => exact (Kd.R_reads' HO_14.out).2.1); rintro e w' ⟨rfl, ⟨nd, rfl⟩⟩; refine ⟨_, rfl, ?_⟩))
     go_ret
     exact ⟨by first | rfl | (simp [errW_none, errW_some] <;> rfl) | (simp [*, errW_none, errW_some] <;> rfl), Kp.kpL HB.out⟩
    rw [if_neg c114] at H
    have c114b0 : decide (t325 < 0) = false := decide_eq_false c114
    clear c114
    replace H := Option.bind_eq_some_iff.mp H
    obtain ⟨t326, A1150, H⟩ := H
    replace H : (if t326 < 0 then (some false) else (if t326 = t306 then (some true) else (some false))) = some r := H
    have A115 := Kp.a A1150
    clear A1150
    by_cases c116 : t326 < 0
    ·rw [if_pos c116] at H
     have c116b0 : decide (t326 < 0) = true := decide_eq_true c116
     clear c116
     obtain rfl := Option.some.inj H
     go_wp2_with (first | ((with_reducible refine gate_callee (f := 17) rfl ?_); refine goesL_ (some 150) rfl rfl Try.func17 (by kernel_rfl) rfl #[.slice Ao89 t305.length co89, .int .i64 1] rfl (by (try simp only [List.map_toArray, List.map_cons, List.map_nil]); first | done | rfl | (simp only [List.length_drop, List.length_take]; rfl)) ?_; (with_reducible refine (laws_heldIntS.calls kj87 _ _ t305 1 t325 _ ?side1 ?side2 A113.out).mono ?_); (case side1 => repeat (first | exact (Kd.R_reads' HO_14.out).2.2 | (with_reducible refine Kd.C_alloc ?_ _) | (with_reducible refine Kd.C_drewN ?_ _) | (with_reducible refine Kd.C_drew ?_))); (case side2 => exact (Kd.R_reads' HO_14.out).2.1); rintro e w' ⟨rfl, ⟨nd, rfl⟩⟩; refine ⟨_, rfl, ?_⟩) | ((with_reducible refine gate_callee (f := 17) rfl ?_); refine goesL_ (some 155) rfl rfl Try.func17 (by kernel_rfl) rfl #[.slice Ao91 t307.length co91, .int .i64 t325] rfl (by (try simp only [List.map_toArray, List.map_cons, List.map_nil]); first | done | rfl | (simp only [List.length_drop, List.length_take]; rfl)) ?_; (with_reducible refine (laws_heldIntS.calls kj87 _ _ t307 t325 t326 _ ?side1 ?side2 A115.out).mono ?_); (case side1 => repeat (first | exact (Kd.R_reads' HO_15.out).2.2 | (with_reducible refine Kd.C_alloc ?_ _) | (with_reducible refine Kd.C_drewN ?_ _) | (with_reducible refine Kd.C_drew ?_))); (case side2 => exact (Kd.R_reads' HO_15.out).2.1); rintro e w' ⟨rfl, ⟨nd, rfl⟩⟩; refine ⟨_, rfl, ?_⟩))
     go_ret
     exact ⟨by first | rfl | (simp [errW_none, errW_some] <;> rfl) | (simp [*, errW_none, errW_some] <;> rfl), Kp.kpL HB.out⟩
    rw [if_neg c116] at H
    have c116b0 : decide (t326 < 0) = false := decide_eq_false c116
    clear c116
    by_cases c117 : t326 = t306
    ·rw [if_pos c117] at H
     have c117b0 : (t326 == t306) = true := beq_iff_eq.mpr c117
     have c117b1 : (t326 != t306) = false := bne_eq_false_iff_eq.mpr c117
     clear c117
     obtain rfl := Option.some.inj H
     go_wp2_with (first | ((with_reducible refine gate_callee (f := 17) rfl ?_); refine goesL_ (some 150) rfl rfl Try.func17 (by kernel_rfl) rfl #[.slice Ao89 t305.length co89, .int .i64 1] rfl (by (try simp only [List.map_toArray, List.map_cons, List.map_nil]); first | done | rfl | (simp only [List.length_drop, List.length_take]; rfl)) ?_; (with_reducible refine (laws_heldIntS.calls kj87 _ _ t305 1 t325 _ ?side1 ?side2 A113.out).mono ?_); (case side1 => repeat (first | exact (Kd.R_reads' HO_14.out).2.2 | (with_reducible refine Kd.C_alloc ?_ _) | (with_reducible refine Kd.C_drewN ?_ _) | (with_reducible refine Kd.C_drew ?_))); (case side2 => exact (Kd.R_reads' HO_14.out).2.1); rintro e w' ⟨rfl, ⟨nd, rfl⟩⟩; refine ⟨_, rfl, ?_⟩) | ((with_reducible refine gate_callee (f := 17) rfl ?_); refine goesL_ (some 155) rfl rfl Try.func17 (by kernel_rfl) rfl #[.slice Ao91 t307.length co91, .int .i64 t325] rfl (by (try simp only [List.map_toArray, List.map_cons, List.map_nil]); first | done | rfl | (simp only [List.length_drop, List.length_take]; rfl)) ?_; (with_reducible refine (laws_heldIntS.calls kj87 _ _ t307 t325 t326 _ ?side1 ?side2 A115.out).mono ?_); (case side1 => repeat (first | exact (Kd.R_reads' HO_15.out).2.2 | (with_reducible refine Kd.C_alloc ?_ _) | (with_reducible refine Kd.C_drewN ?_ _) | (with_reducible refine Kd.C_drew ?_))); (case side2 => exact (Kd.R_reads' HO_15.out).2.1); rintro e w' ⟨rfl, ⟨nd, rfl⟩⟩; refine ⟨_, rfl, ?_⟩))
     go_ret
     exact ⟨by first | rfl | (simp [errW_none, errW_some] <;> rfl) | (simp [*, errW_none, errW_some] <;> rfl), Kp.kpL HB.out⟩
    rw [if_neg c117] at H
    have c117b0 : (t326 == t306) = false := beq_eq_false_iff_ne.mpr c117
    have c117b1 : (t326 != t306) = true := bne_iff_ne.mpr c117
    obtain rfl := Option.some.inj H
    go_wp2_with (first | ((with_reducible refine gate_callee (f := 17) rfl ?_); refine goesL_ (some 150) rfl rfl Try.func17 (by kernel_rfl) rfl #[.slice Ao89 t305.length co89, .int .i64 1] rfl (by (try simp only [List.map_toArray, List.map_cons, List.map_nil]); first | done | rfl | (simp only [List.length_drop, List.length_take]; rfl)) ?_; (with_reducible refine (laws_heldIntS.calls kj87 _ _ t305 1 t325 _ ?side1 ?side2 A113.out).mono ?_); (case side1 => repeat (first | exact (Kd.R_reads' HO_14.out).2.2 | (with_reducible refine Kd.C_alloc ?_ _) | (with_reducible refine Kd.C_drewN ?_ _) | (with_reducible refine Kd.C_drew ?_))); (case side2 => exact (Kd.R_reads' HO_14.out).2.1); rintro e w' ⟨rfl, ⟨nd, rfl⟩⟩; refine ⟨_, rfl, ?_⟩) | ((with_reducible refine gate_callee (f := 17) rfl ?_); refine goesL_ (some 155) rfl rfl Try.func17 (by kernel_rfl) rfl #[.slice Ao91 t307.length co91, .int .i64 t325] rfl (by (try simp only [List.map_toArray, List.map_cons, List.map_nil]); first | done | rfl | (simp only [List.length_drop, List.length_take]; rfl)) ?_; (with_reducible refine (laws_heldIntS.calls kj87 _ _ t307 t325 t326 _ ?side1 ?side2 A115.out).mono ?_); (case side1 => repeat (first | exact (Kd.R_reads' HO_15.out).2.2 | (with_reducible refine Kd.C_alloc ?_ _) | (with_reducible refine Kd.C_drewN ?_ _) | (with_reducible refine Kd.C_drew ?_))); (case side2 => exact (Kd.R_reads' HO_15.out).2.1); rintro e w' ⟨rfl, ⟨nd, rfl⟩⟩; refine ⟨_, rfl, ?_⟩))
    go_ret
    exact ⟨by first | rfl | (simp [errW_none, errW_some] <;> rfl) | (simp [*, errW_none, errW_some] <;> rfl), Kp.kpL HB.out⟩
def laws_FnExactBlocked.Pure : Prop := ∀ (l0 : List Int) (l1 : List Int) (a2 : Int) (a3 : Int), l0.length ≤ maxLen → l0.length * 8 ≤ 140737488351232 → (∀ x ∈ l0, (Lit.int .i64 x).wf = true) → l1.length ≤ maxLen → l1.length * 8 ≤ 140737488351232 → (∀ x ∈ l1, (Lit.int .i64 x).wf = true) → (Lit.int .i64 a2).wf = true → (Lit.int .i64 a3).wf = true → ∃ k, laws_FnExactBlocked.f k l0 l1 a2 a3 = some true
theorem laws_FnExactBlocked.walk (P : laws_FnExactBlocked.Pure) (a0 : Option Addr) (len0 cap0 : Nat) (z0 : List Int) (a1 : Option Addr) (len1 cap1 : Nat) (z1 : List Int) (a2 : Int) (a3 : Int) (w : World) (w0 : (a0 = none ∧ len0 = 0 ∧ cap0 = 0 ∧ z0 = []) ∨ ∃ x, a0 = some x ∧ len0 ≤ cap0 ∧ cap0 ≤ maxLen ∧ z0.length = cap0 ∧ (∀ i, i < z0.length → w.cell? (x.add i) = some (.int .i64 (z0.getD i 0))) ∧ ∀ n ∈ z0, (Lit.int .i64 n).wf = true) (y0 : len0 * 8 ≤ 140737488351232) (w1 : (a1 = none ∧ len1 = 0 ∧ cap1 = 0 ∧ z1 = []) ∨ ∃ x, a1 = some x ∧ len1 ≤ cap1 ∧ cap1 ≤ maxLen ∧ z1.length = cap1 ∧ (∀ i, i < z1.length → w.cell? (x.add i) = some (.int .i64 (z1.getD i 0))) ∧ ∀ n ∈ z1, (Lit.int .i64 n).wf = true) (y1 : len1 * 8 ≤ 140737488351232) (w2 : (Lit.int .i64 a2).wf = true) (w3 : (Lit.int .i64 a3).wf = true) :
  Calls Try.prog 5 #[.slice a0 len0 cap0, .slice a1 len1 cap1, .int .i64 a2, .int .i64 a3] w fun e w' => e = .returned (.bool true) ∧ Below w.heap.size w w' := by
 obtain ⟨l0, rfl, hr0, hm0, hw0, hc0⟩ := ReadsInt.ofRowC w0
 obtain ⟨l1, rfl, hr1, hm1, hw1, hc1⟩ := ReadsInt.ofRowC w1
 obtain ⟨k, h⟩ := P l0 l1 a2 a3 hm0 y0 hw0 hm1 y1 hw1 w2 w3
 refine (laws_FnExactBlocked.calls k _ _ l0 _ _ l1 a2 a3 true w (Kd.C_of_reads (d := (0 : Int)) (h1 := fun _ => rfl) hr0) hc0 (Kd.C_of_reads (d := (0 : Int)) (h1 := fun _ => rfl) hr1) hc1 h).mono ?_
 rintro e w' ⟨rfl, hd⟩
 exact ⟨rfl, hd⟩
end Go.Proofs.Ytkijhilmgljegaa.PB


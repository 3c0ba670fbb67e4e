import Derived.Test.YtgnhcdchpeeoaaaQWW0
import Derived.Test.YtgnhcdchpeeoaaaVWk
import Derived.Test.YtgnhcdchpeeoaaaQWW2
import Derived.Test.YtgnhcdchpeeoaaaQWW3
import Derived.Test.YtgnhcdchpeeoaaaQWW9
import Derived.Test.YtgnhcdchpeeoaaaQWW13
namespace Go.Proofs.Ytgnhcdchpeeoaaa.PW
open Go.RowKit Go.Proofs.YtgnhcdchpeeoaaaW.PrintWords Go.Proofs.YtgnhcdchpeeoaaaW.PrintLast Go.Proofs.YtgnhcdchpeeoaaaW.PrintMore
attribute [local go_sem] max2_int min2_int max_two min_two max_three min_three max_four min_four
set_option linter.unusedVariables false
set_option linter.unusedSimpArgs false
def laws_heldIntS.l0 : Nat → List Int → Int → Int → Option (Int)
 | 0, _, _, _ => none
 | k + 1, x0, x1, x5 => if x5 < (x0.length : Int) then (if 0 ≤ x5 then (if (rd x0 x5) = x1 then (laws_heldIntS.l0 k x0 (wrap64 (x1 + 1)) (wrap64 (x5 + 1))) else (some (-1))) else (none)) else (some x1)
def laws_heldIntS.f (k : Nat) (l0 : List Int) (a1 : Int) : Option (Int) := laws_heldIntS.l0 k l0 a1 0
set_option maxHeartbeats 8000000 in
set_option maxRecDepth 100000 in
theorem laws_heldIntS.calls (k : Nat) (A0 : Option Addr) (c0 : Nat) (l0 : List Int) (a1 : Int) (r : Int) (w : World) (hr0 : Kd.C (Kd.int .i64) w A0 l0.length l0) (hc0 : l0.length ≤ c0) (h : laws_heldIntS.f k l0 a1 = some r) :
  Calls Try.prog 48 #[.slice A0 l0.length c0, .int .i64 a1] w fun e w' => e = .returned (.int .i64 r) ∧ Drawn0 w w' := by
 have HR0 := Kp.a hr0
 have HC0 := Kp.a hc0
 clear hr0 hc0
 have H : (laws_heldIntS.l0 k l0 a1 0) = some r := h
 clear h
 have H' := Kp.a H
 clear H
 go_enter Try.func48, Try.ntmps48
 go_wp2
 go_loopg [1, 5] k (fun kq v1 v5 w' => ∃ (x1_1 : Int) (x5_1 : Int), v1 = .int .i64 x1_1 ∧ v5 = .int .i64 x5_1 ∧ Aside0 (laws_heldIntS.l0 kq l0 x1_1 x5_1 = some r) ∧ Aside0 (kq ≤ k) ∧ Drawn0 w w')
 case atStart => exact ⟨(a1), (0), (by first | rfl | (simp; done) | (simp [*]; done)), (by first | rfl | (simp; done) | (simp [*]; done)), H', ⟨Nat.le_refl _⟩, by repeat (first | exact Drawn0.refl _ | apply Drawn0.step)⟩
 case round =>
  clear H'
  try clear p2
  obtain ⟨x1_1, x5_1, rfl, rfl, HA, HK1, ⟨m1, rfl⟩⟩ := hrel
  cases gk with
  | zero => exact absurd HA.out (by simp [laws_heldIntS.l0])
  | succ k1 =>
   have H := HA.out
   clear HA
   simp only [laws_heldIntS.l0] at H
   by_cases c3 : x5_1 < (l0.length : Int)
   rotate_left
   ·rw [if_neg c3] at H
    have c3b0 : decide (x5_1 < (l0.length : Int)) = false := decide_eq_false c3
    clear c3
    obtain rfl := Option.some.inj H
    go_wp2
    go_ret
    exact ⟨by first | rfl | (simp; done) | (simp [*]; done), by repeat (first | exact Drawn0.refl _ | apply Drawn0.step)⟩
   rw [if_pos c3] at H
   have c3b0 : decide (x5_1 < (l0.length : Int)) = true := decide_eq_true c3
   clear c3
   by_cases c4 : 0 ≤ x5_1
   rotate_left
   ·rw [if_neg c4] at H
    exact absurd H (by simp)
   rw [if_pos c4] at H
   have c4b0 : decide (0 ≤ x5_1) = true := decide_eq_true c4
   clear c4
   by_cases c5 : (rd l0 x5_1) = x1_1
   rotate_left
   ·rw [if_neg c5] at H
    have c5b0 : ((rd l0 x5_1) == x1_1) = false := beq_eq_false_iff_ne.mpr c5
    have c5b1 : ((rd l0 x5_1) != x1_1) = true := bne_iff_ne.mpr c5
    obtain rfl := Option.some.inj H
    have p285 : 0 ≤ (x5_1 : Int) := Kp.d
    have q285 : x5_1 < (l0.length : Int) := Kp.d
    obtain ⟨ad285, e285, hx285_0⟩ := Kd.at_int HR0.out x5_1 p285 q285
    cases e285
    replace p285 := eq_true p285
    replace q285 := eq_true q285
    go_wp2
    go_ret
    exact ⟨by first | rfl | (simp; done) | (simp [*]; done), by repeat (first | exact Drawn0.refl _ | apply Drawn0.step)⟩
   rw [if_pos c5] at H
   have c5b0 : ((rd l0 x5_1) == x1_1) = true := beq_iff_eq.mpr c5
   have c5b1 : ((rd l0 x5_1) != x1_1) = false := bne_eq_false_iff_eq.mpr c5
   clear c5
   have H' := Kp.a H
   clear H
   have p285 : 0 ≤ (x5_1 : Int) := Kp.d
   have q285 : x5_1 < (l0.length : Int) := Kp.d
   obtain ⟨ad285, e285, hx285_0⟩ := Kd.at_int HR0.out x5_1 p285 q285
   cases e285
   replace p285 := eq_true p285
   replace q285 := eq_true q285
   go_wp2
   go_roundg k1
   case measure => have := HK1.out; omega
   case rel => exact ⟨(wrap64 (x1_1 + 1)), (wrap64 (x5_1 + 1)), (by first | rfl | (simp; done) | (simp [*]; done)), (by first | rfl | (simp; done) | (simp [*]; done)), H', ⟨by have := HK1.out; omega⟩, by repeat (first | exact Drawn0.refl _ | apply Drawn0.step)⟩
mutual
def laws_FnExactFlat.j0 : Nat → List (S49) → List Int → List Int → Int → List (S34) → List Int → List Int → Int → Bool → Option (Bool)
 | 0, _, _, _, _, _, _, _, _, _ => none
 | k + 1, x0, x4, x5, x6, x7, x8, x9, x10, x51 => if x51 = true then (some false) else ((laws_toPointS.f k x0).bind fun t309 => ((laws_eqPointS.f k x7 t309).bind fun t312 => (if t312 = true then ((laws_markPointS.f k x7 1).bind fun bt313 => (if bt313.1 < 0 then (laws_FnExactFlat.j1 k x0 x4 x5 x6 x8 x9 true) else ((laws_eqIntS.f k x8 x4).bind fun t315 => (if t315 = true then ((laws_eqIntS.f k x9 x5).bind fun t316 => (if t316 = true then (laws_FnExactFlat.j1 k x0 x4 x5 x6 x8 x9 (x10 != x6)) else (laws_FnExactFlat.j1 k x0 x4 x5 x6 x8 x9 true))) else (laws_FnExactFlat.j1 k x0 x4 x5 x6 x8 x9 true))))) else (some false))))
def laws_FnExactFlat.j1 : Nat → List (S49) → List Int → List Int → Int → List Int → List Int → Bool → Option (Bool)
 | 0, _, _, _, _, _, _, _ => none
 | k + 1, x0, x4, x5, x6, x8, x9, x78 => if x78 = true then (some false) else ((laws_markIntS.f k x8 1).bind fun bt317 => ((laws_markIntS.f k x9 bt317.1).bind fun bt319 => ((laws_heldIntS.f k bt317.2 1).bind fun t321 => (if t321 < 0 then (some false) else ((laws_heldIntS.f k bt319.2 t321).bind fun t322 => (if t322 < 0 then (some false) else (if t322 = bt319.1 then ((laws_toPointS.f k x0).bind fun t323 => ((impl_Flat.f k t323).bind fun bt326 => ((laws_eqIntS.f k bt326.1 x4).bind fun t333 => (if t333 = true then ((laws_eqIntS.f k bt326.2.1 x5).bind fun t334 => (if t334 = true then (laws_FnExactFlat.j2 k bt317.2 bt319.2 bt319.1 (bt326.2.2 != x6)) else (laws_FnExactFlat.j2 k bt317.2 bt319.2 bt319.1 true))) else (laws_FnExactFlat.j2 k bt317.2 bt319.2 bt319.1 true))))) else (some false))))))))
def laws_FnExactFlat.j2 : Nat → List Int → List Int → Int → Bool → Option (Bool)
 | 0, _, _, _, _ => none
 | k + 1, x8, x9, x12, x119 => if x119 = true then (some false) else ((laws_heldIntS.f k x8 1).bind fun t335 => (if t335 < 0 then (some false) else ((laws_heldIntS.f k x9 t335).bind fun t336 => (if t336 < 0 then (some false) else (if t336 = x12 then (some true) else (some false))))))
end
def laws_FnExactFlat.f (k : Nat) (l0 : List (S49)) : Option (Bool) := (laws_szPointS.f l0 1048576).bind fun t286 => (if t286 < 0 then (some true) else ((laws_toPointS.f k l0).bind fun t287 => ((spec_Flat.f k t287).bind fun bt290 => ((laws_toPointS.f k l0).bind fun t297 => ((impl_Flat.f k t297).bind fun bt300 => ((laws_eqIntS.f k bt300.1 bt290.1).bind fun t307 => (if t307 = true then ((laws_eqIntS.f k bt300.2.1 bt290.2.1).bind fun t308 => (if t308 = true then (laws_FnExactFlat.j0 k l0 bt290.1 bt290.2.1 bt290.2.2 t297 bt300.1 bt300.2.1 bt300.2.2 (bt300.2.2 != bt290.2.2)) else (laws_FnExactFlat.j0 k l0 bt290.1 bt290.2.1 bt290.2.2 t297 bt300.1 bt300.2.1 bt300.2.2 true))) else (laws_FnExactFlat.j0 k l0 bt290.1 bt290.2.1 bt290.2.2 t297 bt300.1 bt300.2.1 bt300.2.2 true))))))))
set_option maxHeartbeats 8000000 in
set_option maxRecDepth 100000 in
theorem laws_FnExactFlat.calls (k : Nat) (A0 : Option Addr) (c0 : Nat) (l0 : List (S49)) (r : Bool) (w : World) (hr0 : Kd.C k49 w A0 l0.length l0) (hc0 : l0.length ≤ c0) (h : laws_FnExactFlat.f k l0 = some r) :
  Calls Try.prog 11 #[.slice A0 l0.length c0] w fun e w' => e = .returned (.bool r) ∧ Below w.heap.size w w' := by
 have HR0 := Kp.a hr0
 have HC0 := Kp.a hc0
 clear hr0 hc0
 have HB := Kp.a (Below.refl w.heap.size w)
 have H : ((laws_szPointS.f l0 1048576).bind fun t286 => (if t286 < 0 then (some true) else ((laws_toPointS.f k l0).bind fun t287 => ((spec_Flat.f k t287).bind fun bt290 => ((laws_toPointS.f k l0).bind fun t297 => ((impl_Flat.f k t297).bind fun bt300 => ((laws_eqIntS.f k bt300.1 bt290.1).bind fun t307 => (if t307 = true then ((laws_eqIntS.f k bt300.2.1 bt290.2.1).bind fun t308 => (if t308 = true then (laws_FnExactFlat.j0 k l0 bt290.1 bt290.2.1 bt290.2.2 t297 bt300.1 bt300.2.1 bt300.2.2 (bt300.2.2 != bt290.2.2)) else (laws_FnExactFlat.j0 k l0 bt290.1 bt290.2.1 bt290.2.2 t297 bt300.1 bt300.2.1 bt300.2.2 true))) else (laws_FnExactFlat.j0 k l0 bt290.1 bt290.2.1 bt290.2.2 t297 bt300.1 bt300.2.1 bt300.2.2 true))))))))) = some r := h
 clear h
 replace H := Option.bind_eq_some_iff.mp H
 obtain ⟨t286, A20, H⟩ := H
 replace H : (if t286 < 0 then (some true) else ((laws_toPointS.f k l0).bind fun t287 => ((spec_Flat.f k t287).bind fun bt290 => ((laws_toPointS.f k l0).bind fun t297 => ((impl_Flat.f k t297).bind fun bt300 => ((laws_eqIntS.f k bt300.1 bt290.1).bind fun t307 => (if t307 = true then ((laws_eqIntS.f k bt300.2.1 bt290.2.1).bind fun t308 => (if t308 = true then (laws_FnExactFlat.j0 k l0 bt290.1 bt290.2.1 bt290.2.2 t297 bt300.1 bt300.2.1 bt300.2.2 (bt300.2.2 != bt290.2.2)) else (laws_FnExactFlat.j0 k l0 bt290.1 bt290.2.1 bt290.2.2 t297 bt300.1 bt300.2.1 bt300.2.2 true))) else (laws_FnExactFlat.j0 k l0 bt290.1 bt290.2.1 bt290.2.2 t297 bt300.1 bt300.2.1 bt300.2.2 true)))))))) = some r := H
 have A2 := Kp.a A20
 clear A20
 by_cases c3 : t286 < 0
 ·rw [if_pos c3] at H
  have c3b0 : decide (t286 < 0) = true := decide_eq_true c3
  clear c3
  obtain rfl := Option.some.inj H
  go_enter Try.func11, Try.ntmps11
  go_wp2_with (first | ((with_reducible refine gate_callee (f := 14) rfl ?_); refine goesL_ (some 19) rfl rfl Try.func14 (by kernel_rfl) rfl #[.slice A0 l0.length c0, .int .i64 1048576] rfl (by (try simp only [List.map_toArray, List.map_cons, List.map_nil]); first | done | rfl | (simp only [List.length_drop, List.length_take]; rfl)) ?_; (with_reducible refine (laws_szPointS.calls _ _ l0 1048576 t286 _ ?side1 ?side2 A2.out).mono ?_); (case side1 => repeat (first | exact HR0.out | (with_reducible refine Kd.C_alloc ?_ _) | (with_reducible refine Kd.C_drewN ?_ _) | (with_reducible refine Kd.C_drew ?_))); (case side2 => exact HC0.out); rintro e w' ⟨rfl, ⟨nd, rfl⟩⟩; refine ⟨_, rfl, ?_⟩))
  go_ret
  exact ⟨by first | rfl | (simp [errW_none, errW_some] <;> rfl) | (simp [*, errW_none, errW_some] <;> rfl), Kp.kpL HB.out⟩
 rw [if_neg c3] at H
 have c3b0 : decide (t286 < 0) = false := decide_eq_false c3
 clear c3
 replace H := Option.bind_eq_some_iff.mp H
 obtain ⟨t287, A40, H⟩ := H
 replace H : ((spec_Flat.f k t287).bind fun bt290 => ((laws_toPointS.f k l0).bind fun t297 => ((impl_Flat.f k t297).bind fun bt300 => ((laws_eqIntS.f k bt300.1 bt290.1).bind fun t307 => (if t307 = true then ((laws_eqIntS.f k bt300.2.1 bt290.2.1).bind fun t308 => (if t308 = true then (laws_FnExactFlat.j0 k l0 bt290.1 bt290.2.1 bt290.2.2 t297 bt300.1 bt300.2.1 bt300.2.2 (bt300.2.2 != bt290.2.2)) else (laws_FnExactFlat.j0 k l0 bt290.1 bt290.2.1 bt290.2.2 t297 bt300.1 bt300.2.1 bt300.2.2 true))) else (laws_FnExactFlat.j0 k l0 bt290.1 bt290.2.1 bt290.2.2 t297 bt300.1 bt300.2.1 bt300.2.2 true)))))) = some r := H
 have A4 := Kp.a A40
 clear A40
 replace H := Option.bind_eq_some_iff.mp H
 obtain ⟨⟨t290, t293, t296⟩, A50, H⟩ := H
 replace H : ((laws_toPointS.f k l0).bind fun t297 => ((impl_Flat.f k t297).bind fun bt300 => ((laws_eqIntS.f k bt300.1 t290).bind fun t307 => (if t307 = true then ((laws_eqIntS.f k bt300.2.1 t293).bind fun t308 => (if t308 = true then (laws_FnExactFlat.j0 k l0 t290 t293 t296 t297 bt300.1 bt300.2.1 bt300.2.2 (bt300.2.2 != t296)) else (laws_FnExactFlat.j0 k l0 t290 t293 t296 t297 bt300.1 bt300.2.1 bt300.2.2 true))) else (laws_FnExactFlat.j0 k l0 t290 t293 t296 t297 bt300.1 bt300.2.1 bt300.2.2 true))))) = some r := H
 have A5 := Kp.a A50
 clear A50
 replace H := Option.bind_eq_some_iff.mp H
 obtain ⟨t297, A60, H⟩ := H
 replace H : ((impl_Flat.f k t297).bind fun bt300 => ((laws_eqIntS.f k bt300.1 t290).bind fun t307 => (if t307 = true then ((laws_eqIntS.f k bt300.2.1 t293).bind fun t308 => (if t308 = true then (laws_FnExactFlat.j0 k l0 t290 t293 t296 t297 bt300.1 bt300.2.1 bt300.2.2 (bt300.2.2 != t296)) else (laws_FnExactFlat.j0 k l0 t290 t293 t296 t297 bt300.1 bt300.2.1 bt300.2.2 true))) else (laws_FnExactFlat.j0 k l0 t290 t293 t296 t297 bt300.1 bt300.2.1 bt300.2.2 true)))) = some r := H
 have A6 := Kp.a A60
 clear A60
 replace H := Option.bind_eq_some_iff.mp H
 obtain ⟨⟨t300, t301, t302⟩, A70, H⟩ := H
 replace H : ((laws_eqIntS.f k t300 t290).bind fun t307 => (if t307 = true then ((laws_eqIntS.f k t301 t293).bind fun t308 => (if t308 = true then (laws_FnExactFlat.j0 k l0 t290 t293 t296 t297 t300 t301 t302 (t302 != t296)) else (laws_FnExactFlat.j0 k l0 t290 t293 t296 t297 t300 t301 t302 true))) else (laws_FnExactFlat.j0 k l0 t290 t293 t296 t297 t300 t301 t302 true))) = some r := H
 have A7 := Kp.a A70
 clear A70
 have HC8 := Kp.a H
 clear H
 go_enter Try.func11, Try.ntmps11
 go_upto_region 8 with (first | ((with_reducible refine gate_callee (f := 14) rfl ?_); refine goesL_ (some 19) rfl rfl Try.func14 (by kernel_rfl) rfl #[.slice A0 l0.length c0, .int .i64 1048576] rfl (by (try simp only [List.map_toArray, List.map_cons, List.map_nil]); first | done | rfl | (simp only [List.length_drop, List.length_take]; rfl)) ?_; (with_reducible refine (laws_szPointS.calls _ _ l0 1048576 t286 _ ?side1 ?side2 A2.out).mono ?_); (case side1 => repeat (first | exact HR0.out | (with_reducible refine Kd.C_alloc ?_ _) | (with_reducible refine Kd.C_drewN ?_ _) | (with_reducible refine Kd.C_drew ?_))); (case side2 => exact HC0.out); rintro e w' ⟨rfl, ⟨nd, rfl⟩⟩; refine ⟨_, rfl, ?_⟩) | ((with_reducible refine gate_callee (f := 16) rfl ?_); refine goesL_ (some 24) rfl rfl Try.func16 (by kernel_rfl) rfl #[.slice A0 l0.length c0] rfl (by (try simp only [List.map_toArray, List.map_cons, List.map_nil]); first | done | rfl | (simp only [List.length_drop, List.length_take]; rfl)) ?_; (with_reducible refine (laws_toPointS.calls k _ _ l0 t287 _ ?side1 ?side2 A4.out).mono ?_); (case side1 => repeat (first | exact HR0.out | (with_reducible refine Kd.C_alloc ?_ _) | (with_reducible refine Kd.C_drewN ?_ _) | (with_reducible refine Kd.C_drew ?_))); (case side2 => exact HC0.out); rintro e w9 ⟨v288, rfl, ho0, hb⟩; refine ⟨_, rfl, ?_⟩; have n0_ := Kp.a (Kd.R_lower ho0 (below_size (Kp.kpL HB.out))); have n1_ := Kp.a (below_step (Kp.kpL HB.out) hb); clear HB; have HO289 := n0_; have HB := n1_; clear n0_ n1_; (try clear hb); (try clear hb2); (try clear hk); (try clear hi); (try clear ho0); obtain ⟨Ao10, co10, eo10⟩ := Kd.R_slice HO289.out; subst eo10) | ((with_reducible refine gate_callee (f := 46) rfl ?_); refine goesL_ (some 25) rfl rfl Try.func46 (by kernel_rfl) rfl #[.slice Ao10 t287.length co10] rfl (by (try simp only [List.map_toArray, List.map_cons, List.map_nil]); first | done | rfl | (simp only [List.length_drop, List.length_take]; rfl)) ?_; (with_reducible refine (spec_Flat.calls k _ _ t287 t290 t293 t296 _ ?side1 ?side2 A5.out).mono ?_); (case side1 => repeat (first | exact (Kd.R_reads' HO289.out).2.2 | (with_reducible refine Kd.C_alloc ?_ _) | (with_reducible refine Kd.C_drewN ?_ _) | (with_reducible refine Kd.C_drew ?_))); (case side2 => exact (Kd.R_reads' HO289.out).2.1); rintro e w11 ⟨v291, v294, rfl, ho0, ho1, hb⟩; refine ⟨_, rfl, ?_⟩; have n0_ := Kp.a (Kd.R_below (Kp.kpR HO289.out) hb); have n1_ := Kp.a (Kd.V_lower (Kd.V_mono (ok' := fun k_ => some k_ ≠ (.slice Ao10 t287.length co10 : Value).ownBlock) ho0 (fun k_ hk_ => (Kd.fresh' (Kd.R_lt (Kp.kpR HO289.out)) k_ hk_))) (below_size (Kp.kpL HB.out))); have n2_ := Kp.a (Kd.V_lower (Kd.V_mono (ok' := fun k_ => some k_ ≠ (.slice Ao10 t287.length co10 : Value).ownBlock) ho1 (fun k_ hk_ => (Kd.fresh' (Kd.R_lt (Kp.kpR HO289.out)) k_ hk_))) (below_size (Kp.kpL HB.out))); have n3_ := Kp.a (below_step (Kp.kpL HB.out) hb); clear HO289; clear HB; have HO289 := n0_; have HO292 := n1_; have HO295 := n2_; have HB := n3_; clear n0_ n1_ n2_ n3_; (try clear hb); (try clear hb2); (try clear hk); (try clear hi); (try clear ho0); (try clear ho1)) | ((with_reducible refine gate_callee (f := 16) rfl ?_); refine goesL_ (some 30) rfl rfl Try.func16 (by kernel_rfl) rfl #[.slice A0 l0.length c0] rfl (by (try simp only [List.map_toArray, List.map_cons, List.map_nil]); first | done | rfl | (simp only [List.length_drop, List.length_take]; rfl)) ?_; (with_reducible refine (laws_toPointS.calls k _ _ l0 t297 _ ?side1 ?side2 A6.out).mono ?_); (case side1 => repeat (first | exact (Kd.C_below HR0.out HB.out) | (with_reducible refine Kd.C_alloc ?_ _) | (with_reducible refine Kd.C_drewN ?_ _) | (with_reducible refine Kd.C_drew ?_))); (case side2 => exact HC0.out); rintro e w12 ⟨v298, rfl, ho0, hb⟩; refine ⟨_, rfl, ?_⟩; have n0_ := Kp.a (Kd.R_elder' (Kp.kpR HO289.out) (Kd.R_base ho0) hb); have n1_ := Kp.a (Kd.V_elder' (by (with_reducible repeat (first | apply Kd.V_alloc | apply Kd.V_drewN | apply Kd.V_drew)); exact HO292.out) (Kd.R_base ho0) hb); have n2_ := Kp.a (Kd.V_elder' (by (with_reducible repeat (first | apply Kd.V_alloc | apply Kd.V_drewN | apply Kd.V_drew)); exact HO295.out) (Kd.R_base ho0) hb); have n3_ := Kp.a (Kd.R_lower (Kd.R_new' ho0 (Kd.R_lt (Kp.kpR HO289.out))) (below_size (Kp.kpL HB.out))); have n4_ := Kp.a (below_step (Kp.kpL HB.out) hb); clear HO289; clear HO292; clear HO295; clear HB; have HO289 := n0_; have HO292 := n1_; have HO295 := n2_; have HO299 := n3_; have HB := n4_; clear n0_ n1_ n2_ n3_ n4_; (try clear hb); (try clear hb2); (try clear hk); (try clear hi); (try clear ho0); obtain ⟨Ao13, co13, eo13⟩ := Kd.R_slice HO299.out; subst eo13) | ((with_reducible refine gate_callee (f := 47) rfl ?_); refine goesL_ (some 33) rfl rfl Try.func47 (by kernel_rfl) rfl #[.slice Ao13 t297.length co13] rfl (by (try simp only [List.map_toArray, List.map_cons, List.map_nil]); first | done | rfl | (simp only [List.length_drop, List.length_take]; rfl)) ?_; (with_reducible refine (impl_Flat.calls k _ _ t297 t300 t301 t302 _ ?side1 ?side2 A7.out).mono ?_); (case side1 => repeat (first | exact (Kd.R_reads' HO299.out).2.2 | (with_reducible refine Kd.C_alloc ?_ _) | (with_reducible refine Kd.C_drewN ?_ _) | (with_reducible refine Kd.C_drew ?_))); (case side2 => exact (Kd.R_reads' HO299.out).2.1); rintro e w14 ⟨v303, v305, rfl, ho0, ho1, hb⟩; refine ⟨_, rfl, ?_⟩; have n0_ := Kp.a (Kd.R_below (Kp.kpR HO289.out) hb); have n1_ := Kp.a (Kd.V_mono (Kd.V_told (Kd.V_told (Kd.V_old (by (with_reducible repeat (first | apply Kd.V_alloc | apply Kd.V_drewN | apply Kd.V_drew)); exact HO292.out) hb) (Kd.R_base ho0)) (Kd.R_base ho1)) (fun _ h_ => h_.1)); have n2_ := Kp.a (Kd.V_mono (Kd.V_told (Kd.V_told (Kd.V_old (by (with_reducible repeat (first | apply Kd.V_alloc | apply Kd.V_drewN | apply Kd.V_drew)); exact HO295.out) hb) (Kd.R_base ho0)) (Kd.R_base ho1)) (fun _ h_ => h_.1)); have n3_ := Kp.a (Kd.R_below (Kp.kpR HO299.out) hb); have n4_ := Kp.a (Kd.R_lower ho0 (below_size (Kp.kpL HB.out))); have n5_ := Kp.a (Kd.R_lower ho1 (below_size (Kp.kpL HB.out))); have n6_ := Kp.a (below_step (Kp.kpL HB.out) hb); clear HO289; clear HO292; clear HO295; clear HO299; clear HB; have HO289 := n0_; have HO292 := n1_; have HO295 := n2_; have HO299 := n3_; have HO304 := n4_; have HO306 := n5_; have HB := n6_; clear n0_ n1_ n2_ n3_ n4_ n5_ n6_; (try clear hb); (try clear hb2); (try clear hk); (try clear hi); (try clear ho0); (try clear ho1)))
 (try simp only [Act.put, Kp.s0, Kp.s1, Kp.s2])
 go_cut [51] (fun v51 wc => ∃ (kq : Nat) (x51_7 : Bool), v51 = .bool x51_7 ∧ Aside0 (laws_FnExactFlat.j0 kq l0 t290 t293 t296 t297 t300 t301 t302 x51_7 = some r) ∧ Aside0 (kq ≤ k) ∧ Aside0 (Kd.V (Kd.int .i64) 3 wc w.heap.size (fun k_ => some k_ ≠ ((.slice Ao13 t297.length co13) : Value).ownBlock ∧ some k_ ≠ (v303 : Value).ownBlock ∧ some k_ ≠ (v305 : Value).ownBlock) v291 t290) ∧ Aside0 (Kd.V (Kd.int .i64) 3 wc w.heap.size (fun k_ => some k_ ≠ ((.slice Ao13 t297.length co13) : Value).ownBlock ∧ some k_ ≠ (v303 : Value).ownBlock ∧ some k_ ≠ (v305 : Value).ownBlock) v294 t293) ∧ Aside0 (Kd.R k34 34 wc w.heap.size (fun _ => True) (.slice Ao13 t297.length co13) t297) ∧ Aside0 (Kd.R (Kd.int .i64) 3 wc w.heap.size (fun k_ => some k_ ≠ (v305 : Value).ownBlock) v303 t300) ∧ Aside0 (Kd.R (Kd.int .i64) 3 wc w.heap.size (fun k_ => some k_ ≠ (v303 : Value).ownBlock) v305 t301) ∧ Aside0 (Below w.heap.size w wc))
 case first =>
  have H := HC8.out
  clear HC8
  replace H := Option.bind_eq_some_iff.mp H
  obtain ⟨t307, A150, H⟩ := H
  replace H : (if t307 = true then ((laws_eqIntS.f k t301 t293).bind fun t308 => (if t308 = true then (laws_FnExactFlat.j0 k l0 t290 t293 t296 t297 t300 t301 t302 (t302 != t296)) else (laws_FnExactFlat.j0 k l0 t290 t293 t296 t297 t300 t301 t302 true))) else (laws_FnExactFlat.j0 k l0 t290 t293 t296 t297 t300 t301 t302 true)) = some r := H
  have A15 := Kp.a A150
  clear A150
  by_cases c16 : t307 = true
  rotate_left
  ·replace c16 := Bool.eq_false_iff.mpr c16
   subst c16
   have H1 : (laws_FnExactFlat.j0 k l0 t290 t293 t296 t297 t300 t301 t302 true) = some r := by rw [if_neg (show ¬ (false = true) by decide)] at H; exact H
   clear H
   have H := H1
   clear H1
   have H' := Kp.a H
   clear H
   obtain ⟨Ao27, co27, eo27⟩ := Kd.R_slice HO304.out
   subst eo27
   obtain ⟨Ao28, co28, eo28⟩ := Kd.V_slice HO292.out
   subst eo28
   go_wp2_with (first | ((with_reducible refine gate_callee (f := 42) rfl ?_); refine goesL_ (some 39) rfl rfl Try.func42 (by kernel_rfl) rfl #[.slice Ao27 t300.length co27, .slice Ao28 t290.length co28] rfl (by (try simp only [List.map_toArray, List.map_cons, List.map_nil]); first | done | rfl | (simp only [List.length_drop, List.length_take]; rfl)) ?_; (with_reducible refine (laws_eqIntS.calls k _ _ t300 _ _ t290 false _ ?side1 ?side2 ?side3 ?side4 A15.out).mono ?_); (case side1 => repeat (first | exact (Kd.R_reads' HO304.out).2.2 | (with_reducible refine Kd.C_alloc ?_ _) | (with_reducible refine Kd.C_drewN ?_ _) | (with_reducible refine Kd.C_drew ?_))); (case side2 => exact (Kd.R_reads' HO304.out).2.1); (case side3 => repeat (first | exact (Kd.V_reads' HO292.out).2.2 | (with_reducible refine Kd.C_alloc ?_ _) | (with_reducible refine Kd.C_drewN ?_ _) | (with_reducible refine Kd.C_drew ?_))); (case side4 => exact (Kd.V_reads' HO292.out).2.1); rintro e w' ⟨rfl, ⟨nd, rfl⟩⟩; refine ⟨_, rfl, ?_⟩))
   go_meet
   case rel => exact ⟨_, (true), (by first | rfl | (simp; done) | (simp [*]; done)), H', ⟨by first | omega | exact Nat.le_refl _⟩, ⟨by (with_reducible repeat (first | apply Kd.V_alloc | apply Kd.V_drewN | apply Kd.V_drew)); exact Kd.V_mono HO292.out (fun _ hk => ⟨hk.1.1.2, ⟨hk.1.2, hk.2⟩⟩)⟩, ⟨by (with_reducible repeat (first | apply Kd.V_alloc | apply Kd.V_drewN | apply Kd.V_drew)); exact Kd.V_mono HO295.out (fun _ hk => ⟨hk.1.1.2, ⟨hk.1.2, hk.2⟩⟩)⟩, ⟨Kp.kpR (Kd.R_mono HO299.out (fun _ hk => trivial))⟩, ⟨Kp.kpR HO304.out⟩, ⟨Kp.kpR HO306.out⟩, ⟨Kp.kpL HB.out⟩⟩
  subst c16
  have H1 : ((laws_eqIntS.f k t301 t293).bind fun t308 => (if t308 = true then (laws_FnExactFlat.j0 k l0 t290 t293 t296 t297 t300 t301 t302 (t302 != t296)) else (laws_FnExactFlat.j0 k l0 t290 t293 t296 t297 t300 t301 t302 true))) = some r := by rw [if_pos rfl] at H; exact H
  clear H
  have H := H1
  clear H1
  replace H := Option.bind_eq_some_iff.mp H
  obtain ⟨t308, A170, H⟩ := H
  replace H : (if t308 = true then (laws_FnExactFlat.j0 k l0 t290 t293 t296 t297 t300 t301 t302 (t302 != t296)) else (laws_FnExactFlat.j0 k l0 t290 t293 t296 t297 t300 t301 t302 true)) = some r := H
  have A17 := Kp.a A170
  clear A170
  by_cases c18 : t308 = true
  ·subst c18
   have H1 : (laws_FnExactFlat.j0 k l0 t290 t293 t296 t297 t300 t301 t302 (t302 != t296)) = some r := by rw [if_pos rfl] at H; exact H
   clear H
   have H := H1
   clear H1
   have H' := Kp.a H
   clear H
   obtain ⟨Ao19, co19, eo19⟩ := Kd.R_slice HO304.out
   subst eo19
   obtain ⟨Ao20, co20, eo20⟩ := Kd.V_slice HO292.out
   subst eo20
   go_wp2_with (first | ((with_reducible refine gate_callee (f := 42) rfl ?_); refine goesL_ (some 39) rfl rfl Try.func42 (by kernel_rfl) rfl #[.slice Ao19 t300.length co19, .slice Ao20 t290.length co20] rfl (by (try simp only [List.map_toArray, List.map_cons, List.map_nil]); first | done | rfl | (simp only [List.length_drop, List.length_take]; rfl)) ?_; (with_reducible refine (laws_eqIntS.calls k _ _ t300 _ _ t290 true _ ?side1 ?side2 ?side3 ?side4 A15.out).mono ?_); (case side1 => repeat (first | exact (Kd.R_reads' HO304.out).2.2 | (with_reducible refine Kd.C_alloc ?_ _) | (with_reducible refine Kd.C_drewN ?_ _) | (with_reducible refine Kd.C_drew ?_))); (case side2 => exact (Kd.R_reads' HO304.out).2.1); (case side3 => repeat (first | exact (Kd.V_reads' HO292.out).2.2 | (with_reducible refine Kd.C_alloc ?_ _) | (with_reducible refine Kd.C_drewN ?_ _) | (with_reducible refine Kd.C_drew ?_))); (case side4 => exact (Kd.V_reads' HO292.out).2.1); rintro e w' ⟨rfl, ⟨nd, rfl⟩⟩; refine ⟨_, rfl, ?_⟩; obtain ⟨Ao21, co21, eo21⟩ := Kd.R_slice HO306.out; subst eo21; obtain ⟨Ao22, co22, eo22⟩ := Kd.V_slice HO295.out; subst eo22) | (go_at_call 42; (with_reducible refine (laws_eqIntS.calls k _ _ t301 _ _ t293 true _ ?side1 ?side2 ?side3 ?side4 A17.out).mono ?_); (case side1 => repeat (first | exact (Kd.R_reads' HO306.out).2.2 | (with_reducible refine Kd.C_alloc ?_ _) | (with_reducible refine Kd.C_drewN ?_ _) | (with_reducible refine Kd.C_drew ?_))); (case side2 => exact (Kd.R_reads' HO306.out).2.1); (case side3 => repeat (first | exact (Kd.V_reads' HO295.out).2.2 | (with_reducible refine Kd.C_alloc ?_ _) | (with_reducible refine Kd.C_drewN ?_ _) | (with_reducible refine Kd.C_drew ?_))); (case side4 => exact (Kd.V_reads' HO295.out).2.1); rintro e w' ⟨rfl, ⟨nd, rfl⟩⟩))
   go_meet
   case rel => exact ⟨_, ((t302 != t296)), (by first | rfl | (simp; done) | (simp [*]; done)), H', ⟨by first | omega | exact Nat.le_refl _⟩, ⟨by (with_reducible repeat (first | apply Kd.V_alloc | apply Kd.V_drewN | apply Kd.V_drew)); exact Kd.V_mono HO292.out (fun _ hk => ⟨hk.1.1.2, ⟨hk.1.2, hk.2⟩⟩)⟩, ⟨by (with_reducible repeat (first | apply Kd.V_alloc | apply Kd.V_drewN | apply Kd.V_drew)); exact Kd.V_mono HO295.out (fun _ hk => ⟨hk.1.1.2, ⟨hk.1.2, hk.2⟩⟩)⟩, ⟨Kp.kpR (Kd.R_mono HO299.out (fun _ hk => trivial))⟩, ⟨Kp.kpR HO304.out⟩, ⟨Kp.kpR HO306.out⟩, ⟨Kp.kpL HB.out⟩⟩
  replace c18 := Bool.eq_false_iff.mpr c18
  subst c18
  have H1 : (laws_FnExactFlat.j0 k l0 t290 t293 t296 t297 t300 t301 t302 true) = some r := by rw [if_neg (show ¬ (false = true) by decide)] at H; exact H
  clear H
  have H := H1
  clear H1
  have H' := Kp.a H
  clear H
  obtain ⟨Ao23, co23, eo23⟩ := Kd.R_slice HO304.out
  subst eo23
  obtain ⟨Ao24, co24, eo24⟩ := Kd.V_slice HO292.out
  subst eo24
  go_wp2_with (first | ((with_reducible refine gate_callee (f := 42) rfl ?_); refine goesL_ (some 39) rfl rfl Try.func42 (by kernel_rfl) rfl #[.slice Ao23 t300.length co23, .slice Ao24 t290.length co24] rfl (by (try simp only [List.map_toArray, List.map_cons, List.map_nil]); first | done | rfl | (simp only [List.length_drop, List.length_take]; rfl)) ?_; (with_reducible refine (laws_eqIntS.calls k _ _ t300 _ _ t290 true _ ?side1 ?side2 ?side3 ?side4 A15.out).mono ?_); (case side1 => repeat (first | exact (Kd.R_reads' HO304.out).2.2 | (with_reducible refine Kd.C_alloc ?_ _) | (with_reducible refine Kd.C_drewN ?_ _) | (with_reducible refine Kd.C_drew ?_))); (case side2 => exact (Kd.R_reads' HO304.out).2.1); (case side3 => repeat (first | exact (Kd.V_reads' HO292.out).2.2 | (with_reducible refine Kd.C_alloc ?_ _) | (with_reducible refine Kd.C_drewN ?_ _) | (with_reducible refine Kd.C_drew ?_))); (case side4 => exact (Kd.V_reads' HO292.out).2.1); rintro e w' ⟨rfl, ⟨nd, rfl⟩⟩; refine ⟨_, rfl, ?_⟩; obtain ⟨Ao25, co25, eo25⟩ := Kd.R_slice HO306.out; subst eo25; obtain ⟨Ao26, co26, eo26⟩ := Kd.V_slice HO295.out; subst eo26) | (go_at_call 42; (with_reducible refine (laws_eqIntS.calls k _ _ t301 _ _ t293 false _ ?side1 ?side2 ?side3 ?side4 A17.out).mono ?_); (case side1 => repeat (first | exact (Kd.R_reads' HO306.out).2.2 | (with_reducible refine Kd.C_alloc ?_ _) | (with_reducible refine Kd.C_drewN ?_ _) | (with_reducible refine Kd.C_drew ?_))); (case side2 => exact (Kd.R_reads' HO306.out).2.1); (case side3 => repeat (first | exact (Kd.V_reads' HO295.out).2.2 | (with_reducible refine Kd.C_alloc ?_ _) | (with_reducible refine Kd.C_drewN ?_ _) | (with_reducible refine Kd.C_drew ?_))); (case side4 => exact (Kd.V_reads' HO295.out).2.1); rintro e w' ⟨rfl, ⟨nd, rfl⟩⟩))
  go_meet
  case rel => exact ⟨_, (true), (by first | rfl | (simp; done) | (simp [*]; done)), H', ⟨by first | omega | exact Nat.le_refl _⟩, ⟨by (with_reducible repeat (first | apply Kd.V_alloc | apply Kd.V_drewN | apply Kd.V_drew)); exact Kd.V_mono HO292.out (fun _ hk => ⟨hk.1.1.2, ⟨hk.1.2, hk.2⟩⟩)⟩, ⟨by (with_reducible repeat (first | apply Kd.V_alloc | apply Kd.V_drewN | apply Kd.V_drew)); exact Kd.V_mono HO295.out (fun _ hk => ⟨hk.1.1.2, ⟨hk.1.2, hk.2⟩⟩)⟩, ⟨Kp.kpR (Kd.R_mono HO299.out (fun _ hk => trivial))⟩, ⟨Kp.kpR HO304.out⟩, ⟨Kp.kpR HO306.out⟩, ⟨Kp.kpL HB.out⟩⟩
 case rest =>
  clear HC8
  try clear c1
  try clear p2
  try clear c3
  try clear c3b0
  try clear c4
  try clear c11
  try clear c14
  try clear c16
  try clear c18
  obtain ⟨kq, x51_7, rfl, HA, HJ7, HO_4, HO_5, HO_7, HO_8, HO_9, HB⟩ := hcut
  cases kq with
  | zero => exact absurd HA.out (by simp [laws_FnExactFlat.j0])
  | succ kj7 =>
   have H := HA.out
   clear HA
   simp only [laws_FnExactFlat.j0] at H
   by_cases c29 : x51_7 = true
   ·subst c29
    have H1 : (some false) = some r := by rw [if_pos rfl] at H; exact H
    clear H
    have H := H1
    clear H1
    obtain rfl := Option.some.inj H
    go_wp2
    go_ret
    exact ⟨by first | rfl | (simp [errW_none, errW_some] <;> rfl) | (simp [*, errW_none, errW_some] <;> rfl), Kp.kpL HB.out⟩
   replace c29 := Bool.eq_false_iff.mpr c29
   subst c29
   have H1 : ((laws_toPointS.f kj7 l0).bind fun t309 => ((laws_eqPointS.f kj7 t297 t309).bind fun t312 => (if t312 = true then ((laws_markPointS.f kj7 t297 1).bind fun bt313 => (if bt313.1 < 0 then (laws_FnExactFlat.j1 kj7 l0 t290 t293 t296 t300 t301 true) else ((laws_eqIntS.f kj7 t300 t290).bind fun t315 => (if t315 = true then ((laws_eqIntS.f kj7 t301 t293).bind fun t316 => (if t316 = true then (laws_FnExactFlat.j1 kj7 l0 t290 t293 t296 t300 t301 (t302 != t296)) else (laws_FnExactFlat.j1 kj7 l0 t290 t293 t296 t300 t301 true))) else (laws_FnExactFlat.j1 kj7 l0 t290 t293 t296 t300 t301 true))))) else (some false)))) = some r := by rw [if_neg (show ¬ (false = true) by decide)] at H; exact H
   clear H
   have H := H1
   clear H1
   replace H := Option.bind_eq_some_iff.mp H
   obtain ⟨t309, A300, H⟩ := H
   replace H : ((laws_eqPointS.f kj7 t297 t309).bind fun t312 => (if t312 = true then ((laws_markPointS.f kj7 t297 1).bind fun bt313 => (if bt313.1 < 0 then (laws_FnExactFlat.j1 kj7 l0 t290 t293 t296 t300 t301 true) else ((laws_eqIntS.f kj7 t300 t290).bind fun t315 => (if t315 = true then ((laws_eqIntS.f kj7 t301 t293).bind fun t316 => (if t316 = true then (laws_FnExactFlat.j1 kj7 l0 t290 t293 t296 t300 t301 (t302 != t296)) else (laws_FnExactFlat.j1 kj7 l0 t290 t293 t296 t300 t301 true))) else (laws_FnExactFlat.j1 kj7 l0 t290 t293 t296 t300 t301 true))))) else (some false))) = some r := H
   have A30 := Kp.a A300
   clear A300
   replace H := Option.bind_eq_some_iff.mp H
   obtain ⟨t312, A310, H⟩ := H
   replace H : (if t312 = true then ((laws_markPointS.f kj7 t297 1).bind fun bt313 => (if bt313.1 < 0 then (laws_FnExactFlat.j1 kj7 l0 t290 t293 t296 t300 t301 true) else ((laws_eqIntS.f kj7 t300 t290).bind fun t315 => (if t315 = true then ((laws_eqIntS.f kj7 t301 t293).bind fun t316 => (if t316 = true then (laws_FnExactFlat.j1 kj7 l0 t290 t293 t296 t300 t301 (t302 != t296)) else (laws_FnExactFlat.j1 kj7 l0 t290 t293 t296 t300 t301 true))) else (laws_FnExactFlat.j1 kj7 l0 t290 t293 t296 t300 t301 true))))) else (some false)) = some r := H
   have A31 := Kp.a A310
   clear A310
   by_cases c32 : t312 = true
   rotate_left
   ·replace c32 := Bool.eq_false_iff.mpr c32
    subst c32
    have H1 : (some false) = some r := by rw [if_neg (show ¬ (false = true) by decide)] at H; exact H
    clear H
    have H := H1
    clear H1
    obtain rfl := Option.some.inj H
    go_wp2_with (first | ((with_reducible refine gate_callee (f := 16) rfl ?_); refine goesL_ (some 54) rfl rfl Try.func16 (by kernel_rfl) rfl #[.slice A0 l0.length c0] rfl (by (try simp only [List.map_toArray, List.map_cons, List.map_nil]); first | done | rfl | (simp only [List.length_drop, List.length_take]; rfl)) ?_; (with_reducible refine (laws_toPointS.calls kj7 _ _ l0 t309 _ ?side1 ?side2 A30.out).mono ?_); (case side1 => repeat (first | exact (Kd.C_below HR0.out HB.out) | (with_reducible refine Kd.C_alloc ?_ _) | (with_reducible refine Kd.C_drewN ?_ _) | (with_reducible refine Kd.C_drew ?_))); (case side2 => exact HC0.out); rintro e w104 ⟨v310, rfl, ho0, hb⟩; refine ⟨_, rfl, ?_⟩; have n0_ := Kp.a (Kd.V_elder' (by (with_reducible repeat (first | apply Kd.V_alloc | apply Kd.V_drewN | apply Kd.V_drew)); exact HO_4.out) (Kd.R_base ho0) hb); have n1_ := Kp.a (Kd.V_elder' (by (with_reducible repeat (first | apply Kd.V_alloc | apply Kd.V_drewN | apply Kd.V_drew)); exact HO_5.out) (Kd.R_base ho0) hb); have n2_ := Kp.a (Kd.R_elder' (Kp.kpR HO_7.out) (Kd.R_base ho0) hb); have n3_ := Kp.a (Kd.R_below (Kp.kpR HO_8.out) hb); have n4_ := Kp.a (Kd.R_below (Kp.kpR HO_9.out) hb); have n5_ := Kp.a (Kd.R_lower (Kd.R_new' ho0 (Kd.R_lt (Kp.kpR HO_7.out))) (below_size (Kp.kpL HB.out))); have n6_ := Kp.a (below_step (Kp.kpL HB.out) hb); clear HO_4; clear HO_5; clear HO_7; clear HO_8; clear HO_9; clear HB; have HO_4 := n0_; have HO_5 := n1_; have HO_7 := n2_; have HO_8 := n3_; have HO_9 := n4_; have HO311 := n5_; have HB := n6_; clear n0_ n1_ n2_ n3_ n4_ n5_ n6_; (try clear hb); (try clear hb2); (try clear hk); (try clear hi); (try clear ho0); obtain ⟨Ao105, co105, eo105⟩ := Kd.R_slice HO311.out; subst eo105) | ((with_reducible refine gate_callee (f := 18) rfl ?_); refine goesL_ (some 55) rfl rfl Try.func18 (by kernel_rfl) rfl #[.slice Ao13 t297.length co13, .slice Ao105 t309.length co105] rfl (by (try simp only [List.map_toArray, List.map_cons, List.map_nil]); first | done | rfl | (simp only [List.length_drop, List.length_take]; rfl)) ?_; (with_reducible refine (laws_eqPointS.calls kj7 _ _ t297 _ _ t309 false _ ?side1 ?side2 ?side3 ?side4 A31.out).mono ?_); (case side1 => repeat (first | exact (Kd.R_reads' HO_7.out).2.2 | (with_reducible refine Kd.C_alloc ?_ _) | (with_reducible refine Kd.C_drewN ?_ _) | (with_reducible refine Kd.C_drew ?_))); (case side2 => exact (Kd.R_reads' HO_7.out).2.1); (case side3 => repeat (first | exact (Kd.R_reads' HO311.out).2.2 | (with_reducible refine Kd.C_alloc ?_ _) | (with_reducible refine Kd.C_drewN ?_ _) | (with_reducible refine Kd.C_drew ?_))); (case side4 => exact (Kd.R_reads' HO311.out).2.1); rintro e w106 ⟨rfl, hb⟩; refine ⟨_, rfl, ?_⟩; have n0_ := Kp.a (Kd.V_below (by (with_reducible repeat (first | apply Kd.V_alloc | apply Kd.V_drewN | apply Kd.V_drew)); exact HO_4.out) hb); have n1_ := Kp.a (Kd.V_below (by (with_reducible repeat (first | apply Kd.V_alloc | apply Kd.V_drewN | apply Kd.V_drew)); exact HO_5.out) hb); have n2_ := Kp.a (Kd.R_below (Kp.kpR HO_7.out) hb); have n3_ := Kp.a (Kd.R_below (Kp.kpR HO_8.out) hb); have n4_ := Kp.a (Kd.R_below (Kp.kpR HO_9.out) hb); have n5_ := Kp.a (Kd.R_below (Kp.kpR HO311.out) hb); have n6_ := Kp.a (below_step (Kp.kpL HB.out) hb); clear HO_4; clear HO_5; clear HO_7; clear HO_8; clear HO_9; clear HO311; clear HB; have HO_4 := n0_; have HO_5 := n1_; have HO_7 := n2_; have HO_8 := n3_; have HO_9 := n4_; have HO311 := n5_; have HB := n6_; clear n0_ n1_ n2_ n3_ n4_ n5_ n6_; (try clear hb); (try clear hb2); (try clear hk); (try clear hi)))
    go_ret
    exact ⟨by first | rfl | (simp [errW_none, errW_some] <;> rfl) | (simp [*, errW_none, errW_some] <;> rfl), Kp.kpL HB.out⟩
   subst c32
   have H1 : ((laws_markPointS.f kj7 t297 1).bind fun bt313 => (if bt313.1 < 0 then (laws_FnExactFlat.j1 kj7 l0 t290 t293 t296 t300 t301 true) else ((laws_eqIntS.f kj7 t300 t290).bind fun t315 => (if t315 = true then ((laws_eqIntS.f kj7 t301 t293).bind fun t316 => (if t316 = true then (laws_FnExactFlat.j1 kj7 l0 t290 t293 t296 t300 t301 (t302 != t296)) else (laws_FnExactFlat.j1 kj7 l0 t290 t293 t296 t300 t301 true))) else (laws_FnExactFlat.j1 kj7 l0 t290 t293 t296 t300 t301 true))))) = some r := by rw [if_pos rfl] at H; exact H
   clear H
   have H := H1
   clear H1
   replace H := Option.bind_eq_some_iff.mp H
   obtain ⟨⟨t313, t314⟩, A330, H⟩ := H
   replace H : (if t313 < 0 then (laws_FnExactFlat.j1 kj7 l0 t290 t293 t296 t300 t301 true) else ((laws_eqIntS.f kj7 t300 t290).bind fun t315 => (if t315 = true then ((laws_eqIntS.f kj7 t301 t293).bind fun t316 => (if t316 = true then (laws_FnExactFlat.j1 kj7 l0 t290 t293 t296 t300 t301 (t302 != t296)) else (laws_FnExactFlat.j1 kj7 l0 t290 t293 t296 t300 t301 true))) else (laws_FnExactFlat.j1 kj7 l0 t290 t293 t296 t300 t301 true)))) = some r := H
   have A33 := Kp.a A330
   clear A330
   have HC34 := Kp.a H
   clear H
   go_upto_region 14 with (first | ((with_reducible refine gate_callee (f := 16) rfl ?_); refine goesL_ (some 54) rfl rfl Try.func16 (by kernel_rfl) rfl #[.slice A0 l0.length c0] rfl (by (try simp only [List.map_toArray, List.map_cons, List.map_nil]); first | done | rfl | (simp only [List.length_drop, List.length_take]; rfl)) ?_; (with_reducible refine (laws_toPointS.calls kj7 _ _ l0 t309 _ ?side1 ?side2 A30.out).mono ?_); (case side1 => repeat (first | exact (Kd.C_below HR0.out HB.out) | (with_reducible refine Kd.C_alloc ?_ _) | (with_reducible refine Kd.C_drewN ?_ _) | (with_reducible refine Kd.C_drew ?_))); (case side2 => exact HC0.out); rintro e w35 ⟨v310, rfl, ho0, hb⟩; refine ⟨_, rfl, ?_⟩; have n0_ := Kp.a (Kd.V_elder' (by (with_reducible repeat (first | apply Kd.V_alloc | apply Kd.V_drewN | apply Kd.V_drew)); exact HO_4.out) (Kd.R_base ho0) hb); have n1_ := Kp.a (Kd.V_elder' (by (with_reducible repeat (first | apply Kd.V_alloc | apply Kd.V_drewN | apply Kd.V_drew)); exact HO_5.out) (Kd.R_base ho0) hb); have n2_ := Kp.a (Kd.R_elder' (Kp.kpR HO_7.out) (Kd.R_base ho0) hb); have n3_ := Kp.a (Kd.R_below (Kp.kpR HO_8.out) hb); have n4_ := Kp.a (Kd.R_below (Kp.kpR HO_9.out) hb); have n5_ := Kp.a (Kd.R_lower (Kd.R_new' ho0 (Kd.R_lt (Kp.kpR HO_7.out))) (below_size (Kp.kpL HB.out))); have n6_ := Kp.a (below_step (Kp.kpL HB.out) hb); clear HO_4; clear HO_5; clear HO_7; clear HO_8; clear HO_9; clear HB; have HO_4 := n0_; have HO_5 := n1_; have HO_7 := n2_; have HO_8 := n3_; have HO_9 := n4_; have HO311 := n5_; have HB := n6_; clear n0_ n1_ n2_ n3_ n4_ n5_ n6_; (try clear hb); (try clear hb2); (try clear hk); (try clear hi); (try clear ho0); obtain ⟨Ao36, co36, eo36⟩ := Kd.R_slice HO311.out; subst eo36) | ((with_reducible refine gate_callee (f := 18) rfl ?_); refine goesL_ (some 55) rfl rfl Try.func18 (by kernel_rfl) rfl #[.slice Ao13 t297.length co13, .slice Ao36 t309.length co36] rfl (by (try simp only [List.map_toArray, List.map_cons, List.map_nil]); first | done | rfl | (simp only [List.length_drop, List.length_take]; rfl)) ?_; (with_reducible refine (laws_eqPointS.calls kj7 _ _ t297 _ _ t309 true _ ?side1 ?side2 ?side3 ?side4 A31.out).mono ?_); (case side1 => repeat (first | exact (Kd.R_reads' HO_7.out).2.2 | (with_reducible refine Kd.C_alloc ?_ _) | (with_reducible refine Kd.C_drewN ?_ _) | (with_reducible refine Kd.C_drew ?_))); (case side2 => exact (Kd.R_reads' HO_7.out).2.1); (case side3 => repeat (first | exact (Kd.R_reads' HO311.out).2.2 | (with_reducible refine Kd.C_alloc ?_ _) | (with_reducible refine Kd.C_drewN ?_ _) | (with_reducible refine Kd.C_drew ?_))); (case side4 => exact (Kd.R_reads' HO311.out).2.1); rintro e w37 ⟨rfl, hb⟩; refine ⟨_, rfl, ?_⟩; have n0_ := Kp.a (Kd.V_below (by (with_reducible repeat (first | apply Kd.V_alloc | apply Kd.V_drewN | apply Kd.V_drew)); exact HO_4.out) hb); have n1_ := Kp.a (Kd.V_below (by (with_reducible repeat (first | apply Kd.V_alloc | apply Kd.V_drewN | apply Kd.V_drew)); exact HO_5.out) hb); have n2_ := Kp.a (Kd.R_below (Kp.kpR HO_7.out) hb); have n3_ := Kp.a (Kd.R_below (Kp.kpR HO_8.out) hb); have n4_ := Kp.a (Kd.R_below (Kp.kpR HO_9.out) hb); have n5_ := Kp.a (Kd.R_below (Kp.kpR HO311.out) hb); have n6_ := Kp.a (below_step (Kp.kpL HB.out) hb); clear HO_4; clear HO_5; clear HO_7; clear HO_8; clear HO_9; clear HO311; clear HB; have HO_4 := n0_; have HO_5 := n1_; have HO_7 := n2_; have HO_8 := n3_; have HO_9 := n4_; have HO311 := n5_; have HB := n6_; clear n0_ n1_ n2_ n3_ n4_ n5_ n6_; (try clear hb); (try clear hb2); (try clear hk); (try clear hi)) | ((with_reducible refine gate_callee (f := 19) rfl ?_); refine goesL_ (some 59) rfl rfl Try.func19 (by kernel_rfl) rfl #[.slice Ao13 t297.length co13, .int .i64 1] rfl (by (try simp only [List.map_toArray, List.map_cons, List.map_nil]); first | done | rfl | (simp only [List.length_drop, List.length_take]; rfl)) ?_; (with_reducible refine (laws_markPointS.calls kj7 (fun k_ => some k_ = (.slice Ao13 t297.length co13 : Value).ownBlock) (.slice Ao13 t297.length co13) t297 1 t313 t314 w _ ?side1 ?side2 A33.out).mono ?_); (case side1 => repeat (first | (with_reducible first | exact HB.out | apply below_alloc | apply pw_below_drewN | apply below_drew1) | exact HB.out)); (case side2 => exact Kd.R_tight rfl HO_7.out); rintro e w38 ⟨rfl, hy0, hb, hkp⟩; refine ⟨_, rfl, ?_⟩; have n0_ := Kp.a (Kd.V_mono (ok' := fun k_ => some k_ ≠ (.slice Ao13 t297.length co13 : Value).ownBlock ∧ some k_ ≠ (v303 : Value).ownBlock ∧ some k_ ≠ (v305 : Value).ownBlock ∧ some k_ ≠ (.slice Ao36 t309.length co36 : Value).ownBlock) (Kd.V_keptB (HO_4.out) hkp (fun k_ hk_ hs_ => (hk_.1.1) hs_)) (fun k_ hk_ => ⟨hk_.1.1.1, hk_.1.1.2.1, hk_.1.1.2.2, hk_.1.2⟩)); have n1_ := Kp.a (Kd.V_mono (ok' := fun k_ => some k_ ≠ (.slice Ao13 t297.length co13 : Value).ownBlock ∧ some k_ ≠ (v303 : Value).ownBlock ∧ some k_ ≠ (v305 : Value).ownBlock ∧ some k_ ≠ (.slice Ao36 t309.length co36 : Value).ownBlock) (Kd.V_keptB (HO_5.out) hkp (fun k_ hk_ hs_ => (hk_.1.1) hs_)) (fun k_ hk_ => ⟨hk_.1.1.1, hk_.1.1.2.1, hk_.1.1.2.2, hk_.1.2⟩)); have n2_ := Kp.a (Kd.R_reok rfl hy0 (fun k_ e_ => HO_7.out.1 k_ e_)); have n3_ := Kp.a (Kd.R_mono (ok' := fun k_ => some k_ ≠ (v305 : Value).ownBlock) (Kd.R_keptB ((Kd.R_apart' HO_8.out (Kd.R_typed HO_7.out) (by decide))) hkp (fun k_ hk_ hs_ => (hk_.2) hs_)) (fun k_ hk_ => hk_.1.1)); have n4_ := Kp.a (Kd.R_mono (ok' := fun k_ => some k_ ≠ (v303 : Value).ownBlock) (Kd.R_keptB ((Kd.R_apart' HO_9.out (Kd.R_typed HO_7.out) (by decide))) hkp (fun k_ hk_ hs_ => (hk_.2) hs_)) (fun k_ hk_ => hk_.1.1)); have n5_ := Kp.a (Kd.R_mono (ok' := fun k_ => some k_ ≠ (.slice Ao13 t297.length co13 : Value).ownBlock) (Kd.R_keptB (HO311.out) hkp (fun k_ hk_ hs_ => (hk_.2) hs_)) (fun k_ hk_ => hk_.1.2)); have n6_ := Kp.a (hb); clear HO_4; clear HO_5; clear HO_7; clear HO_8; clear HO_9; clear HO311; clear HB; have HO_4 := n0_; have HO_5 := n1_; have HO_7 := n2_; have HO_8 := n3_; have HO_9 := n4_; have HO311 := n5_; have HB := n6_; clear n0_ n1_ n2_ n3_ n4_ n5_ n6_; (try clear hb); (try clear hkp); (try clear hy0)))
   (try simp only [Act.put, Kp.s0, Kp.s1, Kp.s2])
   go_cut [78] (fun v78 wc => ∃ (kq : Nat) (x78_33 : Bool), v78 = .bool x78_33 ∧ Aside0 (laws_FnExactFlat.j1 kq l0 t290 t293 t296 t300 t301 x78_33 = some r) ∧ Aside0 (kq ≤ kj7) ∧ Aside0 (Kd.V (Kd.int .i64) 3 wc w.heap.size (fun k_ => some k_ ≠ (v303 : Value).ownBlock ∧ some k_ ≠ (v305 : Value).ownBlock) v291 t290) ∧ Aside0 (Kd.V (Kd.int .i64) 3 wc w.heap.size (fun k_ => some k_ ≠ (v303 : Value).ownBlock ∧ some k_ ≠ (v305 : Value).ownBlock) v294 t293) ∧ Aside0 (Kd.R (Kd.int .i64) 3 wc w.heap.size (fun k_ => some k_ ≠ (v305 : Value).ownBlock) v303 t300) ∧ Aside0 (Kd.R (Kd.int .i64) 3 wc w.heap.size (fun k_ => some k_ ≠ (v303 : Value).ownBlock) v305 t301) ∧ Aside0 (Below w.heap.size w wc))
   case first =>
    have H := HC34.out
    clear HC34
    by_cases c39 : t313 < 0
    ·rw [if_pos c39] at H
     have c39b0 : decide (t313 < 0) = true := decide_eq_true c39
     clear c39
     (first | rw [c39b0] | (simp only [i64_w, i32_w]; rw [c39b0]) | skip)
     have H' := Kp.a H
     clear H
     go_wp2
     go_meet
     case rel => exact ⟨_, (true), (by first | rfl | (simp; done) | (simp [*]; done)), H', ⟨by have := HJ7.out; first | omega | exact Nat.le_refl _⟩, ⟨by (with_reducible repeat (first | apply Kd.V_alloc | apply Kd.V_drewN | apply Kd.V_drew)); exact Kd.V_mono HO_4.out (fun _ hk => ⟨hk.2.1, hk.2.2.1⟩)⟩, ⟨by (with_reducible repeat (first | apply Kd.V_alloc | apply Kd.V_drewN | apply Kd.V_drew)); exact Kd.V_mono HO_5.out (fun _ hk => ⟨hk.2.1, hk.2.2.1⟩)⟩, ⟨Kp.kpR HO_8.out⟩, ⟨Kp.kpR HO_9.out⟩, ⟨Kp.kpL HB.out⟩⟩
    rw [if_neg c39] at H
    have c39b0 : decide (t313 < 0) = false := decide_eq_false c39
    clear c39
    (first | rw [c39b0] | (simp only [i64_w, i32_w]; rw [c39b0]) | skip)
    replace H := Option.bind_eq_some_iff.mp H
    obtain ⟨t315, A400, H⟩ := H
    replace H : (if t315 = true then ((laws_eqIntS.f kj7 t301 t293).bind fun t316 => (if t316 = true then (laws_FnExactFlat.j1 kj7 l0 t290 t293 t296 t300 t301 (t302 != t296)) else (laws_FnExactFlat.j1 kj7 l0 t290 t293 t296 t300 t301 true))) else (laws_FnExactFlat.j1 kj7 l0 t290 t293 t296 t300 t301 true)) = some r := H
    have A40 := Kp.a A400
    clear A400
    by_cases c41 : t315 = true
    rotate_left
    ·replace c41 := Bool.eq_false_iff.mpr c41
     subst c41
     have H1 : (laws_FnExactFlat.j1 kj7 l0 t290 t293 t296 t300 t301 true) = some r := by rw [if_neg (show ¬ (false = true) by decide)] at H; exact H
     clear H
     have H := H1
     clear H1
     have H' := Kp.a H
     clear H
     obtain ⟨Ao52, co52, eo52⟩ := Kd.R_slice HO_8.out
     subst eo52
     obtain ⟨Ao53, co53, eo53⟩ := Kd.V_slice HO_4.out
     subst eo53
     go_wp2_with (first | (go_at_call 42; (with_reducible refine (laws_eqIntS.calls kj7 _ _ t300 _ _ t290 false _ ?side1 ?side2 ?side3 ?side4 A40.out).mono ?_); (case side1 => repeat (first | exact (Kd.R_reads' HO_8.out).2.2 | (with_reducible refine Kd.C_alloc ?_ _) | (with_reducible refine Kd.C_drewN ?_ _) | (with_reducible refine Kd.C_drew ?_))); (case side2 => exact (Kd.R_reads' HO_8.out).2.1); (case side3 => repeat (first | exact (Kd.V_reads' HO_4.out).2.2 | (with_reducible refine Kd.C_alloc ?_ _) | (with_reducible refine Kd.C_drewN ?_ _) | (with_reducible refine Kd.C_drew ?_))); (case side4 => exact (Kd.V_reads' HO_4.out).2.1); rintro e w' ⟨rfl, ⟨nd, rfl⟩⟩))
     go_meet
     case rel => exact ⟨_, (true), (by first | rfl | (simp; done) | (simp [*]; done)), H', ⟨by have := HJ7.out; first | omega | exact Nat.le_refl _⟩, ⟨by (with_reducible repeat (first | apply Kd.V_alloc | apply Kd.V_drewN | apply Kd.V_drew)); exact Kd.V_mono HO_4.out (fun _ hk => ⟨hk.2.1, hk.2.2.1⟩)⟩, ⟨by (with_reducible repeat (first | apply Kd.V_alloc | apply Kd.V_drewN | apply Kd.V_drew)); exact Kd.V_mono HO_5.out (fun _ hk => ⟨hk.2.1, hk.2.2.1⟩)⟩, ⟨Kp.kpR HO_8.out⟩, ⟨Kp.kpR HO_9.out⟩, ⟨Kp.kpL HB.out⟩⟩
    subst c41
    have H1 : ((laws_eqIntS.f kj7 t301 t293).bind fun t316 => (if t316 = true then (laws_FnExactFlat.j1 kj7 l0 t290 t293 t296 t300 t301 (t302 != t296)) else (laws_FnExactFlat.j1 kj7 l0 t290 t293 t296 t300 t301 true))) = some r := by rw [if_pos rfl] at H; exact H
    clear H
    have H := H1
    clear H1
    replace H := Option.bind_eq_some_iff.mp H
    obtain ⟨t316, A420, H⟩ := H
    replace H : (if t316 = true then (laws_FnExactFlat.j1 kj7 l0 t290 t293 t296 t300 t301 (t302 != t296)) else (laws_FnExactFlat.j1 kj7 l0 t290 t293 t296 t300 t301 true)) = some r := H
    have A42 := Kp.a A420
    clear A420
    by_cases c43 : t316 = true
    ·subst c43
     have H1 : (laws_FnExactFlat.j1 kj7 l0 t290 t293 t296 t300 t301 (t302 != t296)) = some r := by rw [if_pos rfl] at H; exact H
     clear H
     have H := H1
     clear H1
     have H' := Kp.a H
     clear H
     obtain ⟨Ao44, co44, eo44⟩ := Kd.R_slice HO_8.out
     subst eo44
     obtain ⟨Ao45, co45, eo45⟩ := Kd.V_slice HO_4.out
     subst eo45
     go_wp2_with (first | (go_at_call 42; (with_reducible refine (laws_eqIntS.calls kj7 _ _ t300 _ _ t290 true _ ?side1 ?side2 ?side3 ?side4 A40.out).mono ?_); (case side1 => repeat (first | exact (Kd.R_reads' HO_8.out).2.2 | (with_reducible refine Kd.C_alloc ?_ _) | (with_reducible refine Kd.C_drewN ?_ _) | (with_reducible refine Kd.C_drew ?_))); (case side2 => exact (Kd.R_reads' HO_8.out).2.1); (case side3 => repeat (first | exact (Kd.V_reads' HO_4.out).2.2 | (with_reducible refine Kd.C_alloc ?_ _) | (with_reducible refine Kd.C_drewN ?_ _) | (with_reducible refine Kd.C_drew ?_))); (case side4 => exact (Kd.V_reads' HO_4.out).2.1); rintro e w' ⟨rfl, ⟨nd, rfl⟩⟩; obtain ⟨Ao46, co46, eo46⟩ := Kd.R_slice HO_9.out; subst eo46; obtain ⟨Ao47, co47, eo47⟩ := Kd.V_slice HO_5.out; subst eo47) | (go_at_call 42; (with_reducible refine (laws_eqIntS.calls kj7 _ _ t301 _ _ t293 true _ ?side1 ?side2 ?side3 ?side4 A42.out).mono ?_); (case side1 => repeat (first | exact (Kd.R_reads' HO_9.out).2.2 | (with_reducible refine Kd.C_alloc ?_ _) | (with_reducible refine Kd.C_drewN ?_ _) | (with_reducible refine Kd.C_drew ?_))); (case side2 => exact (Kd.R_reads' HO_9.out).2.1); (case side3 => repeat (first | exact (Kd.V_reads' HO_5.out).2.2 | (with_reducible refine Kd.C_alloc ?_ _) | (with_reducible refine Kd.C_drewN ?_ _) | (with_reducible refine Kd.C_drew ?_))); (case side4 => exact (Kd.V_reads' HO_5.out).2.1); rintro e w' ⟨rfl, ⟨nd, rfl⟩⟩))
     go_meet
     case rel => exact ⟨_, ((t302 != t296)), (by first | rfl | (simp; done) | (simp [*]; done)), H', ⟨by have := HJ7.out; first | omega | exact Nat.le_refl _⟩, ⟨by (with_reducible repeat (first | apply Kd.V_alloc | apply Kd.V_drewN | apply Kd.V_drew)); exact Kd.V_mono HO_4.out (fun _ hk => ⟨hk.2.1, hk.2.2.1⟩)⟩, ⟨by (with_reducible repeat (first | apply Kd.V_alloc | apply Kd.V_drewN | apply Kd.V_drew)); exact Kd.V_mono HO_5.out (fun _ hk => ⟨hk.2.1, hk.2.2.1⟩)⟩, ⟨Kp.kpR HO_8.out⟩, ⟨Kp.kpR HO_9.out⟩, ⟨Kp.kpL HB.out⟩⟩
    replace c43 := Bool.eq_false_iff.mpr c43
    subst c43
    have H1 : (laws_FnExactFlat.j1 kj7 l0 t290 t293 t296 t300 t301 true) = some r := by rw [if_neg (show ¬ (false = true) by decide)] at H; exact H
    clear H
    have H := H1
    clear H1
    have H' := Kp.a H
    clear H
    obtain ⟨Ao48, co48, eo48⟩ := Kd.R_slice HO_8.out
    subst eo48
    obtain ⟨Ao49, co49, eo49⟩ := Kd.V_slice HO_4.out
    subst eo49
    go_wp2_with (first | (go_at_call 42; (with_reducible refine (laws_eqIntS.calls kj7 _ _ t300 _ _ t290 true _ ?side1 ?side2 ?side3 ?side4 A40.out).mono ?_); (case side1 => repeat (first | exact (Kd.R_reads' HO_8.out).2.2 | (with_reducible refine Kd.C_alloc ?_ _) | (with_reducible refine Kd.C_drewN ?_ _) | (with_reducible refine Kd.C_drew ?_))); (case side2 => exact (Kd.R_reads' HO_8.out).2.1); (case side3 => repeat (first | exact (Kd.V_reads' HO_4.out).2.2 | (with_reducible refine Kd.C_alloc ?_ _) | (with_reducible refine Kd.C_drewN ?_ _) | (with_reducible refine Kd.C_drew ?_))); (case side4 => exact (Kd.V_reads' HO_4.out).2.1); rintro e w' ⟨rfl, ⟨nd, rfl⟩⟩; obtain ⟨Ao50, co50, eo50⟩ := Kd.R_slice HO_9.out; subst eo50; obtain ⟨Ao51, co51, eo51⟩ := Kd.V_slice HO_5.out; subst eo51) | (go_at_call 42; (with_reducible refine (laws_eqIntS.calls kj7 _ _ t301 _ _ t293 false _ ?side1 ?side2 ?side3 ?side4 A42.out).mono ?_); (case side1 => repeat (first | exact (Kd.R_reads' HO_9.out).2.2 | (with_reducible refine Kd.C_alloc ?_ _) | (with_reducible refine Kd.C_drewN ?_ _) | (with_reducible refine Kd.C_drew ?_))); (case side2 => exact (Kd.R_reads' HO_9.out).2.1); (case side3 => repeat (first | exact (Kd.V_reads' HO_5.out).2.2 | (with_reducible refine Kd.C_alloc ?_ _) | (with_reducible refine Kd.C_drewN ?_ _) | (with_reducible refine Kd.C_drew ?_))); (case side4 => exact (Kd.V_reads' HO_5.out).2.1); rintro e w' ⟨rfl, ⟨nd, rfl⟩⟩))
    go_meet
    case rel => exact ⟨_, (true), (by first | rfl | (simp; done) | (simp [*]; done)), H', ⟨by have := HJ7.out; first | omega | exact Nat.le_refl _⟩, ⟨by (with_reducible repeat (first | apply Kd.V_alloc | apply Kd.V_drewN | apply Kd.V_drew)); exact Kd.V_mono HO_4.out (fun _ hk => ⟨hk.2.1, hk.2.2.1⟩)⟩, ⟨by (with_reducible repeat (first | apply Kd.V_alloc | apply Kd.V_drewN | apply Kd.V_drew)); exact Kd.V_mono HO_5.out (fun _ hk => ⟨hk.2.1, hk.2.2.1⟩)⟩, ⟨Kp.kpR HO_8.out⟩, ⟨Kp.kpR HO_9.out⟩, ⟨Kp.kpL HB.out⟩⟩
   case rest =>
    clear HC34
    try clear c1
    try clear c2
    try clear p2
    try clear c3
    try clear c3b0
    try clear c4
    try clear c11
    try clear c14
    try clear c16
    try clear c18
    try clear c19
    try clear c29
    try clear c32
    try clear c39
    try clear c39b0
    try clear c41
    try clear c42
    try clear c43
    try clear c46
    try clear c47
    try clear p2
    obtain ⟨kq, x78_33, rfl, HA, HJ33, HO_4, HO_5, HO_8, HO_9, HB⟩ := hcut
    cases kq with
    | zero => exact absurd HA.out (by simp [laws_FnExactFlat.j1])
    | succ kj33 =>
     have H := HA.out
     clear HA
     simp only [laws_FnExactFlat.j1] at H
     by_cases c54 : x78_33 = true
     ·subst c54
      have H1 : (some false) = some r := by rw [if_pos rfl] at H; exact H
      clear H
      have H := H1
      clear H1
      obtain rfl := Option.some.inj H
      go_wp2
      go_ret
      exact ⟨by first | rfl | (simp [errW_none, errW_some] <;> rfl) | (simp [*, errW_none, errW_some] <;> rfl), Kp.kpL HB.out⟩
     replace c54 := Bool.eq_false_iff.mpr c54
     subst c54
     have H1 : ((laws_markIntS.f kj33 t300 1).bind fun bt317 => ((laws_markIntS.f kj33 t301 bt317.1).bind fun bt319 => ((laws_heldIntS.f kj33 bt317.2 1).bind fun t321 => (if t321 < 0 then (some false) else ((laws_heldIntS.f kj33 bt319.2 t321).bind fun t322 => (if t322 < 0 then (some false) else (if t322 = bt319.1 then ((laws_toPointS.f kj33 l0).bind fun t323 => ((impl_Flat.f kj33 t323).bind fun bt326 => ((laws_eqIntS.f kj33 bt326.1 t290).bind fun t333 => (if t333 = true then ((laws_eqIntS.f kj33 bt326.2.1 t293).bind fun t334 => (if t334 = true then (laws_FnExactFlat.j2 kj33 bt317.2 bt319.2 bt319.1 (bt326.2.2 != t296)) else (laws_FnExactFlat.j2 kj33 bt317.2 bt319.2 bt319.1 true))) else (laws_FnExactFlat.j2 kj33 bt317.2 bt319.2 bt319.1 true))))) else (some false)))))))) = some r := by rw [if_neg (show ¬ (false = true) by decide)] at H; exact H
     clear H
     have H := H1
     clear H1
     replace H := Option.bind_eq_some_iff.mp H
     obtain ⟨⟨t317, t318⟩, A550, H⟩ := H
     replace H : ((laws_markIntS.f kj33 t301 t317).bind fun bt319 => ((laws_heldIntS.f kj33 t318 1).bind fun t321 => (if t321 < 0 then (some false) else ((laws_heldIntS.f kj33 bt319.2 t321).bind fun t322 => (if t322 < 0 then (some false) else (if t322 = bt319.1 then ((laws_toPointS.f kj33 l0).bind fun t323 => ((impl_Flat.f kj33 t323).bind fun bt326 => ((laws_eqIntS.f kj33 bt326.1 t290).bind fun t333 => (if t333 = true then ((laws_eqIntS.f kj33 bt326.2.1 t293).bind fun t334 => (if t334 = true then (laws_FnExactFlat.j2 kj33 t318 bt319.2 bt319.1 (bt326.2.2 != t296)) else (laws_FnExactFlat.j2 kj33 t318 bt319.2 bt319.1 true))) else (laws_FnExactFlat.j2 kj33 t318 bt319.2 bt319.1 true))))) else (some false))))))) = some r := H
     have A55 := Kp.a A550
     clear A550
     replace H := Option.bind_eq_some_iff.mp H
     obtain ⟨⟨t319, t320⟩, A560, H⟩ := H
     replace H : ((laws_heldIntS.f kj33 t318 1).bind fun t321 => (if t321 < 0 then (some false) else ((laws_heldIntS.f kj33 t320 t321).bind fun t322 => (if t322 < 0 then (some false) else (if t322 = t319 then ((laws_toPointS.f kj33 l0).bind fun t323 => ((impl_Flat.f kj33 t323).bind fun bt326 => ((laws_eqIntS.f kj33 bt326.1 t290).bind fun t333 => (if t333 = true then ((laws_eqIntS.f kj33 bt326.2.1 t293).bind fun t334 => (if t334 = true then (laws_FnExactFlat.j2 kj33 t318 t320 t319 (bt326.2.2 != t296)) else (laws_FnExactFlat.j2 kj33 t318 t320 t319 true))) else (laws_FnExactFlat.j2 kj33 t318 t320 t319 true))))) else (some false)))))) = some r := H
     have A56 := Kp.a A560
     clear A560
     replace H := Option.bind_eq_some_iff.mp H
     obtain ⟨t321, A570, H⟩ := H
     replace H : (if t321 < 0 then (some false) else ((laws_heldIntS.f kj33 t320 t321).bind fun t322 => (if t322 < 0 then (some false) else (if t322 = t319 then ((laws_toPointS.f kj33 l0).bind fun t323 => ((impl_Flat.f kj33 t323).bind fun bt326 => ((laws_eqIntS.f kj33 bt326.1 t290).bind fun t333 => (if t333 = true then ((laws_eqIntS.f kj33 bt326.2.1 t293).bind fun t334 => (if t334 = true then (laws_FnExactFlat.j2 kj33 t318 t320 t319 (bt326.2.2 != t296)) else (laws_FnExactFlat.j2 kj33 t318 t320 t319 true))) else (laws_FnExactFlat.j2 kj33 t318 t320 t319 true))))) else (some false))))) = some r := H
     have A57 := Kp.a A570
     clear A570
     by_cases c58 : t321 < 0
     ·rw [if_pos c58] at H
      have c58b0 : decide (t321 < 0) = true := decide_eq_true c58
      clear c58
      obtain rfl := Option.some.inj H
      obtain ⟨Ao59, co59, eo59⟩ := Kd.R_slice HO_8.out
      subst eo59
      go_wp2_with (first | ((with_reducible refine gate_callee (f := 43) rfl ?_); refine goesL_ (some 81) rfl rfl Try.func43 (by kernel_rfl) rfl #[.slice Ao59 t300.length co59, .int .i64 1] rfl (by (try simp only [List.map_toArray, List.map_cons, List.map_nil]); first | done | rfl | (simp only [List.length_drop, List.length_take]; rfl)) ?_; (with_reducible refine (laws_markIntS.calls kj33 (fun k_ => some k_ = (.slice Ao59 t300.length co59 : Value).ownBlock) (.slice Ao59 t300.length co59) t300 1 t317 t318 w _ ?side1 ?side2 A55.out).mono ?_); (case side1 => repeat (first | (with_reducible first | exact HB.out | apply below_alloc | apply pw_below_drewN | apply below_drew1) | exact HB.out)); (case side2 => exact Kd.R_tight rfl HO_8.out); rintro e w60 ⟨rfl, hy0, hb, hkp⟩; refine ⟨_, rfl, ?_⟩; have n0_ := Kp.a (Kd.V_mono (ok' := fun k_ => some k_ ≠ (.slice Ao59 t300.length co59 : Value).ownBlock ∧ some k_ ≠ (v305 : Value).ownBlock) (Kd.V_keptB (HO_4.out) hkp (fun k_ hk_ hs_ => (hk_.1) hs_)) (fun k_ hk_ => ⟨hk_.1.1, hk_.1.2⟩)); have n1_ := Kp.a (Kd.V_mono (ok' := fun k_ => some k_ ≠ (.slice Ao59 t300.length co59 : Value).ownBlock ∧ some k_ ≠ (v305 : Value).ownBlock) (Kd.V_keptB (HO_5.out) hkp (fun k_ hk_ hs_ => (hk_.1) hs_)) (fun k_ hk_ => ⟨hk_.1.1, hk_.1.2⟩)); have n2_ := Kp.a (Kd.R_reok rfl hy0 (fun k_ e_ => HO_8.out.1 k_ e_)); have n3_ := Kp.a (Kd.R_mono (ok' := fun k_ => some k_ ≠ (.slice Ao59 t300.length co59 : Value).ownBlock) (Kd.R_keptB (HO_9.out) hkp (fun k_ hk_ hs_ => (hk_) hs_)) (fun k_ hk_ => hk_.1)); have n4_ := Kp.a (hb); clear HO_4; clear HO_5; clear HO_8; clear HO_9; clear HB; have HO_4 := n0_; have HO_5 := n1_; have HO_8 := n2_; have HO_9 := n3_; have HB := n4_; clear n0_ n1_ n2_ n3_ n4_; (try clear hb); (try clear hkp); (try clear hy0); obtain ⟨Ao61, co61, eo61⟩ := Kd.R_slice HO_9.out; subst eo61) | ((with_reducible refine gate_callee (f := 43) rfl ?_); refine goesL_ (some 84) rfl rfl Try.func43 (by kernel_rfl) rfl #[.slice Ao61 t301.length co61, .int .i64 t317] rfl (by (try simp only [List.map_toArray, List.map_cons, List.map_nil]); first | done | rfl | (simp only [List.length_drop, List.length_take]; rfl)) ?_; (with_reducible refine (laws_markIntS.calls kj33 (fun k_ => some k_ = (.slice Ao61 t301.length co61 : Value).ownBlock) (.slice Ao61 t301.length co61) t301 t317 t319 t320 w _ ?side1 ?side2 A56.out).mono ?_); (case side1 => repeat (first | (with_reducible first | exact HB.out | apply below_alloc | apply pw_below_drewN | apply below_drew1) | exact HB.out)); (case side2 => exact Kd.R_tight rfl HO_9.out); rintro e w62 ⟨rfl, hy0, hb, hkp⟩; refine ⟨_, rfl, ?_⟩; have n0_ := Kp.a (Kd.V_mono (ok' := fun k_ => some k_ ≠ (.slice Ao59 t300.length co59 : Value).ownBlock ∧ some k_ ≠ (.slice Ao61 t301.length co61 : Value).ownBlock) (Kd.V_keptB (HO_4.out) hkp (fun k_ hk_ hs_ => (hk_.2) hs_)) (fun k_ hk_ => ⟨hk_.1.1, hk_.1.2⟩)); have n1_ := Kp.a (Kd.V_mono (ok' := fun k_ => some k_ ≠ (.slice Ao59 t300.length co59 : Value).ownBlock ∧ some k_ ≠ (.slice Ao61 t301.length co61 : Value).ownBlock) (Kd.V_keptB (HO_5.out) hkp (fun k_ hk_ hs_ => (hk_.2) hs_)) (fun k_ hk_ => ⟨hk_.1.1, hk_.1.2⟩)); have n2_ := Kp.a (Kd.R_mono (ok' := fun k_ => some k_ ≠ (.slice Ao61 t301.length co61 : Value).ownBlock) (Kd.R_keptB (HO_8.out) hkp (fun k_ hk_ hs_ => (hk_) hs_)) (fun k_ hk_ => hk_.1)); have n3_ := Kp.a (Kd.R_reok rfl hy0 (fun k_ e_ => HO_9.out.1 k_ e_)); have n4_ := Kp.a (hb); clear HO_4; clear HO_5; clear HO_8; clear HO_9; clear HB; have HO_4 := n0_; have HO_5 := n1_; have HO_8 := n2_; have HO_9 := n3_; have HB := n4_; clear n0_ n1_ n2_ n3_ n4_; (try clear hb); (try clear hkp); (try clear hy0)) | ((with_reducible refine gate_callee (f := 48) rfl ?_); refine goesL_ (some 87) rfl rfl Try.func48 (by kernel_rfl) rfl #[.slice Ao59 t318.length co59, .int .i64 1] rfl (by (try simp only [List.map_toArray, List.map_cons, List.map_nil]); first | done | (rw [show t318.length = t300.length from (Kd.R_reads' HO_8.out).1.symm] <;> rfl) | rfl | (simp only [List.length_drop, List.length_take]; rfl)) ?_; (with_reducible refine (laws_heldIntS.calls kj33 _ _ t318 1 t321 _ ?side1 ?side2 A57.out).mono ?_); (case side1 => repeat (first | exact (Kd.R_reads' HO_8.out).2.2 | (with_reducible refine Kd.C_alloc ?_ _) | (with_reducible refine Kd.C_drewN ?_ _) | (with_reducible refine Kd.C_drew ?_))); (case side2 => rw [show t318.length = t300.length from (Kd.R_reads' HO_8.out).1.symm]; exact (Kd.R_reads' HO_8.out).2.1); rintro e w' ⟨rfl, ⟨nd, rfl⟩⟩; refine ⟨_, rfl, ?_⟩))
      go_ret
      exact ⟨by first | rfl | (simp [errW_none, errW_some] <;> rfl) | (simp [*, errW_none, errW_some] <;> rfl), Kp.kpL HB.out⟩
     rw [if_neg c58] at H
     have c58b0 : decide (t321 < 0) = false := decide_eq_false c58
     clear c58
     replace H := Option.bind_eq_some_iff.mp H
     obtain ⟨t322, A630, H⟩ := H
     replace H : (if t322 < 0 then (some false) else (if t322 = t319 then ((laws_toPointS.f kj33 l0).bind fun t323 => ((impl_Flat.f kj33 t323).bind fun bt326 => ((laws_eqIntS.f kj33 bt326.1 t290).bind fun t333 => (if t333 = true then ((laws_eqIntS.f kj33 bt326.2.1 t293).bind fun t334 => (if t334 = true then (laws_FnExactFlat.j2 kj33 t318 t320 t319 (bt326.2.2 != t296)) else (laws_FnExactFlat.j2 kj33 t318 t320 t319 true))) else (laws_FnExactFlat.j2 kj33 t318 t320 t319 true))))) else (some false))) = some r := H
     have A63 := Kp.a A630
     clear A630
     by_cases c64 : t322 < 0
     ·rw [if_pos c64] at H
      have c64b0 : decide (t322 < 0) = true := decide_eq_true c64
      clear c64
      obtain rfl := Option.some.inj H
      obtain ⟨Ao65, co65, eo65⟩ := Kd.R_slice HO_8.out
      subst eo65
      go_wp2_with (first | ((with_reducible refine gate_callee (f := 43) rfl ?_); refine goesL_ (some 81) rfl rfl Try.func43 (by kernel_rfl) rfl #[.slice Ao65 t300.length co65, .int .i64 1] rfl (by (try simp only [List.map_toArray, List.map_cons, List.map_nil]); first | done | rfl | (simp only [List.length_drop, List.length_take]; rfl)) ?_; (with_reducible refine (laws_markIntS.calls kj33 (fun k_ => some k_ = (.slice Ao65 t300.length co65 : Value).ownBlock) (.slice Ao65 t300.length co65) t300 1 t317 t318 w _ ?side1 ?side2 A55.out).mono ?_); (case side1 => repeat (first | (with_reducible first | exact HB.out | apply below_alloc | apply pw_below_drewN | apply below_drew1) | exact HB.out)); (case side2 => exact Kd.R_tight rfl HO_8.out); rintro e w66 ⟨rfl, hy0, hb, hkp⟩; refine ⟨_, rfl, ?_⟩; have n0_ := Kp.a (Kd.V_mono (ok' := fun k_ => some k_ ≠ (.slice Ao65 t300.length co65 : Value).ownBlock ∧ some k_ ≠ (v305 : Value).ownBlock) (Kd.V_keptB (HO_4.out) hkp (fun k_ hk_ hs_ => (hk_.1) hs_)) (fun k_ hk_ => ⟨hk_.1.1, hk_.1.2⟩)); have n1_ := Kp.a (Kd.V_mono (ok' := fun k_ => some k_ ≠ (.slice Ao65 t300.length co65 : Value).ownBlock ∧ some k_ ≠ (v305 : Value).ownBlock) (Kd.V_keptB (HO_5.out) hkp (fun k_ hk_ hs_ => (hk_.1) hs_)) (fun k_ hk_ => ⟨hk_.1.1, hk_.1.2⟩)); have n2_ := Kp.a (Kd.R_reok rfl hy0 (fun k_ e_ => HO_8.out.1 k_ e_)); have n3_ := Kp.a (Kd.R_mono (ok' := fun k_ => some k_ ≠ (.slice Ao65 t300.length co65 : Value).ownBlock) (Kd.R_keptB (HO_9.out) hkp (fun k_ hk_ hs_ => (hk_) hs_)) (fun k_ hk_ => hk_.1)); have n4_ := Kp.a (hb); clear HO_4; clear HO_5; clear HO_8; clear HO_9; clear HB; have HO_4 := n0_; have HO_5 := n1_; have HO_8 := n2_; have HO_9 := n3_; have HB := n4_; clear n0_ n1_ n2_ n3_ n4_; (try clear hb); (try clear hkp); (try clear hy0); obtain ⟨Ao67, co67, eo67⟩ := Kd.R_slice HO_9.out; subst eo67) | ((with_reducible refine gate_callee (f := 43) rfl ?_); refine goesL_ (some 84) rfl rfl Try.func43 (by kernel_rfl) rfl #[.slice Ao67 t301.length co67, .int .i64 t317] rfl (by (try simp only [List.map_toArray, List.map_cons, List.map_nil]); first | done | rfl | (simp only [List.length_drop, List.length_take]; rfl)) ?_; (with_reducible refine (laws_markIntS.calls kj33 (fun k_ => some k_ = (.slice Ao67 t301.length co67 : Value).ownBlock) (.slice Ao67 t301.length co67) t301 t317 t319 t320 w _ ?side1 ?side2 A56.out).mono ?_); (case side1 => repeat (first | (with_reducible first | exact HB.out | apply below_alloc | apply pw_below_drewN | apply below_drew1) | exact HB.out)); (case side2 => exact Kd.R_tight rfl HO_9.out); rintro e w68 ⟨rfl, hy0, hb, hkp⟩; refine ⟨_, rfl, ?_⟩; have n0_ := Kp.a (Kd.V_mono (ok' := fun k_ => some k_ ≠ (.slice Ao65 t300.length co65 : Value).ownBlock ∧ some k_ ≠ (.slice Ao67 t301.length co67 : Value).ownBlock) (Kd.V_keptB (HO_4.out) hkp (fun k_ hk_ hs_ => (hk_.2) hs_)) (fun k_ hk_ => ⟨hk_.1.1, hk_.1.2⟩)); have n1_ := Kp.a (Kd.V_mono (ok' := fun k_ => some k_ ≠ (.slice Ao65 t300.length co65 : Value).ownBlock ∧ some k_ ≠ (.slice Ao67 t301.length co67 : Value).ownBlock) (Kd.V_keptB (HO_5.out) hkp (fun k_ hk_ hs_ => (hk_.2) hs_)) (fun k_ hk_ => ⟨hk_.1.1, hk_.1.2⟩)); have n2_ := Kp.a (Kd.R_mono (ok' := fun k_ => some k_ ≠ (.slice Ao67 t301.length co67 : Value).ownBlock) (Kd.R_keptB (HO_8.out) hkp (fun k_ hk_ hs_ => (hk_) hs_)) (fun k_ hk_ => hk_.1)); have n3_ := Kp.a (Kd.R_reok rfl hy0 (fun k_ e_ => HO_9.out.1 k_ e_)); have n4_ := Kp.a (hb); clear HO_4; clear HO_5; clear HO_8; clear HO_9; clear HB; have HO_4 := n0_; have HO_5 := n1_; have HO_8 := n2_; have HO_9 := n3_; have HB := n4_; clear n0_ n1_ n2_ n3_ n4_; (try clear hb); (try clear hkp); (try clear hy0)) | ((with_reducible refine gate_callee (f := 48) rfl ?_); refine goesL_ (some 87) rfl rfl Try.func48 (by kernel_rfl) rfl #[.slice Ao65 t318.length co65, .int .i64 1] rfl (by (try simp only [List.map_toArray, List.map_cons, List.map_nil]); first | done | (rw [show t318.length = t300.length from (Kd.R_reads' HO_8.out).1.symm] <;> rfl) | rfl | (simp only [List.length_drop, List.length_take]; rfl)) ?_; (with_reducible refine (laws_heldIntS.calls kj33 _ _ t318 1 t321 _ ?side1 ?side2 A57.out).mono ?_); (case side1 => repeat (first | exact (Kd.R_reads' HO_8.out).2.2 | (with_reducible refine Kd.C_alloc ?_ _) | (with_reducible refine Kd.C_drewN ?_ _) | (with_reducible refine Kd.C_drew ?_))); (case side2 => rw [show t318.length = t300.length from (Kd.R_reads' HO_8.out).1.symm]; exact (Kd.R_reads' HO_8.out).2.1); rintro e w' ⟨rfl, ⟨nd, rfl⟩⟩; refine ⟨_, rfl, ?_⟩) | ((with_reducible refine gate_callee (f := 48) rfl ?_); refine goesL_ (some 92) rfl rfl Try.func48 (by kernel_rfl) rfl #[.slice Ao67 t320.length co67, .int .i64 t321] rfl (by (try simp only [List.map_toArray, List.map_cons, List.map_nil]); first | done | (rw [show t320.length = t301.length from (Kd.R_reads' HO_9.out).1.symm] <;> rfl) | rfl | (simp only [List.length_drop, List.length_take]; rfl)) ?_; (with_reducible refine (laws_heldIntS.calls kj33 _ _ t320 t321 t322 _ ?side1 ?side2 A63.out).mono ?_); (case side1 => repeat (first | exact (Kd.R_reads' HO_9.out).2.2 | (with_reducible refine Kd.C_alloc ?_ _) | (with_reducible refine Kd.C_drewN ?_ _) | (with_reducible refine Kd.C_drew ?_))); (case side2 => rw [show t320.length = t301.length from (Kd.R_reads' HO_9.out).1.symm]; exact (Kd.R_reads' HO_9.out).2.1); rintro e w' ⟨rfl, ⟨nd, rfl⟩⟩; refine ⟨_, rfl, ?_⟩))
      go_ret
      exact ⟨by first | rfl | (simp [errW_none, errW_some] <;> rfl) | (simp [*, errW_none, errW_some] <;> rfl), Kp.kpL HB.out⟩
     rw [if_neg c64] at H
     have c64b0 : decide (t322 < 0) = false := decide_eq_false c64
     clear c64
     by_cases c69 : t322 = t319
     rotate_left
     ·rw [if_neg c69] at H
      have c69b0 : (t322 == t319) = false := beq_eq_false_iff_ne.mpr c69
      have c69b1 : (t322 != t319) = true := bne_iff_ne.mpr c69
      obtain rfl := Option.some.inj H
      obtain ⟨Ao100, co100, eo100⟩ := Kd.R_slice HO_8.out
      subst eo100
      go_wp2_with (first | ((with_reducible refine gate_callee (f := 43) rfl ?_); refine goesL_ (some 81) rfl rfl Try.func43 (by kernel_rfl) rfl #[.slice Ao100 t300.length co100, .int .i64 1] rfl (by (try simp only [List.map_toArray, List.map_cons, List.map_nil]); first | done | rfl | (simp only [List.length_drop, List.length_take]; rfl)) ?_; (with_reducible refine (laws_markIntS.calls kj33 (fun k_ => some k_ = (.slice Ao100 t300.length co100 : Value).ownBlock) (.slice Ao100 t300.length co100) t300 1 t317 t318 w _ ?side1 ?side2 A55.out).mono ?_); (case side1 => repeat (first | (with_reducible first | exact HB.out | apply below_alloc | apply pw_below_drewN | apply below_drew1) | exact HB.out)); (case side2 => exact Kd.R_tight rfl HO_8.out); rintro e w101 ⟨rfl, hy0, hb, hkp⟩; refine ⟨_, rfl, ?_⟩; have n0_ := Kp.a (Kd.V_mono (ok' := fun k_ => some k_ ≠ (.slice Ao100 t300.length co100 : Value).ownBlock ∧ some k_ ≠ (v305 : Value).ownBlock) (Kd.V_keptB (HO_4.out) hkp (fun k_ hk_ hs_ => (hk_.1) hs_)) (fun k_ hk_ => ⟨hk_.1.1, hk_.1.2⟩)); have n1_ := Kp.a (Kd.V_mono (ok' := fun k_ => some k_ ≠ (.slice Ao100 t300.length co100 : Value).ownBlock ∧ some k_ ≠ (v305 : Value).ownBlock) (Kd.V_keptB (HO_5.out) hkp (fun k_ hk_ hs_ => (hk_.1) hs_)) (fun k_ hk_ => ⟨hk_.1.1, hk_.1.2⟩)); have n2_ := Kp.a (Kd.R_reok rfl hy0 (fun k_ e_ => HO_8.out.1 k_ e_)); have n3_ := Kp.a (Kd.R_mono (ok' := fun k_ => some k_ ≠ (.slice Ao100 t300.length co100 : Value).ownBlock) (Kd.R_keptB (HO_9.out) hkp (fun k_ hk_ hs_ => (hk_) hs_)) (fun k_ hk_ => hk_.1)); have n4_ := Kp.a (hb); clear HO_4; clear HO_5; clear HO_8; clear HO_9; clear HB; have HO_4 := n0_; have HO_5 := n1_; have HO_8 := n2_; have HO_9 := n3_; have HB := n4_; clear n0_ n1_ n2_ n3_ n4_; (try clear hb); (try clear hkp); (try clear hy0); obtain ⟨Ao102, co102, eo102⟩ := Kd.R_slice HO_9.out; subst eo102) | ((with_reducible refine gate_callee (f := 43) rfl ?_); refine goesL_ (some 84) rfl rfl Try.func43 (by kernel_rfl) rfl #[.slice Ao102 t301.length co102, .int .i64 t317] rfl (by (try simp only [List.map_toArray, List.map_cons, List.map_nil]); first | done | rfl | (simp only [List.length_drop, List.length_take]; rfl)) ?_; (with_reducible refine (laws_markIntS.calls kj33 (fun k_ => some k_ = (.slice Ao102 t301.length co102 : Value).ownBlock) (.slice Ao102 t301.length co102) t301 t317 t319 t320 w _ ?side1 ?side2 A56.out).mono ?_); (case side1 => repeat (first | (with_reducible first | exact HB.out | apply below_alloc | apply pw_below_drewN | apply below_drew1) | exact HB.out)); (case side2 => exact Kd.R_tight rfl HO_9.out); rintro e w103 ⟨rfl, hy0, hb, hkp⟩; refine ⟨_, rfl, ?_⟩; have n0_ := Kp.a (Kd.V_mono (ok' := fun k_ => some k_ ≠ (.slice Ao100 t300.length co100 : Value).ownBlock ∧ some k_ ≠ (.slice Ao102 t301.length co102 : Value).ownBlock) (Kd.V_keptB (HO_4.out) hkp (fun k_ hk_ hs_ => (hk_.2) hs_)) (fun k_ hk_ => ⟨hk_.1.1, hk_.1.2⟩)); have n1_ := Kp.a (Kd.V_mono (ok' := fun k_ => some k_ ≠ (.slice Ao100 t300.length co100 : Value).ownBlock ∧ some k_ ≠ (.slice Ao102 t301.length co102 : Value).ownBlock) (Kd.V_keptB (HO_5.out) hkp (fun k_ hk_ hs_ => (hk_.2) hs_)) (fun k_ hk_ => ⟨hk_.1.1, hk_.1.2⟩)); have n2_ := Kp.a (Kd.R_mono (ok' := fun k_ => some k_ ≠ (.slice Ao102 t301.length co102 : Value).ownBlock) (Kd.R_keptB (HO_8.out) hkp (fun k_ hk_ hs_ => (hk_) hs_)) (fun k_ hk_ => hk_.1)); have n3_ := Kp.a (Kd.R_reok rfl hy0 (fun k_ e_ => HO_9.out.1 k_ e_)); have n4_ := Kp.a (hb); clear HO_4; clear HO_5; clear HO_8; clear HO_9; clear HB; have HO_4 := n0_; have HO_5 := n1_; have HO_8 := n2_; have HO_9 := n3_; have HB := n4_; clear n0_ n1_ n2_ n3_ n4_; (try clear hb); (try clear hkp); (try clear hy0)) | ((with_reducible refine gate_callee (f := 48) rfl ?_); refine goesL_ (some 87) rfl rfl Try.func48 (by kernel_rfl) rfl #[.slice Ao100 t318.length co100, .int .i64 1] rfl (by (try simp only [List.map_toArray, List.map_cons, List.map_nil]); first | done | (rw [show t318.length = t300.length from (Kd.R_reads' HO_8.out).1.symm] <;> rfl) | rfl | (simp only [List.length_drop, List.length_take]; rfl)) ?_; (with_reducible refine (laws_heldIntS.calls kj33 _ _ t318 1 t321 _ ?side1 ?side2 A57.out).mono ?_); (case side1 => repeat (first | exact (Kd.R_reads' HO_8.out).2.2 | (with_reducible refine Kd.C_alloc ?_ _) | (with_reducible refine Kd.C_drewN ?_ _) | (with_reducible refine Kd.C_drew ?_))); (case side2 => rw [show t318.length = t300.length from (Kd.R_reads' HO_8.out).1.symm]; exact (Kd.R_reads' HO_8.out).2.1); rintro e w' ⟨rfl, ⟨nd, rfl⟩⟩; refine ⟨_, rfl, ?_⟩) | ((with_reducible refine gate_callee (f := 48) rfl ?_); refine goesL_ (some 92) rfl rfl Try.func48 (by kernel_rfl) rfl #[.slice Ao102 t320.length co102, .int .i64 t321] rfl (by (try simp only [List.map_toArray, List.map_cons, List.map_nil]); first | done | (rw [show t320.length = t301.length from (Kd.R_reads' HO_9.out).1.symm] <;> rfl) | rfl | (simp only [List.length_drop, List.length_take]; rfl)) ?_; (with_reducible refine (laws_heldIntS.calls kj33 _ _ t320 t321 t322 _ ?side1 ?side2 A63.out).mono ?_); (case side1 => repeat (first | exact (Kd.R_reads' HO_9.out).2.2 | (with_reducible refine Kd.C_alloc ?_ _) | (with_reducible refine Kd.C_drewN ?_ _) | (with_reducible refine Kd.C_drew ?_))); (case side2 => rw [show t320.length = t301.length from (Kd.R_reads' HO_9.out).1.symm]; exact (Kd.R_reads' HO_9.out).2.1); rintro e w' ⟨rfl, ⟨nd, rfl⟩⟩; refine ⟨_, rfl, ?_⟩))
      go_ret
      exact ⟨by first | rfl | (simp [errW_none, errW_some] <;> rfl) | (simp [*, errW_none, errW_some] <;> rfl), Kp.kpL HB.out⟩
     rw [if_pos c69] at H
     have c69b0 : (t322 == t319) = true := beq_iff_eq.mpr c69
     have c69b1 : (t322 != t319) = false := bne_eq_false_iff_eq.mpr c69
     clear c69
     replace H := Option.bind_eq_some_iff.mp H
     obtain ⟨t323, A700, H⟩ := H
     replace H : ((impl_Flat.f kj33 t323).bind fun bt326 => ((laws_eqIntS.f kj33 bt326.1 t290).bind fun t333 => (if t333 = true then ((laws_eqIntS.f kj33 bt326.2.1 t293).bind fun t334 => (if t334 = true then (laws_FnExactFlat.j2 kj33 t318 t320 t319 (bt326.2.2 != t296)) else (laws_FnExactFlat.j2 kj33 t318 t320 t319 true))) else (laws_FnExactFlat.j2 kj33 t318 t320 t319 true)))) = some r := H
     have A70 := Kp.a A700
     clear A700
     replace H := Option.bind_eq_some_iff.mp H
     obtain ⟨⟨t326, t327, t328⟩, A710, H⟩ := H
     replace H : ((laws_eqIntS.f kj33 t326 t290).bind fun t333 => (if t333 = true then ((laws_eqIntS.f kj33 t327 t293).bind fun t334 => (if t334 = true then (laws_FnExactFlat.j2 kj33 t318 t320 t319 (t328 != t296)) else (laws_FnExactFlat.j2 kj33 t318 t320 t319 true))) else (laws_FnExactFlat.j2 kj33 t318 t320 t319 true))) = some r := H
     have A71 := Kp.a A710
     clear A710
     have HC72 := Kp.a H
     clear H
     obtain ⟨Ao73, co73, eo73⟩ := Kd.R_slice HO_8.out
     subst eo73
     go_upto_region 29 with (first | ((with_reducible refine gate_callee (f := 43) rfl ?_); refine goesL_ (some 81) rfl rfl Try.func43 (by kernel_rfl) rfl #[.slice Ao73 t300.length co73, .int .i64 1] rfl (by (try simp only [List.map_toArray, List.map_cons, List.map_nil]); first | done | rfl | (simp only [List.length_drop, List.length_take]; rfl)) ?_; (with_reducible refine (laws_markIntS.calls kj33 (fun k_ => some k_ = (.slice Ao73 t300.length co73 : Value).ownBlock) (.slice Ao73 t300.length co73) t300 1 t317 t318 w _ ?side1 ?side2 A55.out).mono ?_); (case side1 => repeat (first | (with_reducible first | exact HB.out | apply below_alloc | apply pw_below_drewN | apply below_drew1) | exact HB.out)); (case side2 => exact Kd.R_tight rfl HO_8.out); rintro e w74 ⟨rfl, hy0, hb, hkp⟩; refine ⟨_, rfl, ?_⟩; have n0_ := Kp.a (Kd.V_mono (ok' := fun k_ => some k_ ≠ (.slice Ao73 t300.length co73 : Value).ownBlock ∧ some k_ ≠ (v305 : Value).ownBlock) (Kd.V_keptB (HO_4.out) hkp (fun k_ hk_ hs_ => (hk_.1) hs_)) (fun k_ hk_ => ⟨hk_.1.1, hk_.1.2⟩)); have n1_ := Kp.a (Kd.V_mono (ok' := fun k_ => some k_ ≠ (.slice Ao73 t300.length co73 : Value).ownBlock ∧ some k_ ≠ (v305 : Value).ownBlock) (Kd.V_keptB (HO_5.out) hkp (fun k_ hk_ hs_ => (hk_.1) hs_)) (fun k_ hk_ => ⟨hk_.1.1, hk_.1.2⟩)); have n2_ := Kp.a (Kd.R_reok rfl hy0 (fun k_ e_ => HO_8.out.1 k_ e_)); have n3_ := Kp.a (Kd.R_mono (ok' := fun k_ => some k_ ≠ (.slice Ao73 t300.length co73 : Value).ownBlock) (Kd.R_keptB (HO_9.out) hkp (fun k_ hk_ hs_ => (hk_) hs_)) (fun k_ hk_ => hk_.1)); have n4_ := Kp.a (hb); clear HO_4; clear HO_5; clear HO_8; clear HO_9; clear HB; have HO_4 := n0_; have HO_5 := n1_; have HO_8 := n2_; have HO_9 := n3_; have HB := n4_; clear n0_ n1_ n2_ n3_ n4_; (try clear hb); (try clear hkp); (try clear hy0); obtain ⟨Ao75, co75, eo75⟩ := Kd.R_slice HO_9.out; subst eo75) | ((with_reducible refine gate_callee (f := 43) rfl ?_); refine goesL_ (some 84) rfl rfl Try.func43 (by kernel_rfl) rfl #[.slice Ao75 t301.length co75, .int .i64 t317] rfl (by (try simp only [List.map_toArray, List.map_cons, List.map_nil]); first | done | rfl | (simp only [List.length_drop, List.length_take]; rfl)) ?_; (with_reducible refine (laws_markIntS.calls kj33 (fun k_ => some k_ = (.slice Ao75 t301.length co75 : Value).ownBlock) (.slice Ao75 t301.length co75) t301 t317 t319 t320 w _ ?side1 ?side2 A56.out).mono ?_); (case side1 => repeat (first | (with_reducible first | exact HB.out | apply below_alloc | apply pw_below_drewN | apply below_drew1) | exact HB.out)); (case side2 => exact Kd.R_tight rfl HO_9.out); rintro e w76 ⟨rfl, hy0, hb, hkp⟩; refine ⟨_, rfl, ?_⟩; have n0_ := Kp.a (Kd.V_mono (ok' := fun k_ => some k_ ≠ (.slice Ao73 t300.length co73 : Value).ownBlock ∧ some k_ ≠ (.slice Ao75 t301.length co75 : Value).ownBlock) (Kd.V_keptB (HO_4.out) hkp (fun k_ hk_ hs_ => (hk_.2) hs_)) (fun k_ hk_ => ⟨hk_.1.1, hk_.1.2⟩)); have n1_ := Kp.a (Kd.V_mono (ok' := fun k_ => some k_ ≠ (.slice Ao73 t300.length co73 : Value).ownBlock ∧ some k_ ≠ (.slice Ao75 t301.length co75 : Value).ownBlock) (Kd.V_keptB (HO_5.out) hkp (fun k_ hk_ hs_ => (hk_.2) hs_)) (fun k_ hk_ => ⟨hk_.1.1, hk_.1.2⟩)); have n2_ := Kp.a (Kd.R_mono (ok' := fun k_ => some k_ ≠ (.slice Ao75 t301.length co75 : Value).ownBlock) (Kd.R_keptB (HO_8.out) hkp (fun k_ hk_ hs_ => (hk_) hs_)) (fun k_ hk_ => hk_.1)); have n3_ := Kp.a (Kd.R_reok rfl hy0 (fun k_ e_ => HO_9.out.1 k_ e_)); have n4_ := Kp.a (hb); clear HO_4; clear HO_5; clear HO_8; clear HO_9; clear HB; have HO_4 := n0_; have HO_5 := n1_; have HO_8 := n2_; have HO_9 := n3_; have HB := n4_; clear n0_ n1_ n2_ n3_ n4_; (try clear hb); (try clear hkp); (try clear hy0)) | ((with_reducible refine gate_callee (f := 48) rfl ?_); refine goesL_ (some 87) rfl rfl Try.func48 (by kernel_rfl) rfl #[.slice Ao73 t318.length co73, .int .i64 1] rfl (by (try simp only [List.map_toArray, List.map_cons, List.map_nil]); first | done | (rw [show t318.length = t300.length from (Kd.R_reads' HO_8.out).1.symm] <;> rfl) | rfl | (simp only [List.length_drop, List.length_take]; rfl)) ?_; (with_reducible refine (laws_heldIntS.calls kj33 _ _ t318 1 t321 _ ?side1 ?side2 A57.out).mono ?_); (case side1 => repeat (first | exact (Kd.R_reads' HO_8.out).2.2 | (with_reducible refine Kd.C_alloc ?_ _) | (with_reducible refine Kd.C_drewN ?_ _) | (with_reducible refine Kd.C_drew ?_))); (case side2 => rw [show t318.length = t300.length from (Kd.R_reads' HO_8.out).1.symm]; exact (Kd.R_reads' HO_8.out).2.1); rintro e w' ⟨rfl, ⟨nd, rfl⟩⟩; refine ⟨_, rfl, ?_⟩) | ((with_reducible refine gate_callee (f := 48) rfl ?_); refine goesL_ (some 92) rfl rfl Try.func48 (by kernel_rfl) rfl #[.slice Ao75 t320.length co75, .int .i64 t321] rfl (by (try simp only [List.map_toArray, List.map_cons, List.map_nil]); first | done | (rw [show t320.length = t301.length from (Kd.R_reads' HO_9.out).1.symm] <;> rfl) | rfl | (simp only [List.length_drop, List.length_take]; rfl)) ?_; (with_reducible refine (laws_heldIntS.calls kj33 _ _ t320 t321 t322 _ ?side1 ?side2 A63.out).mono ?_); (case side1 => repeat (first | exact (Kd.R_reads' HO_9.out).2.2 | (with_reducible refine Kd.C_alloc ?_ _) | (with_reducible refine Kd.C_drewN ?_ _) | (with_reducible refine Kd.C_drew ?_))); (case side2 => rw [show t320.length = t301.length from (Kd.R_reads' HO_9.out).1.symm]; exact (Kd.R_reads' HO_9.out).2.1); rintro e w' ⟨rfl, ⟨nd, rfl⟩⟩; refine ⟨_, rfl, ?_⟩) | ((with_reducible refine gate_callee (f := 16) rfl ?_); refine goesL_ (some 100) rfl rfl Try.func16 (by kernel_rfl) rfl #[.slice A0 l0.length c0] rfl (by (try simp only [List.map_toArray, List.map_cons, List.map_nil]); first | done | rfl | (simp only [List.length_drop, List.length_take]; rfl)) ?_; (with_reducible refine (laws_toPointS.calls kj33 _ _ l0 t323 _ ?side1 ?side2 A70.out).mono ?_); (case side1 => repeat (first | exact (Kd.C_below HR0.out (Kp.kpL HB.out)) | (with_reducible refine Kd.C_alloc ?_ _) | (with_reducible refine Kd.C_drewN ?_ _) | (with_reducible refine Kd.C_drew ?_))); (case side2 => exact HC0.out); rintro e w77 ⟨v324, rfl, ho0, hb⟩; refine ⟨_, rfl, ?_⟩; have n0_ := Kp.a (Kd.V_elder' (by (with_reducible repeat (first | apply Kd.V_alloc | apply Kd.V_drewN | apply Kd.V_drew)); exact HO_4.out) (Kd.R_base ho0) hb); have n1_ := Kp.a (Kd.V_elder' (by (with_reducible repeat (first | apply Kd.V_alloc | apply Kd.V_drewN | apply Kd.V_drew)); exact HO_5.out) (Kd.R_base ho0) hb); have n2_ := Kp.a (Kd.R_below (Kp.kpR HO_8.out) hb); have n3_ := Kp.a (Kd.R_below (Kp.kpR HO_9.out) hb); have n4_ := Kp.a (Kd.R_lower ho0 (below_size (Kp.kpL HB.out))); have n5_ := Kp.a (below_step (Kp.kpL HB.out) hb); clear HO_4; clear HO_5; clear HO_8; clear HO_9; clear HB; have HO_4 := n0_; have HO_5 := n1_; have HO_8 := n2_; have HO_9 := n3_; have HO325 := n4_; have HB := n5_; clear n0_ n1_ n2_ n3_ n4_ n5_; (try clear hb); (try clear hb2); (try clear hk); (try clear hi); (try clear ho0); obtain ⟨Ao78, co78, eo78⟩ := Kd.R_slice HO325.out; subst eo78) | ((with_reducible refine gate_callee (f := 47) rfl ?_); refine goesL_ (some 101) rfl rfl Try.func47 (by kernel_rfl) rfl #[.slice Ao78 t323.length co78] rfl (by (try simp only [List.map_toArray, List.map_cons, List.map_nil]); first | done | rfl | (simp only [List.length_drop, List.length_take]; rfl)) ?_; (with_reducible refine (impl_Flat.calls kj33 _ _ t323 t326 t327 t328 _ ?side1 ?side2 A71.out).mono ?_); (case side1 => repeat (first | exact (Kd.R_reads' HO325.out).2.2 | (with_reducible refine Kd.C_alloc ?_ _) | (with_reducible refine Kd.C_drewN ?_ _) | (with_reducible refine Kd.C_drew ?_))); (case side2 => exact (Kd.R_reads' HO325.out).2.1); rintro e w79 ⟨v329, v331, rfl, ho0, ho1, hb⟩; refine ⟨_, rfl, ?_⟩; have n0_ := Kp.a (Kd.V_mono (Kd.V_told (Kd.V_told (Kd.V_old (by (with_reducible repeat (first | apply Kd.V_alloc | apply Kd.V_drewN | apply Kd.V_drew)); exact HO_4.out) hb) (Kd.R_base ho0)) (Kd.R_base ho1)) (fun _ h_ => h_.1)); have n1_ := Kp.a (Kd.V_mono (Kd.V_told (Kd.V_told (Kd.V_old (by (with_reducible repeat (first | apply Kd.V_alloc | apply Kd.V_drewN | apply Kd.V_drew)); exact HO_5.out) hb) (Kd.R_base ho0)) (Kd.R_base ho1)) (fun _ h_ => h_.1)); have n2_ := Kp.a (Kd.R_mono (Kd.R_told (Kd.R_told (Kd.R_old (Kp.kpR HO_8.out) hb) (Kd.R_base ho0)) (Kd.R_base ho1)) (fun _ h_ => h_.1)); have n3_ := Kp.a (Kd.R_mono (Kd.R_told (Kd.R_told (Kd.R_old (Kp.kpR HO_9.out) hb) (Kd.R_base ho0)) (Kd.R_base ho1)) (fun _ h_ => h_.1)); have n4_ := Kp.a (Kd.R_below (Kp.kpR HO325.out) hb); have n5_ := Kp.a (Kd.R_lower (Kd.R_new' (Kd.R_new' ho0 (Kd.R_lt (Kp.kpR HO_8.out))) (Kd.R_lt (Kp.kpR HO_9.out))) (below_size (Kp.kpL HB.out))); have n6_ := Kp.a (Kd.R_lower (Kd.R_new' (Kd.R_new' ho1 (Kd.R_lt (Kp.kpR HO_8.out))) (Kd.R_lt (Kp.kpR HO_9.out))) (below_size (Kp.kpL HB.out))); have n7_ := Kp.a (below_step (Kp.kpL HB.out) hb); clear HO_4; clear HO_5; clear HO_8; clear HO_9; clear HO325; clear HB; have HO_4 := n0_; have HO_5 := n1_; have HO_8 := n2_; have HO_9 := n3_; have HO325 := n4_; have HO330 := n5_; have HO332 := n6_; have HB := n7_; clear n0_ n1_ n2_ n3_ n4_ n5_ n6_ n7_; (try clear hb); (try clear hb2); (try clear hk); (try clear hi); (try clear ho0); (try clear ho1)))
     (try simp only [Act.put, Kp.s0, Kp.s1, Kp.s2])
     go_cut [119] (fun v119 wc => ∃ (kq : Nat) (x119_71 : Bool), v119 = .bool x119_71 ∧ Aside0 (laws_FnExactFlat.j2 kq t318 t320 t319 x119_71 = some r) ∧ Aside0 (kq ≤ kj33) ∧ Aside0 (Kd.R (Kd.int .i64) 3 wc w.heap.size (fun k_ => some k_ ≠ ((.slice Ao75 t301.length co75) : Value).ownBlock) (.slice Ao73 t300.length co73) t318) ∧ Aside0 (Kd.R (Kd.int .i64) 3 wc w.heap.size (fun k_ => some k_ ≠ ((.slice Ao73 t300.length co73) : Value).ownBlock) (.slice Ao75 t301.length co75) t320) ∧ Aside0 (Below w.heap.size w wc))
     case first =>
      have H := HC72.out
      clear HC72
      replace H := Option.bind_eq_some_iff.mp H
      obtain ⟨t333, A800, H⟩ := H
      replace H : (if t333 = true then ((laws_eqIntS.f kj33 t327 t293).bind fun t334 => (if t334 = true then (laws_FnExactFlat.j2 kj33 t318 t320 t319 (t328 != t296)) else (laws_FnExactFlat.j2 kj33 t318 t320 t319 true))) else (laws_FnExactFlat.j2 kj33 t318 t320 t319 true)) = some r := H
      have A80 := Kp.a A800
      clear A800
      by_cases c81 : t333 = true
      rotate_left
      ·replace c81 := Bool.eq_false_iff.mpr c81
       subst c81
       have H1 : (laws_FnExactFlat.j2 kj33 t318 t320 t319 true) = some r := by rw [if_neg (show ¬ (false = true) by decide)] at H; exact H
       clear H
       have H := H1
       clear H1
       have H' := Kp.a H
       clear H
       obtain ⟨Ao92, co92, eo92⟩ := Kd.R_slice HO330.out
       subst eo92
       obtain ⟨Ao93, co93, eo93⟩ := Kd.V_slice HO_4.out
       subst eo93
       go_wp2_with (first | ((with_reducible refine gate_callee (f := 42) rfl ?_); refine goesL_ (some 107) rfl rfl Try.func42 (by kernel_rfl) rfl #[.slice Ao92 t326.length co92, .slice Ao93 t290.length co93] rfl (by (try simp only [List.map_toArray, List.map_cons, List.map_nil]); first | done | rfl | (simp only [List.length_drop, List.length_take]; rfl)) ?_; (with_reducible refine (laws_eqIntS.calls kj33 _ _ t326 _ _ t290 false _ ?side1 ?side2 ?side3 ?side4 A80.out).mono ?_); (case side1 => repeat (first | exact (Kd.R_reads' HO330.out).2.2 | (with_reducible refine Kd.C_alloc ?_ _) | (with_reducible refine Kd.C_drewN ?_ _) | (with_reducible refine Kd.C_drew ?_))); (case side2 => exact (Kd.R_reads' HO330.out).2.1); (case side3 => repeat (first | exact (Kd.V_reads' HO_4.out).2.2 | (with_reducible refine Kd.C_alloc ?_ _) | (with_reducible refine Kd.C_drewN ?_ _) | (with_reducible refine Kd.C_drew ?_))); (case side4 => exact (Kd.V_reads' HO_4.out).2.1); rintro e w' ⟨rfl, ⟨nd, rfl⟩⟩; refine ⟨_, rfl, ?_⟩))
       go_meet
       case rel => exact ⟨_, (true), (by first | rfl | (simp; done) | (simp [*]; done)), H', ⟨by have := HJ7.out; have := HJ33.out; first | omega | exact Nat.le_refl _⟩, ⟨Kp.kpR (Kd.R_mono HO_8.out (fun _ hk => hk.1.1))⟩, ⟨Kp.kpR (Kd.R_mono HO_9.out (fun _ hk => hk.1.1))⟩, ⟨Kp.kpL HB.out⟩⟩
      subst c81
      have H1 : ((laws_eqIntS.f kj33 t327 t293).bind fun t334 => (if t334 = true then (laws_FnExactFlat.j2 kj33 t318 t320 t319 (t328 != t296)) else (laws_FnExactFlat.j2 kj33 t318 t320 t319 true))) = some r := by rw [if_pos rfl] at H; exact H
      clear H
      have H := H1
      clear H1
      replace H := Option.bind_eq_some_iff.mp H
      obtain ⟨t334, A820, H⟩ := H
      replace H : (if t334 = true then (laws_FnExactFlat.j2 kj33 t318 t320 t319 (t328 != t296)) else (laws_FnExactFlat.j2 kj33 t318 t320 t319 true)) = some r := H
      have A82 := Kp.a A820
      clear A820
      by_cases c83 : t334 = true
      ·subst c83
       have H1 : (laws_FnExactFlat.j2 kj33 t318 t320 t319 (t328 != t296)) = some r := by rw [if_pos rfl] at H; exact H
       clear H
       have H := H1
       clear H1
       have H' := Kp.a H
       clear H
       obtain ⟨Ao84, co84, eo84⟩ := Kd.R_slice HO330.out
       subst eo84
       obtain ⟨Ao85, co85, eo85⟩ := Kd.V_slice HO_4.out
       subst eo85
       go_wp2_with (first | ((with_reducible refine gate_callee (f := 42) rfl ?_); refine goesL_ (some 107) rfl rfl Try.func42 (by kernel_rfl) rfl #[.slice Ao84 t326.length co84, .slice Ao85 t290.length co85] rfl (by (try simp only [List.map_toArray, List.map_cons, List.map_nil]); first | done | rfl | (simp only [List.length_drop, List.length_take]; rfl)) ?_; (with_reducible refine (laws_eqIntS.calls kj33 _ _ t326 _ _ t290 true _ ?side1 ?side2 ?side3 ?side4 A80.out).mono ?_); (case side1 => repeat (first | exact (Kd.R_reads' HO330.out).2.2 | (with_reducible refine Kd.C_alloc ?_ _) | (with_reducible refine Kd.C_drewN ?_ _) | (with_reducible refine Kd.C_drew ?_))); (case side2 => exact (Kd.R_reads' HO330.out).2.1); (case side3 => repeat (first | exact (Kd.V_reads' HO_4.out).2.2 | (with_reducible refine Kd.C_alloc ?_ _) | (with_reducible refine Kd.C_drewN ?_ _) | (with_reducible refine Kd.C_drew ?_))); (case side4 => exact (Kd.V_reads' HO_4.out).2.1); rintro e w' ⟨rfl, ⟨nd, rfl⟩⟩; refine ⟨_, rfl, ?_⟩; obtain ⟨Ao86, co86, eo86⟩ := Kd.R_slice HO332.out; subst eo86; obtain ⟨Ao87, co87, eo87⟩ := Kd.V_slice HO_5.out; subst eo87) | (go_at_call 42; (with_reducible refine (laws_eqIntS.calls kj33 _ _ t327 _ _ t293 true _ ?side1 ?side2 ?side3 ?side4 A82.out).mono ?_); (case side1 => repeat (first | exact (Kd.R_reads' HO332.out).2.2 | (with_reducible refine Kd.C_alloc ?_ _) | (with_reducible refine Kd.C_drewN ?_ _) | (with_reducible refine Kd.C_drew ?_))); (case side2 => exact (Kd.R_reads' HO332.out).2.1); (case side3 => repeat (first | exact (Kd.V_reads' HO_5.out).2.2 | (with_reducible refine Kd.C_alloc ?_ _) | (with_reducible refine Kd.C_drewN ?_ _) | (with_reducible refine Kd.C_drew ?_))); (case side4 => exact (Kd.V_reads' HO_5.out).2.1); rintro e w' ⟨rfl, ⟨nd, rfl⟩⟩))
       go_meet
       case rel => exact ⟨_, ((t328 != t296)), (by first | rfl | (simp; done) | (simp [*]; done)), H', ⟨by have := HJ7.out; have := HJ33.out; first | omega | exact Nat.le_refl _⟩, ⟨Kp.kpR (Kd.R_mono HO_8.out (fun _ hk => hk.1.1))⟩, ⟨Kp.kpR (Kd.R_mono HO_9.out (fun _ hk => hk.1.1))⟩, ⟨Kp.kpL HB.out⟩⟩
      replace c83 := Bool.eq_false_iff.mpr c83
      subst c83
      have H1 : (laws_FnExactFlat.j2 kj33 t318 t320 t319 true) = some r := by rw [if_neg (show ¬ (false = true) by decide)] at H; exact H
      clear H
      have H := H1
      clear H1
      have H' := Kp.a H
      clear H
      obtain ⟨Ao88, co88, eo88⟩ := Kd.R_slice HO330.out
      subst eo88
      obtain ⟨Ao89, co89, eo89⟩ := Kd.V_slice HO_4.out
      subst eo89
      go_wp2_with (first | ((with_reducible refine gate_callee (f := 42) rfl ?_); refine goesL_ (some 107) rfl rfl Try.func42 (by kernel_rfl) rfl #[.slice Ao88 t326.length co88, .slice Ao89 t290.length co89] rfl (by (try simp only [List.map_toArray, List.map_cons, List.map_nil]); first | done | rfl | (simp only [List.length_drop, List.length_take]; rfl)) ?_; (with_reducible refine (laws_eqIntS.calls kj33 _ _ t326 _ _ t290 true _ ?side1 ?side2 ?side3 ?side4 A80.out).mono ?_); (case side1 => repeat (first | exact (Kd.R_reads' HO330.out).2.2 | (with_reducible refine Kd.C_alloc ?_ _) | (with_reducible refine Kd.C_drewN ?_ _) | (with_reducible refine Kd.C_drew ?_))); (case side2 => exact (Kd.R_reads' HO330.out).2.1); (case side3 => repeat (first | exact (Kd.V_reads' HO_4.out).2.2 | (with_reducible refine Kd.C_alloc ?_ _) | (with_reducible refine Kd.C_drewN ?_ _) | (with_reducible refine Kd.C_drew ?_))); (case side4 => exact (Kd.V_reads' HO_4.out).2.1); rintro e w' ⟨rfl, ⟨nd, rfl⟩⟩; refine ⟨_, rfl, ?_⟩; obtain ⟨Ao90, co90, eo90⟩ := Kd.R_slice HO332.out; subst eo90; obtain ⟨Ao91, co91, eo91⟩ := Kd.V_slice HO_5.out; subst eo91) | (go_at_call 42; (with_reducible refine (laws_eqIntS.calls kj33 _ _ t327 _ _ t293 false _ ?side1 ?side2 ?side3 ?side4 A82.out).mono ?_); (case side1 => repeat (first | exact (Kd.R_reads' HO332.out).2.2 | (with_reducible refine Kd.C_alloc ?_ _) | (with_reducible refine Kd.C_drewN ?_ _) | (with_reducible refine Kd.C_drew ?_))); (case side2 => exact (Kd.R_reads' HO332.out).2.1); (case side3 => repeat (first | exact (Kd.V_reads' HO_5.out).2.2 | (with_reducible refine Kd.C_alloc ?_ _) | (with_reducible refine Kd.C_drewN ?_ _) | (with_reducible refine Kd.C_drew ?_))); (case side4 => exact (Kd.V_reads' HO_5.out).2.1); rintro e w' ⟨rfl, ⟨nd, rfl⟩⟩))
      go_meet
      case rel => exact ⟨_, (true), (by first | rfl | (simp; done) | (simp [*]; done)), H', ⟨by have := HJ7.out; have := HJ33.out; first | omega | exact Nat.le_refl _⟩, ⟨Kp.kpR (Kd.R_mono HO_8.out (fun _ hk => hk.1.1))⟩, ⟨Kp.kpR (Kd.R_mono HO_9.out (fun _ hk => hk.1.1))⟩, ⟨Kp.kpL HB.out⟩⟩
     case rest =>
      clear HC72
      try clear c1
      try clear c2
      try clear p2
      try clear c3
      try clear c3b0
      try clear c4
      try clear c5
      try clear c6
      try clear c8
      try clear c11
      try clear c14
      try clear c16
      try clear c18
      try clear c19
      try clear c29
      try clear c32
      try clear c39
      try clear c39b0
      try clear c41
      try clear c42
      try clear c43
      try clear c46
      try clear c47
      try clear c48
      try clear c54
      try clear c58
      try clear c58b0
      try clear c64
      try clear c64b0
      try clear c69
      try clear c69b0
      try clear c69b1
      try clear c81
      try clear c83
      try clear p2
      obtain ⟨kq, x119_71, rfl, HA, HJ71, HO_8, HO_9, HB⟩ := hcut
      have hl8_71 := (Kd.R_reads' HO_8.out).1
      rw [hl8_71] at HO_8
      (try simp only [hl8_71])
      (try simp only [hl8_71] at HO_9)
      have hl9_71 := (Kd.R_reads' HO_9.out).1
      rw [hl9_71] at HO_9
      (try simp only [hl9_71])
      (try simp only [hl9_71] at HO_8)
      cases kq with
      | zero => exact absurd HA.out (by simp [laws_FnExactFlat.j2])
      | succ kj71 =>
       have H := HA.out
       clear HA
       simp only [laws_FnExactFlat.j2] at H
       by_cases c94 : x119_71 = true
       ·subst c94
        have H1 : (some false) = some r := by rw [if_pos rfl] at H; exact H
        clear H
        have H := H1
        clear H1
        obtain rfl := Option.some.inj H
        go_wp2
        go_ret
        exact ⟨by first | rfl | (simp [errW_none, errW_some] <;> rfl) | (simp [*, errW_none, errW_some] <;> rfl), Kp.kpL HB.out⟩
       replace c94 := Bool.eq_false_iff.mpr c94
       subst c94
       have H1 : ((laws_heldIntS.f kj71 t318 1).bind fun t335 => (if t335 < 0 then (some false) else ((laws_heldIntS.f kj71 t320 t335).bind fun t336 => (if t336 < 0 then (some false) else (if t336 = t319 then (some true) else (some false)))))) = some r := by rw [if_neg (show ¬ (false = true) by decide)] at H; exact H
       clear H
       have H := H1
       clear H1
       replace H := Option.bind_eq_some_iff.mp H
       obtain ⟨t335, A950, H⟩ := H
       replace H : (if t335 < 0 then (some false) else ((laws_heldIntS.f kj71 t320 t335).bind fun t336 => (if t336 < 0 then (some false) else (if t336 = t319 then (some true) else (some false))))) = some r := H
       have A95 := Kp.a A950
       clear A950
       by_cases c96 : t335 < 0
       ·rw [if_pos c96] at H
        have c96b0 : decide (t335 < 0) = true := decide_eq_true c96
        clear c96
        obtain rfl := Option.some.inj H
        go_wp2_with (first | ((with_reducible refine gate_callee (f := 48) rfl ?_); refine goesL_ (some 122) rfl rfl Try.func48 (by kernel_rfl) rfl #[.slice Ao73 t318.length co73, .int .i64 1] rfl (by (try simp only [List.map_toArray, List.map_cons, List.map_nil]); first | done | rfl | (simp only [List.length_drop, List.length_take]; rfl)) ?_; (with_reducible refine (laws_heldIntS.calls kj71 _ _ t318 1 t335 _ ?side1 ?side2 A95.out).mono ?_); (case side1 => repeat (first | exact (Kd.R_reads' HO_8.out).2.2 | (with_reducible refine Kd.C_alloc ?_ _) | (with_reducible refine Kd.C_drewN ?_ _) | (with_reducible refine Kd.C_drew ?_))); (case side2 => exact (Kd.R_reads' HO_8.out).2.1); rintro e w' ⟨rfl, ⟨nd, rfl⟩⟩; refine ⟨_, rfl, ?_⟩))
        go_ret
        exact ⟨by first | rfl | (simp [errW_none, errW_some] <;> rfl) | (simp [*, errW_none, errW_some] <;> rfl), Kp.kpL HB.out⟩
       rw [if_neg c96] at H
       have c96b0 : decide (t335 < 0) = false := decide_eq_false c96
       clear c96
       replace H := Option.bind_eq_some_iff.mp H
       obtain ⟨t336, A970, H⟩ := H
       replace H : (if t336 < 0 then (some false) else (if t336 = t319 then (some true) else (some false))) = some r := H
       have A97 := Kp.a A970
       clear A970
       by_cases c98 : t336 < 0
       ·rw [if_pos c98] at H
        have c98b0 : decide (t336 < 0) = true := decide_eq_true c98
        clear c98
        obtain rfl := Option.some.inj H
        go_wp2_with (first | ((with_reducible refine gate_callee (f := 48) rfl ?_); refine goesL_ (some 122) rfl rfl Try.func48 (by kernel_rfl) rfl #[.slice Ao73 t318.length co73, .int .i64 1] rfl (by (try simp only [List.map_toArray, List.map_cons, List.map_nil]); first | done | rfl | (simp only [List.length_drop, List.length_take]; rfl)) ?_; (with_reducible refine (laws_heldIntS.calls kj71 _ _ t318 1 t335 _ ?side1 ?side2 A95.out).mono ?_); (case side1 => repeat (first | exact (Kd.R_reads' HO_8.out).2.2 | (with_reducible refine Kd.C_alloc ?_ _) | (with_reducible refine Kd.C_drewN ?_ _) | (with_reducible refine Kd.C_drew ?_))); (case side2 => exact (Kd.R_reads' HO_8.out).2.1); rintro e w' ⟨rfl, ⟨nd, rfl⟩⟩; refine ⟨_, rfl, ?_⟩) | ((with_reducible refine gate_callee (f := 48) rfl ?_); refine goesL_ (some 127) rfl rfl Try.func48 (by kernel_rfl) rfl #[.slice Ao75 t320.length co75, .int .i64 t335] rfl (by (try simp only [List.map_toArray, List.map_cons, List.map_nil]); first | done | rfl | (simp only [List.length_drop, List.length_take]; rfl)) ?_; (with_reducible refine (laws_heldIntS.calls kj71 _ _ t320 t335 t336 _ ?side1 ?side2 A97.out).mono ?_); (case side1 => repeat (first | exact (Kd.R_reads' HO_9.out).2.2 | (with_reducible refine Kd.C_alloc ?_ _) | (with_reducible refine Kd.C_drewN ?_ _) | (with_reducible refine Kd.C_drew ?_))); (case side2 => exact (Kd.R_reads' HO_9.out).2.1); rintro e w' ⟨rfl, ⟨nd, rfl⟩⟩; refine ⟨_, rfl, ?_⟩))
        go_ret
        exact ⟨by first | rfl | (simp [errW_none, errW_some] <;> rfl) | (simp [*, errW_none, errW_some] <;> rfl), Kp.kpL HB.out⟩
       rw [if_neg c98] at H
       have c98b0 : decide (t336 < 0) = false := decide_eq_false c98
       clear c98
       by_cases c99 : t336 = t319
       ·rw [if_pos c99] at H
        have c99b0 : (t336 == t319) = true := beq_iff_eq.mpr c99
        have c99b1 : (t336 != t319) = false := bne_eq_false_iff_eq.mpr c99
        clear c99
        obtain rfl := Option.some.inj H
        go_wp2_with (first | ((with_reducible refine gate_callee (f := 48) rfl ?_); refine goesL_ (some 122) rfl rfl Try.func48 (by kernel_rfl) rfl #[.slice Ao73 t318.length co73, .int .i64 1] rfl (by (try simp only [List.map_toArray, List.map_cons, List.map_nil]); first | done | rfl | (simp only [List.length_drop, List.length_take]; rfl)) ?_; (with_reducible refine (laws_heldIntS.calls kj71 _ _ t318 1 t335 _ ?side1 ?side2 A95.out).mono ?_); (case side1 => repeat (first | exact (Kd.R_reads' HO_8.out).2.2 | (with_reducible refine Kd.C_alloc ?_ _) | (with_reducible refine Kd.C_drewN ?_ _) | (with_reducible refine Kd.C_drew ?_))); (case side2 => exact (Kd.R_reads' HO_8.out).2.1); rintro e w' ⟨rfl, ⟨nd, rfl⟩⟩; refine ⟨_, rfl, ?_⟩) | ((with_reducible refine gate_callee (f := 48) rfl ?_); refine goesL_ (some 127) rfl rfl Try.func48 (by kernel_rfl) rfl #[.slice Ao75 t320.length co75, .int .i64 t335] rfl (by (try simp only [List.map_toArray, List.map_cons, List.map_nil]); first | done | rfl | (simp only [List.length_drop, List.length_take]; rfl)) ?_; (with_reducible refine (laws_heldIntS.calls kj71 _ _ t320 t335 t336 _ ?side1 ?side2 A97.out).mono ?_); (case side1 => repeat (first | exact (Kd.R_reads' HO_9.out).2.2 | (with_reducible refine Kd.C_alloc ?_ _) | (with_reducible refine Kd.C_drewN ?_ _) | (with_reducible refine Kd.C_drew ?_))); (case side2 => exact (Kd.R_reads' HO_9.out).2.1); rintro e w' ⟨rfl, ⟨nd, rfl⟩⟩; refine ⟨_, rfl, ?_⟩))
        go_ret
        exact ⟨by first | rfl | (simp [errW_none, errW_some] <;> rfl) | (simp [*, errW_none, errW_some] <;> rfl), Kp.kpL HB.out⟩
       rw [if_neg c99] at H
       have c99b0 : (t336 == t319) = false := beq_eq_false_iff_ne.mpr c99
       have c99b1 : (t336 != t319) = true := bne_iff_ne.mpr c99
       obtain rfl := Option.some.inj H
       go_wp2_with (first | ((with_reducible refine gate_callee (f := 48) rfl ?_); refine goesL_ (some 122) rfl rfl Try.func48 (by kernel_rfl) rfl #[.slice Ao73 t318.length co73, .int .i64 1] rfl (by (try simp only [List.map_toArray, List.map_cons, List.map_nil]); first | done | rfl | (simp only [List.length_drop, List.length_take]; rfl)) ?_; (with_reducible refine (laws_heldIntS.calls kj71 _ _ t318 1 t335 _ ?side1 ?side2 A95.out).mono ?_); (case side1 => repeat (first | exact (Kd.R_reads' HO_8.out).2.2 | (with_reducible refine Kd.C_alloc ?_ _) | (with_reducible refine Kd.C_drewN ?_ _) | (with_reducible refine Kd.C_drew ?_))); (case side2 => exact (Kd.R_reads' HO_8.out).2.1); rintro e w' ⟨rfl, ⟨nd, rfl⟩⟩; refine ⟨_, rfl, ?_⟩) | ((with_reducible refine gate_callee (f := 48) rfl ?_); refine goesL_ (some 127) rfl rfl Try.func48 (by kernel_rfl) rfl #[.slice Ao75 t320.length co75, .int .i64 t335] rfl (by (try simp only [List.map_toArray, List.map_cons, List.map_nil]); first | done | rfl | (simp only [List.length_drop, List.length_take]; rfl)) ?_; (with_reducible refine (laws_heldIntS.calls kj71 _ _ t320 t335 t336 _ ?side1 ?side2 A97.out).mono ?_); (case side1 => repeat (first | exact (Kd.R_reads' HO_9.out).2.2 | (with_reducible refine Kd.C_alloc ?_ _) | (with_reducible refine Kd.C_drewN ?_ _) | (with_reducible refine Kd.C_drew ?_))); (case side2 => exact (Kd.R_reads' HO_9.out).2.1); rintro e w' ⟨rfl, ⟨nd, rfl⟩⟩; refine ⟨_, rfl, ?_⟩))
       go_ret
       exact ⟨by first | rfl | (simp [errW_none, errW_some] <;> rfl) | (simp [*, errW_none, errW_some] <;> rfl), Kp.kpL HB.out⟩
end Go.Proofs.Ytgnhcdchpeeoaaa.PW


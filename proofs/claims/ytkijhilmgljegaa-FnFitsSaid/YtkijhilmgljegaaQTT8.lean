import Derived.Test.YtkijhilmgljegaaQTT0
import Derived.Test.YtkijhilmgljegaaVTk
import Derived.Test.YtkijhilmgljegaaQTT1
import Derived.Test.YtkijhilmgljegaaQTT3
import Derived.Test.YtkijhilmgljegaaQTT5
import Derived.Test.YtkijhilmgljegaaQTT6
import Derived.Test.YtkijhilmgljegaaQTT7
namespace Go.Proofs.Ytkijhilmgljegaa.PT
open Go.RowKit Go.Proofs.YtkijhilmgljegaaW.PrintWords Go.Proofs.YtkijhilmgljegaaW.PrintLast Go.Proofs.YtkijhilmgljegaaW.PrintMore
attribute [local go_sem] max2_int min2_int max_two min_two max_three min_three max_four min_four
set_option linter.unusedVariables false
set_option linter.unusedSimpArgs false
attribute [local go_sem high] eqA37
mutual
def laws_FnFits.j0 : Nat → List Int → List Int → Int → Int → List (S37) → List (S37) → Bool → Option (Bool)
 | 0, _, _, _, _, _, _, _ => none
 | k + 1, x3, x4, x5, x6, x7, x9, x58 => if x58 = true then (some false) else (if 0 ≤ (x3.length : Int) then (if ((x3.length : Int) : Int).toNat ≤ 281474976710656 then (if 0 ≤ (x4.length : Int) then (if ((x4.length : Int) : Int).toNat ≤ 281474976710656 then (laws_FnFits.l0 k x3 x4 x5 x6 x7 x9 (List.replicate ((x3.length : Int) : Int).toNat false) (List.replicate ((x4.length : Int) : Int).toNat false) 0) else (none)) else (none)) else (none)) else (none))
def laws_FnFits.l0 : Nat → List Int → List Int → Int → Int → List (S37) → List (S37) → List Bool → List Bool → Int → Option (Bool)
 | 0, _, _, _, _, _, _, _, _, _ => none
 | k + 1, x3, x4, x5, x6, x7, x9, x11, x12, x13 => if x13 < (x7.length : Int) then (if 0 ≤ x13 then (if ((rd_T37 x7 x13).f0) < 0 then (laws_FnFits.j2 k x3 x4 x5 x6 x7 x9 x11 x12 x13 true ((rd_T37 x7 x13).f0) ((rd_T37 x7 x13).f1)) else (if ((rd_T37 x7 x13).f0) ≥ (x3.length : Int) then (laws_FnFits.j2 k x3 x4 x5 x6 x7 x9 x11 x12 x13 true ((rd_T37 x7 x13).f0) ((rd_T37 x7 x13).f1)) else (if ((rd_T37 x7 x13).f1) < 0 then (laws_FnFits.j2 k x3 x4 x5 x6 x7 x9 x11 x12 x13 true ((rd_T37 x7 x13).f0) ((rd_T37 x7 x13).f1)) else (if ((rd_T37 x7 x13).f1) ≥ (x4.length : Int) then (laws_FnFits.j2 k x3 x4 x5 x6 x7 x9 x11 x12 x13 true ((rd_T37 x7 x13).f0) ((rd_T37 x7 x13).f1)) else (if 0 ≤ ((rd_T37 x7 x13).f0) then (if ((rd_T37 x7 x13).f0) < (x11.length : Int) then (if rdOf false x11 ((rd_T37 x7 x13).f0) = true then (laws_FnFits.j2 k x3 x4 x5 x6 x7 x9 x11 x12 x13 true ((rd_T37 x7 x13).f0) ((rd_T37 x7 x13).f1)) else (if 0 ≤ ((rd_T37 x7 x13).f1) then (if ((rd_T37 x7 x13).f1) < (x12.length : Int) then (if rdOf false x12 ((rd_T37 x7 x13).f1) = true then (laws_FnFits.j2 k x3 x4 x5 x6 x7 x9 x11 x12 x13 true ((rd_T37 x7 x13).f0) ((rd_T37 x7 x13).f1)) else (if x13 < (x9.length : Int) then (laws_FnFits.j2 k x3 x4 x5 x6 x7 x9 x11 x12 x13 (!(((rd_T37 x7 x13).f0) == ((rd_T37 x9 x13).f0)) || (!(((rd_T37 x7 x13).f1) == ((rd_T37 x9 x13).f1)))) ((rd_T37 x7 x13).f0) ((rd_T37 x7 x13).f1)) else (none))) else (none)) else (none))) else (none)) else (none)))))) else (none)) else ((impl_Blocked.f k x3 x4 x5 x6).bind fun bt329 => (if bt329.2.2 = 0 then (laws_FnFits.j3 k x3 x4 x5 x6 bt329.1 bt329.2.1 ((wrap64 ((bt329.1.length : Int) - (bt329.2.1.length : Int))) != (wrap64 ((x3.length : Int) - (x7.length : Int))))) else (laws_FnFits.j3 k x3 x4 x5 x6 bt329.1 bt329.2.1 true)))
def laws_FnFits.j2 : Nat → List Int → List Int → Int → Int → List (S37) → List (S37) → List Bool → List Bool → Int → Bool → Int → Int → Option (Bool)
 | 0, _, _, _, _, _, _, _, _, _, _, _, _ => none
 | k + 1, x3, x4, x5, x6, x7, x9, x11, x12, x13, x118, x322000, x322001 => if x118 = true then (some false) else (if 0 ≤ x322000 then (if x322000 < (x3.length : Int) then (if 0 ≤ x322001 then (if x322001 < (x4.length : Int) then (if (wrap64 ((rd x3 x322000) - (rd x4 x322001))) < x5 then (some false) else (if (wrap64 ((rd x3 x322000) - (rd x4 x322001))) > x6 then (some false) else (if x322000 < (x11.length : Int) then (if x322001 < (x12.length : Int) then (laws_FnFits.l0 k x3 x4 x5 x6 x7 x9 (x11.set (x322000 : Int).toNat true) (x12.set (x322001 : Int).toNat true) (wrap64 (x13 + 1))) else (none)) else (none)))) else (none)) else (none)) else (none)) else (none))
def laws_FnFits.j3 : Nat → List Int → List Int → Int → Int → List Int → List Int → Bool → Option (Bool)
 | 0, _, _, _, _, _, _, _ => none
 | k + 1, x3, x4, x5, x6, x16, x17, x169 => if x169 = true then (some false) else (if 0 ≤ (x4.length : Int) then (if ((x4.length : Int) : Int).toNat ≤ 281474976710656 then (laws_FnFits.l1 k x3 x4 x5 x6 x16 x17 (List.replicate ((x4.length : Int) : Int).toNat false) 0) else (none)) else (none))
def laws_FnFits.l1 : Nat → List Int → List Int → Int → Int → List Int → List Int → List Bool → Int → Option (Bool)
 | 0, _, _, _, _, _, _, _, _ => none
 | k + 1, x3, x4, x5, x6, x16, x17, x19, x20 => if x20 < (x17.length : Int) then (if 0 ≤ x20 then (if (rd x17 x20) < 0 then (some false) else (if (rd x17 x20) ≥ (x4.length : Int) then (some false) else (if x20 > 0 then (if 0 ≤ (wrap64 (x20 - 1)) then (if (wrap64 (x20 - 1)) < (x17.length : Int) then (if (rd x17 x20) ≤ (rd x17 (wrap64 (x20 - 1))) then (some false) else (if 0 ≤ (rd x17 x20) then (if (rd x17 x20) < (x19.length : Int) then (laws_FnFits.l1 k x3 x4 x5 x6 x16 x17 (x19.set ((rd x17 x20) : Int).toNat true) (wrap64 (x20 + 1))) else (none)) else (none))) else (none)) else (none)) else (if 0 ≤ (rd x17 x20) then (if (rd x17 x20) < (x19.length : Int) then (laws_FnFits.l1 k x3 x4 x5 x6 x16 x17 (x19.set ((rd x17 x20) : Int).toNat true) (wrap64 (x20 + 1))) else (none)) else (none))))) else (none)) else (laws_FnFits.l2 k x3 x4 x5 x6 x16 x19 0)
def laws_FnFits.l2 : Nat → List Int → List Int → Int → Int → List Int → List Bool → Int → Option (Bool)
 | 0, _, _, _, _, _, _, _ => none
 | k + 1, x3, x4, x5, x6, x16, x19, x21 => if x21 < (x16.length : Int) then (if 0 ≤ x21 then (if (rd x16 x21) < 0 then (laws_FnFits.j6 k x3 x4 x5 x6 x16 x19 x21 true) else (if (rd x16 x21) ≥ (x3.length : Int) then (laws_FnFits.j6 k x3 x4 x5 x6 x16 x19 x21 true) else (if x21 > 0 then (if 0 ≤ (wrap64 (x21 - 1)) then (if (wrap64 (x21 - 1)) < (x16.length : Int) then (laws_FnFits.j6 k x3 x4 x5 x6 x16 x19 x21 (decide ((rd x16 x21) ≤ (rd x16 (wrap64 (x21 - 1)))))) else (none)) else (none)) else (laws_FnFits.j6 k x3 x4 x5 x6 x16 x19 x21 false)))) else (none)) else (some true)
def laws_FnFits.j6 : Nat → List Int → List Int → Int → Int → List Int → List Bool → Int → Bool → Option (Bool)
 | 0, _, _, _, _, _, _, _, _ => none
 | k + 1, x3, x4, x5, x6, x16, x19, x21, x250 => if x250 = true then (some false) else (laws_FnFits.l3 k x3 x4 x5 x6 x16 x19 x21 0)
def laws_FnFits.l3 : Nat → List Int → List Int → Int → Int → List Int → List Bool → Int → Int → Option (Bool)
 | 0, _, _, _, _, _, _, _, _ => none
 | k + 1, x3, x4, x5, x6, x16, x19, x21, x22 => if x22 < (x4.length : Int) then (if 0 ≤ x21 then (if x21 < (x16.length : Int) then (if 0 ≤ (rd x16 x21) then (if (rd x16 x21) < (x3.length : Int) then (if 0 ≤ x22 then (if (wrap64 ((rd x3 (rd x16 x21)) - (rd x4 x22))) ≥ x5 then (if (wrap64 ((rd x3 (rd x16 x21)) - (rd x4 x22))) ≤ x6 then (if x22 < (x19.length : Int) then (if rdOf false x19 x22 = true then (laws_FnFits.l3 k x3 x4 x5 x6 x16 x19 x21 (wrap64 (x22 + 1))) else (some false)) else (none)) else (laws_FnFits.l3 k x3 x4 x5 x6 x16 x19 x21 (wrap64 (x22 + 1)))) else (laws_FnFits.l3 k x3 x4 x5 x6 x16 x19 x21 (wrap64 (x22 + 1)))) else (none)) else (none)) else (none)) else (none)) else (none)) else (laws_FnFits.l2 k x3 x4 x5 x6 x16 x19 (wrap64 (x21 + 1)))
end
def laws_FnFits.f (k : Nat) (l0 : List Int) : Option (Bool) := if (l0.length : Int) > 1048576 then (some true) else ((spec_MatesOf.f k l0).bind fun bt298 => ((impl_Matched.f k bt298.1 bt298.2.1 bt298.2.2.1 bt298.2.2.2).bind fun bt306 => ((spec_Matched.f k bt298.1 bt298.2.1 bt298.2.2.1 bt298.2.2.2).bind fun bt310 => (if bt306.2 = 0 then (laws_FnFits.j0 k bt298.1 bt298.2.1 bt298.2.2.1 bt298.2.2.2 bt306.1 bt310.1 ((bt306.1.length : Int) != (bt310.1.length : Int))) else (laws_FnFits.j0 k bt298.1 bt298.2.1 bt298.2.2.1 bt298.2.2.2 bt306.1 bt310.1 true)))))
set_option maxHeartbeats 8000000 in
set_option maxRecDepth 100000 in
theorem laws_FnFits.calls (k : Nat) (A0 : Option Addr) (c0 : Nat) (l0 : List Int) (r : Bool) (w : World) (hr0 : Kd.C (Kd.int .u8) w A0 l0.length l0) (hc0 : l0.length ≤ c0) (h : laws_FnFits.f k l0 = some r) :
  Calls Try.prog 4 #[.slice A0 l0.length c0] w fun e w' => e = .returned (.bool r) ∧ Below w.heap.size w w' := by
 have hu37 := Try.underlying37
 have HR0 := Kp.a hr0
 have HC0 := Kp.a hc0
 clear hr0 hc0
 have HB := Kp.a (Below.refl w.heap.size w)
 have H : (if (l0.length : Int) > 1048576 then (some true) else ((spec_MatesOf.f k l0).bind fun bt298 => ((impl_Matched.f k bt298.1 bt298.2.1 bt298.2.2.1 bt298.2.2.2).bind fun bt306 => ((spec_Matched.f k bt298.1 bt298.2.1 bt298.2.2.1 bt298.2.2.2).bind fun bt310 => (if bt306.2 = 0 then (laws_FnFits.j0 k bt298.1 bt298.2.1 bt298.2.2.1 bt298.2.2.2 bt306.1 bt310.1 ((bt306.1.length : Int) != (bt310.1.length : Int))) else (laws_FnFits.j0 k bt298.1 bt298.2.1 bt298.2.2.1 bt298.2.2.2 bt306.1 bt310.1 true)))))) = some r := h
 clear h
 by_cases c2 : (l0.length : Int) > 1048576
 ·rw [if_pos c2] at H
  have c2b0 : decide (1048576 < (l0.length : Int)) = true := decide_eq_true c2
  have c2b1 : decide (1048576 < l0.length) = true := decide_eq_true (by omega)
  clear c2
  obtain rfl := Option.some.inj H
  go_enter Try.func4, Try.ntmps4
  go_wp2
  repeat (go_quiet (fail); try go_wp2)
  go_ret
  exact ⟨by first | rfl | (simp [errW_none, errW_some] <;> rfl) | (simp [*, errW_none, errW_some] <;> rfl), Kp.kpL HB.out⟩
 rw [if_neg c2] at H
 have c2b0 : decide (1048576 < (l0.length : Int)) = false := decide_eq_false c2
 have c2b1 : decide (1048576 < l0.length) = false := decide_eq_false (by omega)
 clear c2
 replace H := Option.bind_eq_some_iff.mp H
 obtain ⟨⟨t298, t299, t300, t301⟩, A30, H⟩ := H
 replace H : ((impl_Matched.f k t298 t299 t300 t301).bind fun bt306 => ((spec_Matched.f k t298 t299 t300 t301).bind fun bt310 => (if bt306.2 = 0 then (laws_FnFits.j0 k t298 t299 t300 t301 bt306.1 bt310.1 ((bt306.1.length : Int) != (bt310.1.length : Int))) else (laws_FnFits.j0 k t298 t299 t300 t301 bt306.1 bt310.1 true)))) = some r := H
 have A3 := Kp.a A30
 clear A30
 replace H := Option.bind_eq_some_iff.mp H
 obtain ⟨⟨t306, t307⟩, A40, H⟩ := H
 replace H : ((spec_Matched.f k t298 t299 t300 t301).bind fun bt310 => (if t307 = 0 then (laws_FnFits.j0 k t298 t299 t300 t301 t306 bt310.1 ((t306.length : Int) != (bt310.1.length : Int))) else (laws_FnFits.j0 k t298 t299 t300 t301 t306 bt310.1 true))) = some r := H
 have A4 := Kp.a A40
 clear A40
 replace H := Option.bind_eq_some_iff.mp H
 obtain ⟨⟨t310, t311⟩, A50, H⟩ := H
 replace H : (if t307 = 0 then (laws_FnFits.j0 k t298 t299 t300 t301 t306 t310 ((t306.length : Int) != (t310.length : Int))) else (laws_FnFits.j0 k t298 t299 t300 t301 t306 t310 true)) = some r := H
 have A5 := Kp.a A50
 clear A50
 have HC6 := Kp.a H
 clear H
 go_enter Try.func4, Try.ntmps4
 go_upto_region 6 with (first | (go_at_call 14; (with_reducible refine (spec_MatesOf.calls k _ _ l0 t298 t299 t300 t301 _ ?side1 ?side2 A3.out).mono ?_); (case side1 => repeat (first | exact HR0.out | (with_reducible refine Kd.C_alloc ?_ _) | (with_reducible refine Kd.C_drewN ?_ _) | (with_reducible refine Kd.C_drew ?_))); (case side2 => exact HC0.out); rintro e w7 ⟨v302, v304, rfl, ho0, ho1, hb⟩; have n0_ := Kp.a (Kd.R_lower ho0 (below_size (Kp.kpL HB.out))); have n1_ := Kp.a (Kd.R_lower ho1 (below_size (Kp.kpL HB.out))); have n2_ := Kp.a (below_step (Kp.kpL HB.out) hb); clear HB; have HO303 := n0_; have HO305 := n1_; have HB := n2_; clear n0_ n1_ n2_; (try clear hb); (try clear hb2); (try clear hk); (try clear hi); (try clear ho0); (try clear ho1); obtain ⟨Ao8, co8, eo8⟩ := Kd.R_slice HO303.out; subst eo8; obtain ⟨Ao9, co9, eo9⟩ := Kd.R_slice HO305.out; subst eo9) | (go_at_call 8; (with_reducible refine (impl_Matched.calls k _ _ t298 _ _ t299 t300 t301 t306 t307 _ ?side1 ?side2 ?side3 ?side4 A4.out).mono ?_); (case side1 => repeat (first | exact (Kd.R_reads' HO303.out).2.2 | (with_reducible refine Kd.C_alloc ?_ _) | (with_reducible refine Kd.C_drewN ?_ _) | (with_reducible refine Kd.C_drew ?_))); (case side2 => exact (Kd.R_reads' HO303.out).2.1); (case side3 => repeat (first | exact (Kd.R_reads' HO305.out).2.2 | (with_reducible refine Kd.C_alloc ?_ _) | (with_reducible refine Kd.C_drewN ?_ _) | (with_reducible refine Kd.C_drew ?_))); (case side4 => exact (Kd.R_reads' HO305.out).2.1); rintro e w10 ⟨v308, rfl, ho0, hb⟩; have n0_ := Kp.a (Kd.R_below (Kp.kpR HO303.out) hb); have n1_ := Kp.a (Kd.R_below (Kp.kpR HO305.out) hb); have n2_ := Kp.a (Kd.R_lower ho0 (below_size (Kp.kpL HB.out))); have n3_ := Kp.a (below_step (Kp.kpL HB.out) hb); clear HO303; clear HO305; clear HB; have HO303 := n0_; have HO305 := n1_; have HO309 := n2_; have HB := n3_; clear n0_ n1_ n2_ n3_; (try clear hb); (try clear hb2); (try clear hk); (try clear hi); (try clear ho0)) | (go_at_call 6; (with_reducible refine (spec_Matched.calls k _ _ t298 _ _ t299 t300 t301 t310 t311 _ ?side1 ?side2 ?side3 ?side4 A5.out).mono ?_); (case side1 => repeat (first | exact (Kd.R_reads' HO303.out).2.2 | (with_reducible refine Kd.C_alloc ?_ _) | (with_reducible refine Kd.C_drewN ?_ _) | (with_reducible refine Kd.C_drew ?_))); (case side2 => exact (Kd.R_reads' HO303.out).2.1); (case side3 => repeat (first | exact (Kd.R_reads' HO305.out).2.2 | (with_reducible refine Kd.C_alloc ?_ _) | (with_reducible refine Kd.C_drewN ?_ _) | (with_reducible refine Kd.C_drew ?_))); (case side4 => exact (Kd.R_reads' HO305.out).2.1); rintro e w11 ⟨v312, rfl, ho0, hb⟩; have n0_ := Kp.a (Kd.R_below (Kp.kpR HO303.out) hb); have n1_ := Kp.a (Kd.R_below (Kp.kpR HO305.out) hb); have n2_ := Kp.a (Kd.R_elder' (Kp.kpR HO309.out) (Kd.R_base ho0) hb); have n3_ := Kp.a (Kd.R_lower (Kd.R_new' ho0 (Kd.R_lt (Kp.kpR HO309.out))) (below_size (Kp.kpL HB.out))); have n4_ := Kp.a (below_step (Kp.kpL HB.out) hb); clear HO303; clear HO305; clear HO309; clear HB; have HO303 := n0_; have HO305 := n1_; have HO309 := n2_; have HO313 := n3_; have HB := n4_; clear n0_ n1_ n2_ n3_ n4_; (try clear hb); (try clear hb2); (try clear hk); (try clear hi); (try clear ho0)))
 repeat (go_quiet (first | (go_at_call 14; (with_reducible refine (spec_MatesOf.calls k _ _ l0 t298 t299 t300 t301 _ ?side1 ?side2 A3.out).mono ?_); (case side1 => repeat (first | exact HR0.out | (with_reducible refine Kd.C_alloc ?_ _) | (with_reducible refine Kd.C_drewN ?_ _) | (with_reducible refine Kd.C_drew ?_))); (case side2 => exact HC0.out); rintro e w7 ⟨v302, v304, rfl, ho0, ho1, hb⟩; have n0_ := Kp.a (Kd.R_lower ho0 (below_size (Kp.kpL HB.out))); have n1_ := Kp.a (Kd.R_lower ho1 (below_size (Kp.kpL HB.out))); have n2_ := Kp.a (below_step (Kp.kpL HB.out) hb); clear HB; have HO303 := n0_; have HO305 := n1_; have HB := n2_; clear n0_ n1_ n2_; (try clear hb); (try clear hb2); (try clear hk); (try clear hi); (try clear ho0); (try clear ho1); obtain ⟨Ao8, co8, eo8⟩ := Kd.R_slice HO303.out; subst eo8; obtain ⟨Ao9, co9, eo9⟩ := Kd.R_slice HO305.out; subst eo9) | (go_at_call 8; (with_reducible refine (impl_Matched.calls k _ _ t298 _ _ t299 t300 t301 t306 t307 _ ?side1 ?side2 ?side3 ?side4 A4.out).mono ?_); (case side1 => repeat (first | exact (Kd.R_reads' HO303.out).2.2 | (with_reducible refine Kd.C_alloc ?_ _) | (with_reducible refine Kd.C_drewN ?_ _) | (with_reducible refine Kd.C_drew ?_))); (case side2 => exact (Kd.R_reads' HO303.out).2.1); (case side3 => repeat (first | exact (Kd.R_reads' HO305.out).2.2 | (with_reducible refine Kd.C_alloc ?_ _) | (with_reducible refine Kd.C_drewN ?_ _) | (with_reducible refine Kd.C_drew ?_))); (case side4 => exact (Kd.R_reads' HO305.out).2.1); rintro e w10 ⟨v308, rfl, ho0, hb⟩; have n0_ := Kp.a (Kd.R_below (Kp.kpR HO303.out) hb); have n1_ := Kp.a (Kd.R_below (Kp.kpR HO305.out) hb); have n2_ := Kp.a (Kd.R_lower ho0 (below_size (Kp.kpL HB.out))); have n3_ := Kp.a (below_step (Kp.kpL HB.out) hb); clear HO303; clear HO305; clear HB; have HO303 := n0_; have HO305 := n1_; have HO309 := n2_; have HB := n3_; clear n0_ n1_ n2_ n3_; (try clear hb); (try clear hb2); (try clear hk); (try clear hi); (try clear ho0)) | (go_at_call 6; (with_reducible refine (spec_Matched.calls k _ _ t298 _ _ t299 t300 t301 t310 t311 _ ?side1 ?side2 ?side3 ?side4 A5.out).mono ?_); (case side1 => repeat (first | exact (Kd.R_reads' HO303.out).2.2 | (with_reducible refine Kd.C_alloc ?_ _) | (with_reducible refine Kd.C_drewN ?_ _) | (with_reducible refine Kd.C_drew ?_))); (case side2 => exact (Kd.R_reads' HO303.out).2.1); (case side3 => repeat (first | exact (Kd.R_reads' HO305.out).2.2 | (with_reducible refine Kd.C_alloc ?_ _) | (with_reducible refine Kd.C_drewN ?_ _) | (with_reducible refine Kd.C_drew ?_))); (case side4 => exact (Kd.R_reads' HO305.out).2.1); rintro e w11 ⟨v312, rfl, ho0, hb⟩; have n0_ := Kp.a (Kd.R_below (Kp.kpR HO303.out) hb); have n1_ := Kp.a (Kd.R_below (Kp.kpR HO305.out) hb); have n2_ := Kp.a (Kd.R_elder' (Kp.kpR HO309.out) (Kd.R_base ho0) hb); have n3_ := Kp.a (Kd.R_lower (Kd.R_new' ho0 (Kd.R_lt (Kp.kpR HO309.out))) (below_size (Kp.kpL HB.out))); have n4_ := Kp.a (below_step (Kp.kpL HB.out) hb); clear HO303; clear HO305; clear HO309; clear HB; have HO303 := n0_; have HO305 := n1_; have HO309 := n2_; have HO313 := n3_; have HB := n4_; clear n0_ n1_ n2_ n3_ n4_; (try clear hb); (try clear hb2); (try clear hk); (try clear hi); (try clear ho0))); go_upto_region 6 with (first | (go_at_call 14; (with_reducible refine (spec_MatesOf.calls k _ _ l0 t298 t299 t300 t301 _ ?side1 ?side2 A3.out).mono ?_); (case side1 => repeat (first | exact HR0.out | (with_reducible refine Kd.C_alloc ?_ _) | (with_reducible refine Kd.C_drewN ?_ _) | (with_reducible refine Kd.C_drew ?_))); (case side2 => exact HC0.out); rintro e w7 ⟨v302, v304, rfl, ho0, ho1, hb⟩; have n0_ := Kp.a (Kd.R_lower ho0 (below_size (Kp.kpL HB.out))); have n1_ := Kp.a (Kd.R_lower ho1 (below_size (Kp.kpL HB.out))); have n2_ := Kp.a (below_step (Kp.kpL HB.out) hb); clear HB; have HO303 := n0_; have HO305 := n1_; have HB := n2_; clear n0_ n1_ n2_; (try clear hb); (try clear hb2); (try clear hk); (try clear hi); (try clear ho0); (try clear ho1); obtain ⟨Ao8, co8, eo8⟩ := Kd.R_slice HO303.out; subst eo8; obtain ⟨Ao9, co9, eo9⟩ := Kd.R_slice HO305.out; subst eo9) | (go_at_call 8; (with_reducible refine (impl_Matched.calls k _ _ t298 _ _ t299 t300 t301 t306 t307 _ ?side1 ?side2 ?side3 ?side4 A4.out).mono ?_); (case side1 => repeat (first | exact (Kd.R_reads' HO303.out).2.2 | (with_reducible refine Kd.C_alloc ?_ _) | (with_reducible refine Kd.C_drewN ?_ _) | (with_reducible refine Kd.C_drew ?_))); (case side2 => exact (Kd.R_reads' HO303.out).2.1); (case side3 => repeat (first | exact (Kd.R_reads' HO305.out).2.2 | (with_reducible refine Kd.C_alloc ?_ _) | (with_reducible refine Kd.C_drewN ?_ _) | (with_reducible refine Kd.C_drew ?_))); (case side4 => exact (Kd.R_reads' HO305.out).2.1); rintro e w10 ⟨v308, rfl, ho0, hb⟩; have n0_ := Kp.a (Kd.R_below (Kp.kpR HO303.out) hb); have n1_ := Kp.a (Kd.R_below (Kp.kpR HO305.out) hb); have n2_ := Kp.a (Kd.R_lower ho0 (below_size (Kp.kpL HB.out))); have n3_ := Kp.a (below_step (Kp.kpL HB.out) hb); clear HO303; clear HO305; clear HB; have HO303 := n0_; have HO305 := n1_; have HO309 := n2_; have HB := n3_; clear n0_ n1_ n2_ n3_; (try clear hb); (try clear hb2); (try clear hk); (try clear hi); (try clear ho0)) | (go_at_call 6; (with_reducible refine (spec_Matched.calls k _ _ t298 _ _ t299 t300 t301 t310 t311 _ ?side1 ?side2 ?side3 ?side4 A5.out).mono ?_); (case side1 => repeat (first | exact (Kd.R_reads' HO303.out).2.2 | (with_reducible refine Kd.C_alloc ?_ _) | (with_reducible refine Kd.C_drewN ?_ _) | (with_reducible refine Kd.C_drew ?_))); (case side2 => exact (Kd.R_reads' HO303.out).2.1); (case side3 => repeat (first | exact (Kd.R_reads' HO305.out).2.2 | (with_reducible refine Kd.C_alloc ?_ _) | (with_reducible refine Kd.C_drewN ?_ _) | (with_reducible refine Kd.C_drew ?_))); (case side4 => exact (Kd.R_reads' HO305.out).2.1); rintro e w11 ⟨v312, rfl, ho0, hb⟩; have n0_ := Kp.a (Kd.R_below (Kp.kpR HO303.out) hb); have n1_ := Kp.a (Kd.R_below (Kp.kpR HO305.out) hb); have n2_ := Kp.a (Kd.R_elder' (Kp.kpR HO309.out) (Kd.R_base ho0) hb); have n3_ := Kp.a (Kd.R_lower (Kd.R_new' ho0 (Kd.R_lt (Kp.kpR HO309.out))) (below_size (Kp.kpL HB.out))); have n4_ := Kp.a (below_step (Kp.kpL HB.out) hb); clear HO303; clear HO305; clear HO309; clear HB; have HO303 := n0_; have HO305 := n1_; have HO309 := n2_; have HO313 := n3_; have HB := n4_; clear n0_ n1_ n2_ n3_ n4_; (try clear hb); (try clear hb2); (try clear hk); (try clear hi); (try clear ho0))))
 (try simp only [Act.put, Kp.s0, Kp.s1, Kp.s2])
 go_cut [58] (fun v58 wc => ∃ (kq : Nat) (x58_5 : Bool), v58 = .bool x58_5 ∧ Aside0 (laws_FnFits.j0 kq t298 t299 t300 t301 t306 t310 x58_5 = some r) ∧ Aside0 (kq ≤ k) ∧ Aside0 (Kd.R (Kd.int .i64) 3 wc w.heap.size (fun k_ => some k_ ≠ ((.slice Ao9 t299.length co9) : Value).ownBlock) (.slice Ao8 t298.length co8) t298) ∧ Aside0 (Kd.R (Kd.int .i64) 3 wc w.heap.size (fun k_ => some k_ ≠ ((.slice Ao8 t298.length co8) : Value).ownBlock) (.slice Ao9 t299.length co9) t299) ∧ Aside0 (Kd.R k37 37 wc w.heap.size (fun k_ => some k_ ≠ (v312 : Value).ownBlock) v308 t306) ∧ Aside0 (Kd.R k37 37 wc w.heap.size (fun k_ => some k_ ≠ (v308 : Value).ownBlock) v312 t310) ∧ Aside0 (Below w.heap.size w wc))
 case first => as_aux_lemma =>
  have H := HC6.out
  clear HC6
  by_cases c12 : t307 = 0
  rotate_left
  ·rw [if_neg c12] at H
   have c12b0 : (t307 == 0) = false := beq_eq_false_iff_ne.mpr c12
   have c12b1 : (t307 != 0) = true := bne_iff_ne.mpr c12
   (first | rw [c12b0] | (simp only [i64_w, i32_w]; rw [c12b0]) | skip)
   have H' := Kp.a H
   clear H
   go_wp2
   repeat (go_quiet (fail); try go_wp2)
   go_meet
   case rel => exact ⟨_, (true), (by first | rfl | (simp; done) | (simp [*]; done)), H', ⟨by first | omega | exact Nat.le_refl _⟩, ⟨Kp.kpR HO303.out⟩, ⟨Kp.kpR HO305.out⟩, ⟨Kp.kpR (Kd.R_mono HO309.out (fun _ hk => hk.2))⟩, ⟨Kp.kpR (Kd.R_mono HO313.out (fun _ hk => hk.2))⟩, ⟨Kp.kpL HB.out⟩⟩
  rw [if_pos c12] at H
  have c12b0 : (t307 == 0) = true := beq_iff_eq.mpr c12
  have c12b1 : (t307 != 0) = false := bne_eq_false_iff_eq.mpr c12
  clear c12
  (first | rw [c12b0] | (simp only [i64_w, i32_w]; rw [c12b0]) | skip)
  have H' := Kp.a H
  clear H
  obtain ⟨Ao13, co13, eo13⟩ := Kd.R_slice HO309.out
  subst eo13
  obtain ⟨Ao14, co14, eo14⟩ := Kd.R_slice HO313.out
  subst eo14
  go_wp2
  repeat (go_quiet (fail); try go_wp2)
  go_meet
  case rel => exact ⟨_, (((t306.length : Int) != (t310.length : Int))), (by first | rfl | (simp; done) | (simp [*]; done)), H', ⟨by first | omega | exact Nat.le_refl _⟩, ⟨Kp.kpR HO303.out⟩, ⟨Kp.kpR HO305.out⟩, ⟨Kp.kpR (Kd.R_mono HO309.out (fun _ hk => hk.2))⟩, ⟨Kp.kpR (Kd.R_mono HO313.out (fun _ hk => hk.2))⟩, ⟨Kp.kpL HB.out⟩⟩
 case rest => as_aux_lemma =>
  clear HC6
  try clear c1
  try clear c2
  try clear c2b0
  try clear c2b1
  try clear p2
  try clear c4
  try clear c12
  try clear c12b0
  try clear c12b1
  obtain ⟨kq, x58_5, rfl, HA, HJ5, HO_3, HO_4, HO_7, HO_9, HB⟩ := hcut
  cases kq with
  | zero => exact absurd HA.out (by simp [laws_FnFits.j0])
  | succ kj5 =>
   have H := HA.out
   clear HA
   simp only [laws_FnFits.j0] at H
   by_cases c15 : x58_5 = true
   ·subst c15
    have H1 : (some false) = some r := by rw [if_pos rfl] at H; exact H
    clear H
    have H := H1
    clear H1
    obtain rfl := Option.some.inj H
    go_wp2
    repeat (go_quiet (fail); try go_wp2)
    go_ret
    exact ⟨by first | rfl | (simp [errW_none, errW_some] <;> rfl) | (simp [*, errW_none, errW_some] <;> rfl), Kp.kpL HB.out⟩
   replace c15 := Bool.eq_false_iff.mpr c15
   subst c15
   have H1 : (if 0 ≤ (t298.length : Int) then (if ((t298.length : Int) : Int).toNat ≤ 281474976710656 then (if 0 ≤ (t299.length : Int) then (if ((t299.length : Int) : Int).toNat ≤ 281474976710656 then (laws_FnFits.l0 kj5 t298 t299 t300 t301 t306 t310 (List.replicate ((t298.length : Int) : Int).toNat false) (List.replicate ((t299.length : Int) : Int).toNat false) 0) else (none)) else (none)) else (none)) else (none)) = some r := by rw [if_neg (show ¬ (false = true) by decide)] at H; exact H
   clear H
   have H := H1
   clear H1
   by_cases c16 : 0 ≤ (t298.length : Int)
   rotate_left
   ·rw [if_neg c16] at H
    exact absurd H (by simp)
   rw [if_pos c16] at H
   have c16b0 := eq_true c16
   have c16b1 : decide (0 ≤ (t298.length : Int)) = true := decide_eq_true c16
   clear c16
   by_cases c17 : ((t298.length : Int) : Int).toNat ≤ 281474976710656
   rotate_left
   ·rw [if_neg c17] at H
    exact absurd H (by simp)
   rw [if_pos c17] at H
   have c17b0 := eq_true c17
   have c17b1 : decide (((t298.length : Int) : Int).toNat ≤ 281474976710656) = true := decide_eq_true c17
   clear c17
   obtain ⟨y314, hy314⟩ : ∃ y_ : List Bool, y_ = (List.replicate ((t298.length : Int) : Int).toNat false) := ⟨_, rfl⟩
   replace H : (if 0 ≤ (t299.length : Int) then (if ((t299.length : Int) : Int).toNat ≤ 281474976710656 then (laws_FnFits.l0 kj5 t298 t299 t300 t301 t306 t310 y314 (List.replicate ((t299.length : Int) : Int).toNat false) 0) else (none)) else (none)) = some r := by first | (rw [hy314]; with_reducible exact H) | (have H2_ := (Option.bind_some _ _).symm.trans H; rw [hy314]; with_reducible exact H2_) | (have H2_ := (Option.bind_some _ _).symm.trans H; with_reducible exact H2_) | with_reducible exact H | (rw [hy314]; exact H) | exact H
   have Ny314 := Kp.a hy314
   clear hy314
   by_cases c18 : 0 ≤ (t299.length : Int)
   rotate_left
   ·rw [if_neg c18] at H
    exact absurd H (by simp)
   rw [if_pos c18] at H
   have c18b0 := eq_true c18
   have c18b1 : decide (0 ≤ (t299.length : Int)) = true := decide_eq_true c18
   clear c18
   by_cases c19 : ((t299.length : Int) : Int).toNat ≤ 281474976710656
   rotate_left
   ·rw [if_neg c19] at H
    exact absurd H (by simp)
   rw [if_pos c19] at H
   have c19b0 := eq_true c19
   have c19b1 : decide (((t299.length : Int) : Int).toNat ≤ 281474976710656) = true := decide_eq_true c19
   clear c19
   obtain ⟨y317, hy317⟩ : ∃ y_ : List Bool, y_ = (List.replicate ((t299.length : Int) : Int).toNat false) := ⟨_, rfl⟩
   replace H : (laws_FnFits.l0 kj5 t298 t299 t300 t301 t306 t310 y314 y317 0) = some r := by first | (rw [hy317]; with_reducible exact H) | (have H2_ := (Option.bind_some _ _).symm.trans H; rw [hy317]; with_reducible exact H2_) | (have H2_ := (Option.bind_some _ _).symm.trans H; with_reducible exact H2_) | with_reducible exact H | (rw [hy317]; exact H) | exact H
   have Ny317 := Kp.a hy317
   clear hy317
   have H' := Kp.a H
   clear H
   go_wp2_with (first | ((with_reducible refine gate_dst (N := 61) rfl ?_); (try (refine gate_guard (by rfl) ?_; dsimp only)); refine Kd.R_make Kd.bool _ 4 rfl (N := 61) rfl 35 _ _ rfl (t298.length : Int) rfl rfl Try.underlying35 (.bool false) 1 info4 rfl (by decide) (by omega) false (ok := fun _ => True) (okp := fun _ => True) rfl (fun _ hk => hk) trivial (Kp.d) (Nat.le_trans (Nat.mul_le_mul_right _ (Kp.d : (t298.length : Int).toNat ≤ 281474976710656)) (by omega)) (Below.refl _ _) (Nat.le_refl _) ?_; intro v315 w20 ho21 hb hg_ hnew_; clear hg_ hnew_; (first | rw [← Ny314.out] at ho21 | (simp only [Int.reduceToNat] at ho21; rw [← Ny314.out] at ho21)); have n0_ := Kp.a (Kd.R_below (Kp.kpR HO_3.out) hb); have n1_ := Kp.a (Kd.R_below (Kp.kpR HO_4.out) hb); have n2_ := Kp.a (Kd.R_below (Kp.kpR HO_7.out) hb); have n3_ := Kp.a (Kd.R_below (Kp.kpR HO_9.out) hb); have n4_ := Kp.a (Kd.R_lower ho21 (below_size (Kp.kpL HB.out))); have n5_ := Kp.a (below_step (Kp.kpL HB.out) hb); clear HO_3; clear HO_4; clear HO_7; clear HO_9; clear HB; have HO_3 := n0_; have HO_4 := n1_; have HO_7 := n2_; have HO_9 := n3_; have HO316 := n4_; have HB := n5_; clear n0_ n1_ n2_ n3_ n4_ n5_; clear hb ho21) | ((with_reducible refine gate_dst (N := 64) rfl ?_); (try (refine gate_guard (by rfl) ?_; dsimp only)); refine Kd.R_make Kd.bool _ 4 rfl (N := 64) rfl 35 _ _ rfl (t299.length : Int) rfl rfl Try.underlying35 (.bool false) 1 info4 rfl (by decide) (by omega) false (ok := fun _ => True) (okp := fun _ => True) rfl (fun _ hk => hk) trivial (Kp.d) (Nat.le_trans (Nat.mul_le_mul_right _ (Kp.d : (t299.length : Int).toNat ≤ 281474976710656)) (by omega)) (Below.refl _ _) (Nat.le_refl _) ?_; intro v318 w22 ho23 hb hg_ hnew_; clear hg_ hnew_; (first | rw [← Ny317.out] at ho23 | (simp only [Int.reduceToNat] at ho23; rw [← Ny317.out] at ho23)); have n0_ := Kp.a (Kd.R_below (Kp.kpR HO_3.out) hb); have n1_ := Kp.a (Kd.R_below (Kp.kpR HO_4.out) hb); have n2_ := Kp.a (Kd.R_below (Kp.kpR HO_7.out) hb); have n3_ := Kp.a (Kd.R_below (Kp.kpR HO_9.out) hb); have n4_ := Kp.a (Kd.R_elder' (Kp.kpR HO316.out) (Kd.R_base ho23) hb); have n5_ := Kp.a (Kd.R_lower (Kd.R_new' ho23 (Kd.R_lt (Kp.kpR HO316.out))) (below_size (Kp.kpL HB.out))); have n6_ := Kp.a (below_step (Kp.kpL HB.out) hb); clear HO_3; clear HO_4; clear HO_7; clear HO_9; clear HO316; clear HB; have HO_3 := n0_; have HO_4 := n1_; have HO_7 := n2_; have HO_9 := n3_; have HO316 := n4_; have HO319 := n5_; have HB := n6_; clear n0_ n1_ n2_ n3_ n4_ n5_ n6_; clear hb ho23))
   repeat (go_quiet (first | ((with_reducible refine gate_dst (N := 61) rfl ?_); (try (refine gate_guard (by rfl) ?_; dsimp only)); refine Kd.R_make Kd.bool _ 4 rfl (N := 61) rfl 35 _ _ rfl (t298.length : Int) rfl rfl Try.underlying35 (.bool false) 1 info4 rfl (by decide) (by omega) false (ok := fun _ => True) (okp := fun _ => True) rfl (fun _ hk => hk) trivial (Kp.d) (Nat.le_trans (Nat.mul_le_mul_right _ (Kp.d : (t298.length : Int).toNat ≤ 281474976710656)) (by omega)) (Below.refl _ _) (Nat.le_refl _) ?_; intro v315 w20 ho21 hb hg_ hnew_; clear hg_ hnew_; (first | rw [← Ny314.out] at ho21 | (simp only [Int.reduceToNat] at ho21; rw [← Ny314.out] at ho21)); have n0_ := Kp.a (Kd.R_below (Kp.kpR HO_3.out) hb); have n1_ := Kp.a (Kd.R_below (Kp.kpR HO_4.out) hb); have n2_ := Kp.a (Kd.R_below (Kp.kpR HO_7.out) hb); have n3_ := Kp.a (Kd.R_below (Kp.kpR HO_9.out) hb); have n4_ := Kp.a (Kd.R_lower ho21 (below_size (Kp.kpL HB.out))); have n5_ := Kp.a (below_step (Kp.kpL HB.out) hb); clear HO_3; clear HO_4; clear HO_7; clear HO_9; clear HB; have HO_3 := n0_; have HO_4 := n1_; have HO_7 := n2_; have HO_9 := n3_; have HO316 := n4_; have HB := n5_; clear n0_ n1_ n2_ n3_ n4_ n5_; clear hb ho21) | ((with_reducible refine gate_dst (N := 64) rfl ?_); (try (refine gate_guard (by rfl) ?_; dsimp only)); refine Kd.R_make Kd.bool _ 4 rfl (N := 64) rfl 35 _ _ rfl (t299.length : Int) rfl rfl Try.underlying35 (.bool false) 1 info4 rfl (by decide) (by omega) false (ok := fun _ => True) (okp := fun _ => True) rfl (fun _ hk => hk) trivial (Kp.d) (Nat.le_trans (Nat.mul_le_mul_right _ (Kp.d : (t299.length : Int).toNat ≤ 281474976710656)) (by omega)) (Below.refl _ _) (Nat.le_refl _) ?_; intro v318 w22 ho23 hb hg_ hnew_; clear hg_ hnew_; (first | rw [← Ny317.out] at ho23 | (simp only [Int.reduceToNat] at ho23; rw [← Ny317.out] at ho23)); have n0_ := Kp.a (Kd.R_below (Kp.kpR HO_3.out) hb); have n1_ := Kp.a (Kd.R_below (Kp.kpR HO_4.out) hb); have n2_ := Kp.a (Kd.R_below (Kp.kpR HO_7.out) hb); have n3_ := Kp.a (Kd.R_below (Kp.kpR HO_9.out) hb); have n4_ := Kp.a (Kd.R_elder' (Kp.kpR HO316.out) (Kd.R_base ho23) hb); have n5_ := Kp.a (Kd.R_lower (Kd.R_new' ho23 (Kd.R_lt (Kp.kpR HO316.out))) (below_size (Kp.kpL HB.out))); have n6_ := Kp.a (below_step (Kp.kpL HB.out) hb); clear HO_3; clear HO_4; clear HO_7; clear HO_9; clear HO316; clear HB; have HO_3 := n0_; have HO_4 := n1_; have HO_7 := n2_; have HO_9 := n3_; have HO316 := n4_; have HO319 := n5_; have HB := n6_; clear n0_ n1_ n2_ n3_ n4_ n5_ n6_; clear hb ho23)); try go_wp2_with (first | ((with_reducible refine gate_dst (N := 61) rfl ?_); (try (refine gate_guard (by rfl) ?_; dsimp only)); refine Kd.R_make Kd.bool _ 4 rfl (N := 61) rfl 35 _ _ rfl (t298.length : Int) rfl rfl Try.underlying35 (.bool false) 1 info4 rfl (by decide) (by omega) false (ok := fun _ => True) (okp := fun _ => True) rfl (fun _ hk => hk) trivial (Kp.d) (Nat.le_trans (Nat.mul_le_mul_right _ (Kp.d : (t298.length : Int).toNat ≤ 281474976710656)) (by omega)) (Below.refl _ _) (Nat.le_refl _) ?_; intro v315 w20 ho21 hb hg_ hnew_; clear hg_ hnew_; (first | rw [← Ny314.out] at ho21 | (simp only [Int.reduceToNat] at ho21; rw [← Ny314.out] at ho21)); have n0_ := Kp.a (Kd.R_below (Kp.kpR HO_3.out) hb); have n1_ := Kp.a (Kd.R_below (Kp.kpR HO_4.out) hb); have n2_ := Kp.a (Kd.R_below (Kp.kpR HO_7.out) hb); have n3_ := Kp.a (Kd.R_below (Kp.kpR HO_9.out) hb); have n4_ := Kp.a (Kd.R_lower ho21 (below_size (Kp.kpL HB.out))); have n5_ := Kp.a (below_step (Kp.kpL HB.out) hb); clear HO_3; clear HO_4; clear HO_7; clear HO_9; clear HB; have HO_3 := n0_; have HO_4 := n1_; have HO_7 := n2_; have HO_9 := n3_; have HO316 := n4_; have HB := n5_; clear n0_ n1_ n2_ n3_ n4_ n5_; clear hb ho21) | ((with_reducible refine gate_dst (N := 64) rfl ?_); (try (refine gate_guard (by rfl) ?_; dsimp only)); refine Kd.R_make Kd.bool _ 4 rfl (N := 64) rfl 35 _ _ rfl (t299.length : Int) rfl rfl Try.underlying35 (.bool false) 1 info4 rfl (by decide) (by omega) false (ok := fun _ => True) (okp := fun _ => True) rfl (fun _ hk => hk) trivial (Kp.d) (Nat.le_trans (Nat.mul_le_mul_right _ (Kp.d : (t299.length : Int).toNat ≤ 281474976710656)) (by omega)) (Below.refl _ _) (Nat.le_refl _) ?_; intro v318 w22 ho23 hb hg_ hnew_; clear hg_ hnew_; (first | rw [← Ny317.out] at ho23 | (simp only [Int.reduceToNat] at ho23; rw [← Ny317.out] at ho23)); have n0_ := Kp.a (Kd.R_below (Kp.kpR HO_3.out) hb); have n1_ := Kp.a (Kd.R_below (Kp.kpR HO_4.out) hb); have n2_ := Kp.a (Kd.R_below (Kp.kpR HO_7.out) hb); have n3_ := Kp.a (Kd.R_below (Kp.kpR HO_9.out) hb); have n4_ := Kp.a (Kd.R_elder' (Kp.kpR HO316.out) (Kd.R_base ho23) hb); have n5_ := Kp.a (Kd.R_lower (Kd.R_new' ho23 (Kd.R_lt (Kp.kpR HO316.out))) (below_size (Kp.kpL HB.out))); have n6_ := Kp.a (below_step (Kp.kpL HB.out) hb); clear HO_3; clear HO_4; clear HO_7; clear HO_9; clear HO316; clear HB; have HO_3 := n0_; have HO_4 := n1_; have HO_7 := n2_; have HO_9 := n3_; have HO316 := n4_; have HO319 := n5_; have HB := n6_; clear n0_ n1_ n2_ n3_ n4_ n5_ n6_; clear hb ho23)))
   go_loopg [13] kj5 (fun kq v13 w' => ∃ (x11_2 : List Bool) (x12_2 : List Bool) (x13_2 : Int), v13 = .int .i64 x13_2 ∧ Aside0 (laws_FnFits.l0 kq t298 t299 t300 t301 t306 t310 x11_2 x12_2 x13_2 = some r) ∧ Aside0 (kq ≤ kj5) ∧ Aside0 (Kd.R (Kd.int .i64) 3 w' w.heap.size (fun k_ => some k_ ≠ ((.slice Ao9 t299.length co9) : Value).ownBlock) (.slice Ao8 t298.length co8) t298) ∧ Aside0 (Kd.R (Kd.int .i64) 3 w' w.heap.size (fun k_ => some k_ ≠ ((.slice Ao8 t298.length co8) : Value).ownBlock) (.slice Ao9 t299.length co9) t299) ∧ Aside0 (Kd.R k37 37 w' w.heap.size (fun k_ => some k_ ≠ (v312 : Value).ownBlock) v308 t306) ∧ Aside0 (Kd.R k37 37 w' w.heap.size (fun k_ => some k_ ≠ (v308 : Value).ownBlock) v312 t310) ∧ Aside0 (Kd.R Kd.bool 4 w' w.heap.size (fun k_ => some k_ ≠ (v318 : Value).ownBlock) v315 x11_2) ∧ Aside0 (Kd.R Kd.bool 4 w' w.heap.size (fun k_ => some k_ ≠ (v315 : Value).ownBlock) v318 x12_2) ∧ Aside0 (Below w.heap.size w w'))
   case atStart => exact ⟨(y314), (y317), (0), (by first | rfl | (simp; done) | (simp [*]; done)), H', ⟨Nat.le_refl _⟩, ⟨Kp.kpR HO_3.out⟩, ⟨Kp.kpR HO_4.out⟩, ⟨Kp.kpR HO_7.out⟩, ⟨Kp.kpR HO_9.out⟩, ⟨Kp.kpR (Kd.R_mono HO316.out (fun _ hk => hk.2))⟩, ⟨Kp.kpR (Kd.R_mono HO319.out (fun _ hk => hk.2))⟩, ⟨Kp.kpL HB.out⟩⟩
   case round => as_aux_lemma =>
    clear H'
    try clear c1
    try clear c2
    try clear c2b0
    try clear c2b1
    try clear p2
    try clear c4
    try clear c12
    try clear c12b0
    try clear c12b1
    try clear c15
    try clear c16
    try clear c16b0
    try clear c16b1
    try clear c17
    try clear c17b0
    try clear c17b1
    try clear c18
    try clear c18b0
    try clear c18b1
    try clear c19
    try clear c19b0
    try clear c19b1
    try clear p2
    obtain ⟨x11_2, x12_2, x13_2, rfl, HA, HK2, HO_3, HO_4, HO_7, HO_9, HO_11, HO_12, HB⟩ := hrel
    cases gk with
    | zero => exact absurd HA.out (by simp [laws_FnFits.l0])
    | succ k2 =>
     have H := HA.out
     clear HA
     simp only [laws_FnFits.l0] at H
     by_cases c24 : x13_2 < (t306.length : Int)
     ·rw [if_pos c24] at H
      have c24b0 : decide (x13_2 < (t306.length : Int)) = true := decide_eq_true c24
      clear c24
      by_cases c25 : 0 ≤ x13_2
      rotate_left
      ·rw [if_neg c25] at H
       exact absurd H (by simp)
      rw [if_pos c25] at H
      have c25b0 : decide (0 ≤ x13_2) = true := decide_eq_true c25
      clear c25
      have HC26 := Kp.a H
      clear H
      obtain ⟨Ao27, co27, eo27⟩ := Kd.R_slice HO_7.out
      subst eo27
      have p320 : 0 ≤ (x13_2 : Int) := Kp.d
      have q320 : x13_2 < (t306.length : Int) := Kp.d
      obtain ⟨ad320, e320, hx320_0, hx320_1⟩ := at_T37 (Kd.R_reads' HO_7.out).2.2 x13_2 p320 q320
      cases e320
      replace p320 := eq_true p320
      replace q320 := eq_true q320
      go_upto_region 14 with (first | ((with_reducible refine gate_dst (N := 14) rfl ?_); (try (refine gate_guard (by rfl) ?_; dsimp only)); refine box_event ?hg (N := 14) ?hd (cs := #[.int .i64 0, .int .i64 0]) (t := 37) ?hr ?_; (case hd => rfl); (case hg => rfl); (case hr => first | (go_simp; done) | (go_simp; rfl)); intro gb321 hg w28 hbox hb; have n0_ := Kp.a (Kd.R_below (Kp.kpR HO_3.out) hb); have n1_ := Kp.a (Kd.R_below (Kp.kpR HO_4.out) hb); have n2_ := Kp.a (Kd.R_below (Kd.R_elderB (Kp.kpR HO_7.out) gb321 (Nat.le_of_eq hg.symm)) hb); have n3_ := Kp.a (Kd.R_below (Kd.R_elderB (Kp.kpR HO_9.out) gb321 (Nat.le_of_eq hg.symm)) hb); have n4_ := Kp.a (Kd.R_below (Kp.kpR HO_11.out) hb); have n5_ := Kp.a (Kd.R_below (Kp.kpR HO_12.out) hb); have n6_ := Kp.a (below_step (Kp.kpL HB.out) hb); have n7_ := Kp.a (hbox); have n8_ := Kp.a ((by rw [hg]; exact (below_size (Kp.kpL HB.out)) : w.heap.size ≤ gb321)); have n9_ := Kp.a ((by rw [hg]; exact (below_size (Kp.kpL HB.out)) : w.heap.size ≤ gb321)); clear HO_3; clear HO_4; clear HO_7; clear HO_9; clear HO_11; clear HO_12; clear HB; have HO_3 := n0_; have HO_4 := n1_; have HO_7 := n2_; have HO_9 := n3_; have HO_11 := n4_; have HO_12 := n5_; have HB := n6_; have BK321 := n7_; have GW321 := n8_; have GE321 := n9_; clear n0_ n1_ n2_ n3_ n4_ n5_ n6_ n7_ n8_ n9_; clear hb hbox hg; have hcz29_0 : w28.cell? ⟨gb321, 0, none⟩ = some (.int .i64 0) := (blk_cell BK321.out 0).trans rfl; have hcz29_1 : w28.cell? ⟨gb321, 1, none⟩ = some (.int .i64 0) := (blk_cell BK321.out 1).trans rfl; have hfz29_0 := blk_frozen BK321.out 0; have hfz29_1 := blk_frozen BK321.out 1))
      repeat (go_quiet (first | ((with_reducible refine gate_dst (N := 14) rfl ?_); (try (refine gate_guard (by rfl) ?_; dsimp only)); refine box_event ?hg (N := 14) ?hd (cs := #[.int .i64 0, .int .i64 0]) (t := 37) ?hr ?_; (case hd => rfl); (case hg => rfl); (case hr => first | (go_simp; done) | (go_simp; rfl)); intro gb321 hg w28 hbox hb; have n0_ := Kp.a (Kd.R_below (Kp.kpR HO_3.out) hb); have n1_ := Kp.a (Kd.R_below (Kp.kpR HO_4.out) hb); have n2_ := Kp.a (Kd.R_below (Kd.R_elderB (Kp.kpR HO_7.out) gb321 (Nat.le_of_eq hg.symm)) hb); have n3_ := Kp.a (Kd.R_below (Kd.R_elderB (Kp.kpR HO_9.out) gb321 (Nat.le_of_eq hg.symm)) hb); have n4_ := Kp.a (Kd.R_below (Kp.kpR HO_11.out) hb); have n5_ := Kp.a (Kd.R_below (Kp.kpR HO_12.out) hb); have n6_ := Kp.a (below_step (Kp.kpL HB.out) hb); have n7_ := Kp.a (hbox); have n8_ := Kp.a ((by rw [hg]; exact (below_size (Kp.kpL HB.out)) : w.heap.size ≤ gb321)); have n9_ := Kp.a ((by rw [hg]; exact (below_size (Kp.kpL HB.out)) : w.heap.size ≤ gb321)); clear HO_3; clear HO_4; clear HO_7; clear HO_9; clear HO_11; clear HO_12; clear HB; have HO_3 := n0_; have HO_4 := n1_; have HO_7 := n2_; have HO_9 := n3_; have HO_11 := n4_; have HO_12 := n5_; have HB := n6_; have BK321 := n7_; have GW321 := n8_; have GE321 := n9_; clear n0_ n1_ n2_ n3_ n4_ n5_ n6_ n7_ n8_ n9_; clear hb hbox hg; have hcz29_0 : w28.cell? ⟨gb321, 0, none⟩ = some (.int .i64 0) := (blk_cell BK321.out 0).trans rfl; have hcz29_1 : w28.cell? ⟨gb321, 1, none⟩ = some (.int .i64 0) := (blk_cell BK321.out 1).trans rfl; have hfz29_0 := blk_frozen BK321.out 0; have hfz29_1 := blk_frozen BK321.out 1)); go_upto_region 14 with (first | ((with_reducible refine gate_dst (N := 14) rfl ?_); (try (refine gate_guard (by rfl) ?_; dsimp only)); refine box_event ?hg (N := 14) ?hd (cs := #[.int .i64 0, .int .i64 0]) (t := 37) ?hr ?_; (case hd => rfl); (case hg => rfl); (case hr => first | (go_simp; done) | (go_simp; rfl)); intro gb321 hg w28 hbox hb; have n0_ := Kp.a (Kd.R_below (Kp.kpR HO_3.out) hb); have n1_ := Kp.a (Kd.R_below (Kp.kpR HO_4.out) hb); have n2_ := Kp.a (Kd.R_below (Kd.R_elderB (Kp.kpR HO_7.out) gb321 (Nat.le_of_eq hg.symm)) hb); have n3_ := Kp.a (Kd.R_below (Kd.R_elderB (Kp.kpR HO_9.out) gb321 (Nat.le_of_eq hg.symm)) hb); have n4_ := Kp.a (Kd.R_below (Kp.kpR HO_11.out) hb); have n5_ := Kp.a (Kd.R_below (Kp.kpR HO_12.out) hb); have n6_ := Kp.a (below_step (Kp.kpL HB.out) hb); have n7_ := Kp.a (hbox); have n8_ := Kp.a ((by rw [hg]; exact (below_size (Kp.kpL HB.out)) : w.heap.size ≤ gb321)); have n9_ := Kp.a ((by rw [hg]; exact (below_size (Kp.kpL HB.out)) : w.heap.size ≤ gb321)); clear HO_3; clear HO_4; clear HO_7; clear HO_9; clear HO_11; clear HO_12; clear HB; have HO_3 := n0_; have HO_4 := n1_; have HO_7 := n2_; have HO_9 := n3_; have HO_11 := n4_; have HO_12 := n5_; have HB := n6_; have BK321 := n7_; have GW321 := n8_; have GE321 := n9_; clear n0_ n1_ n2_ n3_ n4_ n5_ n6_ n7_ n8_ n9_; clear hb hbox hg; have hcz29_0 : w28.cell? ⟨gb321, 0, none⟩ = some (.int .i64 0) := (blk_cell BK321.out 0).trans rfl; have hcz29_1 : w28.cell? ⟨gb321, 1, none⟩ = some (.int .i64 0) := (blk_cell BK321.out 1).trans rfl; have hfz29_0 := blk_frozen BK321.out 0; have hfz29_1 := blk_frozen BK321.out 1)))
      (try simp only [Act.put, Kp.s0, Kp.s1, Kp.s2])
      go_cut [118] (fun v118 wc => ∃ (kq : Nat) (x118_25 : Bool), v118 = .bool x118_25 ∧ Aside0 (laws_FnFits.j2 kq t298 t299 t300 t301 t306 t310 x11_2 x12_2 x13_2 x118_25 ((rd_T37 t306 x13_2).f0) ((rd_T37 t306 x13_2).f1) = some r) ∧ Aside0 (kq ≤ k2) ∧ Aside0 (Kd.R (Kd.int .i64) 3 wc w.heap.size (fun k_ => some k_ ≠ ((.slice Ao9 t299.length co9) : Value).ownBlock) (.slice Ao8 t298.length co8) t298) ∧ Aside0 (Kd.R (Kd.int .i64) 3 wc w.heap.size (fun k_ => some k_ ≠ ((.slice Ao8 t298.length co8) : Value).ownBlock) (.slice Ao9 t299.length co9) t299) ∧ Aside0 (Kd.R k37 37 wc w.heap.size (fun k_ => some k_ ≠ (v312 : Value).ownBlock ∧ k_ ≠ gb321) (.slice (some ad320) t306.length co27) t306) ∧ Aside0 (Kd.R k37 37 wc w.heap.size (fun k_ => some k_ ≠ ((.slice (some ad320) t306.length co27) : Value).ownBlock ∧ k_ ≠ gb321) v312 t310) ∧ Aside0 (Kd.R Kd.bool 4 wc w.heap.size (fun k_ => some k_ ≠ (v318 : Value).ownBlock) v315 x11_2) ∧ Aside0 (Kd.R Kd.bool 4 wc w.heap.size (fun k_ => some k_ ≠ (v315 : Value).ownBlock) v318 x12_2) ∧ Aside0 (wc.heap[gb321]? = some (.cells #[.int .i64 ((rd_T37 t306 x13_2).f0), .int .i64 ((rd_T37 t306 x13_2).f1)] 37 (0, 0))) ∧ Aside0 (Below w.heap.size w wc))
      case first => as_aux_lemma =>
       have H := HC26.out
       clear HC26
       by_cases c30 : ((rd_T37 t306 x13_2).f0) < 0
       ·rw [if_pos c30] at H
        have c30b0 : decide (((rd_T37 t306 x13_2).f0) < 0) = true := decide_eq_true c30
        clear c30
        (first | rw [c30b0] | (simp only [i64_w, i32_w]; rw [c30b0]) | skip)
        have H' := Kp.a H
        clear H
        have hcz31_0 : w28.cell? ⟨gb321, 0, none⟩ = some (.int .i64 0) := (blk_cell BK321.out 0).trans rfl
        have hcz31_1 : w28.cell? ⟨gb321, 1, none⟩ = some (.int .i64 0) := (blk_cell BK321.out 1).trans rfl
        have hfz31_0 := blk_frozen BK321.out 0
        have hfz31_1 := blk_frozen BK321.out 1
        go_wp2
        repeat (go_quiet (fail); try go_wp2)
        go_meet
        case rel => exact ⟨_, (true), (by first | rfl | (simp; done) | (simp [*]; done)), H', ⟨by have := HJ5.out; have := HK2.out; first | omega | exact Nat.le_refl _⟩, ⟨Kp.kpR (Kd.R_mono (Kd.R_far (p := ⟨gb321, 1, none⟩) (Kd.R_far (p := ⟨gb321, 0, none⟩) (Kd.R_types HO_3.out BK321.out (by decide)) (fun _ hk => hk.2) (.int .i64 ((rd_T37 t306 x13_2).f0))) (fun _ hk => hk.2) (.int .i64 ((rd_T37 t306 x13_2).f1))) (fun _ hk => hk.1))⟩, ⟨Kp.kpR (Kd.R_mono (Kd.R_far (p := ⟨gb321, 1, none⟩) (Kd.R_far (p := ⟨gb321, 0, none⟩) (Kd.R_types HO_4.out BK321.out (by decide)) (fun _ hk => hk.2) (.int .i64 ((rd_T37 t306 x13_2).f0))) (fun _ hk => hk.2) (.int .i64 ((rd_T37 t306 x13_2).f1))) (fun _ hk => hk.1))⟩, ⟨Kp.kpR (Kd.R_mono (Kd.R_far (p := ⟨gb321, 1, none⟩) (Kd.R_far (p := ⟨gb321, 0, none⟩) (Kd.R_mono HO_7.out (fun k_ hk => (⟨hk, hk.2⟩ : _ ∧ k_ ≠ gb321))) (fun _ hk => hk.2) (.int .i64 ((rd_T37 t306 x13_2).f0))) (fun _ hk => hk.2) (.int .i64 ((rd_T37 t306 x13_2).f1))) (fun _ hk => ⟨hk.1.1, hk.1.2⟩))⟩, ⟨Kp.kpR (Kd.R_mono (Kd.R_far (p := ⟨gb321, 1, none⟩) (Kd.R_far (p := ⟨gb321, 0, none⟩) (Kd.R_mono HO_9.out (fun k_ hk => (⟨hk, hk.2⟩ : _ ∧ k_ ≠ gb321))) (fun _ hk => hk.2) (.int .i64 ((rd_T37 t306 x13_2).f0))) (fun _ hk => hk.2) (.int .i64 ((rd_T37 t306 x13_2).f1))) (fun _ hk => ⟨hk.1.1, hk.1.2⟩))⟩, ⟨Kp.kpR (Kd.R_mono (Kd.R_far (p := ⟨gb321, 1, none⟩) (Kd.R_far (p := ⟨gb321, 0, none⟩) (Kd.R_types HO_11.out BK321.out (by decide)) (fun _ hk => hk.2) (.int .i64 ((rd_T37 t306 x13_2).f0))) (fun _ hk => hk.2) (.int .i64 ((rd_T37 t306 x13_2).f1))) (fun _ hk => hk.1))⟩, ⟨Kp.kpR (Kd.R_mono (Kd.R_far (p := ⟨gb321, 1, none⟩) (Kd.R_far (p := ⟨gb321, 0, none⟩) (Kd.R_types HO_12.out BK321.out (by decide)) (fun _ hk => hk.2) (.int .i64 ((rd_T37 t306 x13_2).f0))) (fun _ hk => hk.2) (.int .i64 ((rd_T37 t306 x13_2).f1))) (fun _ hk => hk.1))⟩, ⟨by (with_reducible repeat (first | refine blk_drewN ?_ _ | refine blk_drew ?_ | refine blk_alloc ?_ _)); refine blk_put (cs := #[.int .i64 ((rd_T37 t306 x13_2).f0), .int .i64 0]) ?_ 1 _ rfl; (with_reducible repeat (first | refine blk_drewN ?_ _ | refine blk_drew ?_ | refine blk_alloc ?_ _)); refine blk_put (cs := #[.int .i64 0, .int .i64 0]) ?_ 0 _ rfl; (with_reducible repeat (first | refine blk_drewN ?_ _ | refine blk_drew ?_ | refine blk_alloc ?_ _)); exact BK321.out⟩, ⟨by repeat (first | (with_reducible first | exact HB.out | apply below_alloc | apply pw_below_drewN | apply below_drew1 | refine below_set ?_ GE321.out) | exact HB.out)⟩⟩
       rw [if_neg c30] at H
       have c30b0 : decide (((rd_T37 t306 x13_2).f0) < 0) = false := decide_eq_false c30
       clear c30
       (first | rw [c30b0] | (simp only [i64_w, i32_w]; rw [c30b0]) | skip)
       by_cases c32 : ((rd_T37 t306 x13_2).f0) ≥ (t298.length : Int)
       ·rw [if_pos c32] at H
        have c32b0 : decide ((t298.length : Int) ≤ ((rd_T37 t306 x13_2).f0)) = true := decide_eq_true c32
        clear c32
        have H' := Kp.a H
        clear H
        have hcz33_0 : w28.cell? ⟨gb321, 0, none⟩ = some (.int .i64 0) := (blk_cell BK321.out 0).trans rfl
        have hcz33_1 : w28.cell? ⟨gb321, 1, none⟩ = some (.int .i64 0) := (blk_cell BK321.out 1).trans rfl
        have hfz33_0 := blk_frozen BK321.out 0
        have hfz33_1 := blk_frozen BK321.out 1
        go_wp2
        repeat (go_quiet (fail); try go_wp2)
        go_meet
        case rel => exact ⟨_, (true), (by first | rfl | (simp; done) | (simp [*]; done)), H', ⟨by have := HJ5.out; have := HK2.out; first | omega | exact Nat.le_refl _⟩, ⟨Kp.kpR (Kd.R_mono (Kd.R_far (p := ⟨gb321, 1, none⟩) (Kd.R_far (p := ⟨gb321, 0, none⟩) (Kd.R_types HO_3.out BK321.out (by decide)) (fun _ hk => hk.2) (.int .i64 ((rd_T37 t306 x13_2).f0))) (fun _ hk => hk.2) (.int .i64 ((rd_T37 t306 x13_2).f1))) (fun _ hk => hk.1))⟩, ⟨Kp.kpR (Kd.R_mono (Kd.R_far (p := ⟨gb321, 1, none⟩) (Kd.R_far (p := ⟨gb321, 0, none⟩) (Kd.R_types HO_4.out BK321.out (by decide)) (fun _ hk => hk.2) (.int .i64 ((rd_T37 t306 x13_2).f0))) (fun _ hk => hk.2) (.int .i64 ((rd_T37 t306 x13_2).f1))) (fun _ hk => hk.1))⟩, ⟨Kp.kpR (Kd.R_mono (Kd.R_far (p := ⟨gb321, 1, none⟩) (Kd.R_far (p := ⟨gb321, 0, none⟩) (Kd.R_mono HO_7.out (fun k_ hk => (⟨hk, hk.2⟩ : _ ∧ k_ ≠ gb321))) (fun _ hk => hk.2) (.int .i64 ((rd_T37 t306 x13_2).f0))) (fun _ hk => hk.2) (.int .i64 ((rd_T37 t306 x13_2).f1))) (fun _ hk => ⟨hk.1.1, hk.1.2⟩))⟩, ⟨Kp.kpR (Kd.R_mono (Kd.R_far (p := ⟨gb321, 1, none⟩) (Kd.R_far (p := ⟨gb321, 0, none⟩) (Kd.R_mono HO_9.out (fun k_ hk => (⟨hk, hk.2⟩ : _ ∧ k_ ≠ gb321))) (fun _ hk => hk.2) (.int .i64 ((rd_T37 t306 x13_2).f0))) (fun _ hk => hk.2) (.int .i64 ((rd_T37 t306 x13_2).f1))) (fun _ hk => ⟨hk.1.1, hk.1.2⟩))⟩, ⟨Kp.kpR (Kd.R_mono (Kd.R_far (p := ⟨gb321, 1, none⟩) (Kd.R_far (p := ⟨gb321, 0, none⟩) (Kd.R_types HO_11.out BK321.out (by decide)) (fun _ hk => hk.2) (.int .i64 ((rd_T37 t306 x13_2).f0))) (fun _ hk => hk.2) (.int .i64 ((rd_T37 t306 x13_2).f1))) (fun _ hk => hk.1))⟩, ⟨Kp.kpR (Kd.R_mono (Kd.R_far (p := ⟨gb321, 1, none⟩) (Kd.R_far (p := ⟨gb321, 0, none⟩) (Kd.R_types HO_12.out BK321.out (by decide)) (fun _ hk => hk.2) (.int .i64 ((rd_T37 t306 x13_2).f0))) (fun _ hk => hk.2) (.int .i64 ((rd_T37 t306 x13_2).f1))) (fun _ hk => hk.1))⟩, ⟨by (with_reducible repeat (first | refine blk_drewN ?_ _ | refine blk_drew ?_ | refine blk_alloc ?_ _)); refine blk_put (cs := #[.int .i64 ((rd_T37 t306 x13_2).f0), .int .i64 0]) ?_ 1 _ rfl; (with_reducible repeat (first | refine blk_drewN ?_ _ | refine blk_drew ?_ | refine blk_alloc ?_ _)); refine blk_put (cs := #[.int .i64 0, .int .i64 0]) ?_ 0 _ rfl; (with_reducible repeat (first | refine blk_drewN ?_ _ | refine blk_drew ?_ | refine blk_alloc ?_ _)); exact BK321.out⟩, ⟨by repeat (first | (with_reducible first | exact HB.out | apply below_alloc | apply pw_below_drewN | apply below_drew1 | refine below_set ?_ GE321.out) | exact HB.out)⟩⟩
       rw [if_neg c32] at H
       have c32b0 : decide ((t298.length : Int) ≤ ((rd_T37 t306 x13_2).f0)) = false := decide_eq_false c32
       clear c32
       by_cases c34 : ((rd_T37 t306 x13_2).f1) < 0
       ·rw [if_pos c34] at H
        have c34b0 : decide (((rd_T37 t306 x13_2).f1) < 0) = true := decide_eq_true c34
        clear c34
        have H' := Kp.a H
        clear H
        have hcz35_0 : w28.cell? ⟨gb321, 0, none⟩ = some (.int .i64 0) := (blk_cell BK321.out 0).trans rfl
        have hcz35_1 : w28.cell? ⟨gb321, 1, none⟩ = some (.int .i64 0) := (blk_cell BK321.out 1).trans rfl
        have hfz35_0 := blk_frozen BK321.out 0
        have hfz35_1 := blk_frozen BK321.out 1
        go_wp2
        repeat (go_quiet (fail); try go_wp2)
        go_meet
        case rel => exact ⟨_, (true), (by first | rfl | (simp; done) | (simp [*]; done)), H', ⟨by have := HJ5.out; have := HK2.out; first | omega | exact Nat.le_refl _⟩, ⟨Kp.kpR (Kd.R_mono (Kd.R_far (p := ⟨gb321, 1, none⟩) (Kd.R_far (p := ⟨gb321, 0, none⟩) (Kd.R_types HO_3.out BK321.out (by decide)) (fun _ hk => hk.2) (.int .i64 ((rd_T37 t306 x13_2).f0))) (fun _ hk => hk.2) (.int .i64 ((rd_T37 t306 x13_2).f1))) (fun _ hk => hk.1))⟩, ⟨Kp.kpR (Kd.R_mono (Kd.R_far (p := ⟨gb321, 1, none⟩) (Kd.R_far (p := ⟨gb321, 0, none⟩) (Kd.R_types HO_4.out BK321.out (by decide)) (fun _ hk => hk.2) (.int .i64 ((rd_T37 t306 x13_2).f0))) (fun _ hk => hk.2) (.int .i64 ((rd_T37 t306 x13_2).f1))) (fun _ hk => hk.1))⟩, ⟨Kp.kpR (Kd.R_mono (Kd.R_far (p := ⟨gb321, 1, none⟩) (Kd.R_far (p := ⟨gb321, 0, none⟩) (Kd.R_mono HO_7.out (fun k_ hk => (⟨hk, hk.2⟩ : _ ∧ k_ ≠ gb321))) (fun _ hk => hk.2) (.int .i64 ((rd_T37 t306 x13_2).f0))) (fun _ hk => hk.2) (.int .i64 ((rd_T37 t306 x13_2).f1))) (fun _ hk => ⟨hk.1.1, hk.1.2⟩))⟩, ⟨Kp.kpR (Kd.R_mono (Kd.R_far (p := ⟨gb321, 1, none⟩) (Kd.R_far (p := ⟨gb321, 0, none⟩) (Kd.R_mono HO_9.out (fun k_ hk => (⟨hk, hk.2⟩ : _ ∧ k_ ≠ gb321))) (fun _ hk => hk.2) (.int .i64 ((rd_T37 t306 x13_2).f0))) (fun _ hk => hk.2) (.int .i64 ((rd_T37 t306 x13_2).f1))) (fun _ hk => ⟨hk.1.1, hk.1.2⟩))⟩, ⟨Kp.kpR (Kd.R_mono (Kd.R_far (p := ⟨gb321, 1, none⟩) (Kd.R_far (p := ⟨gb321, 0, none⟩) (Kd.R_types HO_11.out BK321.out (by decide)) (fun _ hk => hk.2) (.int .i64 ((rd_T37 t306 x13_2).f0))) (fun _ hk => hk.2) (.int .i64 ((rd_T37 t306 x13_2).f1))) (fun _ hk => hk.1))⟩, ⟨Kp.kpR (Kd.R_mono (Kd.R_far (p := ⟨gb321, 1, none⟩) (Kd.R_far (p := ⟨gb321, 0, none⟩) (Kd.R_types HO_12.out BK321.out (by decide)) (fun _ hk => hk.2) (.int .i64 ((rd_T37 t306 x13_2).f0))) (fun _ hk => hk.2) (.int .i64 ((rd_T37 t306 x13_2).f1))) (fun _ hk => hk.1))⟩, ⟨by (with_reducible repeat (first | refine blk_drewN ?_ _ | refine blk_drew ?_ | refine blk_alloc ?_ _)); refine blk_put (cs := #[.int .i64 ((rd_T37 t306 x13_2).f0), .int .i64 0]) ?_ 1 _ rfl; (with_reducible repeat (first | refine blk_drewN ?_ _ | refine blk_drew ?_ | refine blk_alloc ?_ _)); refine blk_put (cs := #[.int .i64 0, .int .i64 0]) ?_ 0 _ rfl; (with_reducible repeat (first | refine blk_drewN ?_ _ | refine blk_drew ?_ | refine blk_alloc ?_ _)); exact BK321.out⟩, ⟨by repeat (first | (with_reducible first | exact HB.out | apply below_alloc | apply pw_below_drewN | apply below_drew1 | refine below_set ?_ GE321.out) | exact HB.out)⟩⟩
       rw [if_neg c34] at H
       have c34b0 : decide (((rd_T37 t306 x13_2).f1) < 0) = false := decide_eq_false c34
       clear c34
       by_cases c36 : ((rd_T37 t306 x13_2).f1) ≥ (t299.length : Int)
       ·rw [if_pos c36] at H
        have c36b0 : decide ((t299.length : Int) ≤ ((rd_T37 t306 x13_2).f1)) = true := decide_eq_true c36
        clear c36
        have H' := Kp.a H
        clear H
        have hcz37_0 : w28.cell? ⟨gb321, 0, none⟩ = some (.int .i64 0) := (blk_cell BK321.out 0).trans rfl
        have hcz37_1 : w28.cell? ⟨gb321, 1, none⟩ = some (.int .i64 0) := (blk_cell BK321.out 1).trans rfl
        have hfz37_0 := blk_frozen BK321.out 0
        have hfz37_1 := blk_frozen BK321.out 1
        go_wp2
        repeat (go_quiet (fail); try go_wp2)
        go_meet
        case rel => exact ⟨_, (true), (by first | rfl | (simp; done) | (simp [*]; done)), H', ⟨by have := HJ5.out; have := HK2.out; first | omega | exact Nat.le_refl _⟩, ⟨Kp.kpR (Kd.R_mono (Kd.R_far (p := ⟨gb321, 1, none⟩) (Kd.R_far (p := ⟨gb321, 0, none⟩) (Kd.R_types HO_3.out BK321.out (by decide)) (fun _ hk => hk.2) (.int .i64 ((rd_T37 t306 x13_2).f0))) (fun _ hk => hk.2) (.int .i64 ((rd_T37 t306 x13_2).f1))) (fun _ hk => hk.1))⟩, ⟨Kp.kpR (Kd.R_mono (Kd.R_far (p := ⟨gb321, 1, none⟩) (Kd.R_far (p := ⟨gb321, 0, none⟩) (Kd.R_types HO_4.out BK321.out (by decide)) (fun _ hk => hk.2) (.int .i64 ((rd_T37 t306 x13_2).f0))) (fun _ hk => hk.2) (.int .i64 ((rd_T37 t306 x13_2).f1))) (fun _ hk => hk.1))⟩, ⟨Kp.kpR (Kd.R_mono (Kd.R_far (p := ⟨gb321, 1, none⟩) (Kd.R_far (p := ⟨gb321, 0, none⟩) (Kd.R_mono HO_7.out (fun k_ hk => (⟨hk, hk.2⟩ : _ ∧ k_ ≠ gb321))) (fun _ hk => hk.2) (.int .i64 ((rd_T37 t306 x13_2).f0))) (fun _ hk => hk.2) (.int .i64 ((rd_T37 t306 x13_2).f1))) (fun _ hk => ⟨hk.1.1, hk.1.2⟩))⟩, ⟨Kp.kpR (Kd.R_mono (Kd.R_far (p := ⟨gb321, 1, none⟩) (Kd.R_far (p := ⟨gb321, 0, none⟩) (Kd.R_mono HO_9.out (fun k_ hk => (⟨hk, hk.2⟩ : _ ∧ k_ ≠ gb321))) (fun _ hk => hk.2) (.int .i64 ((rd_T37 t306 x13_2).f0))) (fun _ hk => hk.2) (.int .i64 ((rd_T37 t306 x13_2).f1))) (fun _ hk => ⟨hk.1.1, hk.1.2⟩))⟩, ⟨Kp.kpR (Kd.R_mono (Kd.R_far (p := ⟨gb321, 1, none⟩) (Kd.R_far (p := ⟨gb321, 0, none⟩) (Kd.R_types HO_11.out BK321.out (by decide)) (fun _ hk => hk.2) (.int .i64 ((rd_T37 t306 x13_2).f0))) (fun _ hk => hk.2) (.int .i64 ((rd_T37 t306 x13_2).f1))) (fun _ hk => hk.1))⟩, ⟨Kp.kpR (Kd.R_mono (Kd.R_far (p := ⟨gb321, 1, none⟩) (Kd.R_far (p := ⟨gb321, 0, none⟩) (Kd.R_types HO_12.out BK321.out (by decide)) (fun _ hk => hk.2) (.int .i64 ((rd_T37 t306 x13_2).f0))) (fun _ hk => hk.2) (.int .i64 ((rd_T37 t306 x13_2).f1))) (fun _ hk => hk.1))⟩, ⟨by (with_reducible repeat (first | refine blk_drewN ?_ _ | refine blk_drew ?_ | refine blk_alloc ?_ _)); refine blk_put (cs := #[.int .i64 ((rd_T37 t306 x13_2).f0), .int .i64 0]) ?_ 1 _ rfl; (with_reducible repeat (first | refine blk_drewN ?_ _ | refine blk_drew ?_ | refine blk_alloc ?_ _)); refine blk_put (cs := #[.int .i64 0, .int .i64 0]) ?_ 0 _ rfl; (with_reducible repeat (first | refine blk_drewN ?_ _ | refine blk_drew ?_ | refine blk_alloc ?_ _)); exact BK321.out⟩, ⟨by repeat (first | (with_reducible first | exact HB.out | apply below_alloc | apply pw_below_drewN | apply below_drew1 | refine below_set ?_ GE321.out) | exact HB.out)⟩⟩
       rw [if_neg c36] at H
       have c36b0 : decide ((t299.length : Int) ≤ ((rd_T37 t306 x13_2).f1)) = false := decide_eq_false c36
       clear c36
       by_cases c38 : 0 ≤ ((rd_T37 t306 x13_2).f0)
       rotate_left
       ·rw [if_neg c38] at H
        exact absurd H (by simp)
       rw [if_pos c38] at H
       have c38b0 : decide (0 ≤ ((rd_T37 t306 x13_2).f0)) = true := decide_eq_true c38
       clear c38
       by_cases c39 : ((rd_T37 t306 x13_2).f0) < (x11_2.length : Int)
       rotate_left
       ·rw [if_neg c39] at H
        exact absurd H (by simp)
       rw [if_pos c39] at H
       have c39b0 : decide (((rd_T37 t306 x13_2).f0) < (x11_2.length : Int)) = true := decide_eq_true c39
       clear c39
       obtain ⟨bq40, hbq40⟩ : ∃ b_ : Bool, b_ = (rdOf false x11_2 ((rd_T37 t306 x13_2).f0)) := ⟨_, rfl⟩
       replace H : (if bq40 = true then (laws_FnFits.j2 k2 t298 t299 t300 t301 t306 t310 x11_2 x12_2 x13_2 true ((rd_T37 t306 x13_2).f0) ((rd_T37 t306 x13_2).f1)) else (if 0 ≤ ((rd_T37 t306 x13_2).f1) then (if ((rd_T37 t306 x13_2).f1) < (x12_2.length : Int) then (if rdOf false x12_2 ((rd_T37 t306 x13_2).f1) = true then (laws_FnFits.j2 k2 t298 t299 t300 t301 t306 t310 x11_2 x12_2 x13_2 true ((rd_T37 t306 x13_2).f0) ((rd_T37 t306 x13_2).f1)) else (if x13_2 < (t310.length : Int) then (laws_FnFits.j2 k2 t298 t299 t300 t301 t306 t310 x11_2 x12_2 x13_2 (!(((rd_T37 t306 x13_2).f0) == ((rd_T37 t310 x13_2).f0)) || (!(((rd_T37 t306 x13_2).f1) == ((rd_T37 t310 x13_2).f1)))) ((rd_T37 t306 x13_2).f0) ((rd_T37 t306 x13_2).f1)) else (none))) else (none)) else (none))) = some r := by rw [← hbq40] at H; exact H
       have Nbq40 := Kp.a hbq40
       clear hbq40
       by_cases c41 : bq40 = true
       ·subst c41
        have H1 : (laws_FnFits.j2 k2 t298 t299 t300 t301 t306 t310 x11_2 x12_2 x13_2 true ((rd_T37 t306 x13_2).f0) ((rd_T37 t306 x13_2).f1)) = some r := by rw [if_pos rfl] at H; exact H
        clear H
        have H := H1
        clear H1
        have H' := Kp.a H
        clear H
        have hcz42_0 : w28.cell? ⟨gb321, 0, none⟩ = some (.int .i64 0) := (blk_cell BK321.out 0).trans rfl
        have hcz42_1 : w28.cell? ⟨gb321, 1, none⟩ = some (.int .i64 0) := (blk_cell BK321.out 1).trans rfl
        have hfz42_0 := blk_frozen BK321.out 0
        have hfz42_1 := blk_frozen BK321.out 1
        obtain ⟨Ao43, co43, eo43⟩ := Kd.R_slice HO_11.out
        subst eo43
        have p322 : 0 ≤ (((rd_T37 t306 x13_2).f0) : Int) := Kp.d
        have q322 : ((rd_T37 t306 x13_2).f0) < (x11_2.length : Int) := Kp.d
        obtain ⟨ad322, e322, hx322_0⟩ := Kd.at_bool (Kd.R_reads' HO_11.out).2.2 ((rd_T37 t306 x13_2).f0) p322 q322
        (try rw [← Nbq40.out] at hx322_0)
        cases e322
        have hn322_0 : ad322.block ≠ gb321 := Kd.own_blk (Kd.R_ne HO_11.out BK321.out (by decide))
        have hn322_1 : ad322.block ≠ gb321 := Kd.own_blk (Kd.R_ne HO_11.out BK321.out (by decide))
        replace hx322_0 := (cell_far (p := ⟨gb321, 0, none⟩) (by first | (rw [add_block]; exact hn322_0) | (show (Addr.add _ _).block ≠ _; rw [add_block]; exact hn322_0) | exact hn322_0) (.int .i64 ((rd_T37 t306 x13_2).f0))).trans hx322_0
        replace hx322_0 := (cell_far (p := ⟨gb321, 1, none⟩) (by first | (rw [add_block]; exact hn322_1) | (show (Addr.add _ _).block ≠ _; rw [add_block]; exact hn322_1) | exact hn322_1) (.int .i64 ((rd_T37 t306 x13_2).f1))).trans hx322_0
        (try have hy322_0 := fun (n_ : Nat) => (show ((((w28.drewN n_).setCell ⟨gb321, 0, none⟩ (.int .i64 ((rd_T37 t306 x13_2).f0))).setCell ⟨gb321, 1, none⟩ (.int .i64 ((rd_T37 t306 x13_2).f1)))).cell? _ = some _ from hx322_0))
        clear hn322_0
        clear hn322_1
        replace p322 := eq_true p322
        replace q322 := eq_true q322
        go_wp2
        repeat (go_quiet (fail); try go_wp2)
        go_meet
        case rel => exact ⟨_, (true), (by first | rfl | (simp; done) | (simp [*]; done)), H', ⟨by have := HJ5.out; have := HK2.out; first | omega | exact Nat.le_refl _⟩, ⟨Kp.kpR (Kd.R_mono (Kd.R_far (p := ⟨gb321, 1, none⟩) (Kd.R_far (p := ⟨gb321, 0, none⟩) (Kd.R_types HO_3.out BK321.out (by decide)) (fun _ hk => hk.2) (.int .i64 ((rd_T37 t306 x13_2).f0))) (fun _ hk => hk.2) (.int .i64 ((rd_T37 t306 x13_2).f1))) (fun _ hk => hk.1))⟩, ⟨Kp.kpR (Kd.R_mono (Kd.R_far (p := ⟨gb321, 1, none⟩) (Kd.R_far (p := ⟨gb321, 0, none⟩) (Kd.R_types HO_4.out BK321.out (by decide)) (fun _ hk => hk.2) (.int .i64 ((rd_T37 t306 x13_2).f0))) (fun _ hk => hk.2) (.int .i64 ((rd_T37 t306 x13_2).f1))) (fun _ hk => hk.1))⟩, ⟨Kp.kpR (Kd.R_mono (Kd.R_far (p := ⟨gb321, 1, none⟩) (Kd.R_far (p := ⟨gb321, 0, none⟩) (Kd.R_mono HO_7.out (fun k_ hk => (⟨hk, hk.2⟩ : _ ∧ k_ ≠ gb321))) (fun _ hk => hk.2) (.int .i64 ((rd_T37 t306 x13_2).f0))) (fun _ hk => hk.2) (.int .i64 ((rd_T37 t306 x13_2).f1))) (fun _ hk => ⟨hk.1.1, hk.1.2⟩))⟩, ⟨Kp.kpR (Kd.R_mono (Kd.R_far (p := ⟨gb321, 1, none⟩) (Kd.R_far (p := ⟨gb321, 0, none⟩) (Kd.R_mono HO_9.out (fun k_ hk => (⟨hk, hk.2⟩ : _ ∧ k_ ≠ gb321))) (fun _ hk => hk.2) (.int .i64 ((rd_T37 t306 x13_2).f0))) (fun _ hk => hk.2) (.int .i64 ((rd_T37 t306 x13_2).f1))) (fun _ hk => ⟨hk.1.1, hk.1.2⟩))⟩, ⟨Kp.kpR (Kd.R_mono (Kd.R_far (p := ⟨gb321, 1, none⟩) (Kd.R_far (p := ⟨gb321, 0, none⟩) (Kd.R_types HO_11.out BK321.out (by decide)) (fun _ hk => hk.2) (.int .i64 ((rd_T37 t306 x13_2).f0))) (fun _ hk => hk.2) (.int .i64 ((rd_T37 t306 x13_2).f1))) (fun _ hk => hk.1))⟩, ⟨Kp.kpR (Kd.R_mono (Kd.R_far (p := ⟨gb321, 1, none⟩) (Kd.R_far (p := ⟨gb321, 0, none⟩) (Kd.R_types HO_12.out BK321.out (by decide)) (fun _ hk => hk.2) (.int .i64 ((rd_T37 t306 x13_2).f0))) (fun _ hk => hk.2) (.int .i64 ((rd_T37 t306 x13_2).f1))) (fun _ hk => hk.1))⟩, ⟨by (with_reducible repeat (first | refine blk_drewN ?_ _ | refine blk_drew ?_ | refine blk_alloc ?_ _)); refine blk_put (cs := #[.int .i64 ((rd_T37 t306 x13_2).f0), .int .i64 0]) ?_ 1 _ rfl; (with_reducible repeat (first | refine blk_drewN ?_ _ | refine blk_drew ?_ | refine blk_alloc ?_ _)); refine blk_put (cs := #[.int .i64 0, .int .i64 0]) ?_ 0 _ rfl; (with_reducible repeat (first | refine blk_drewN ?_ _ | refine blk_drew ?_ | refine blk_alloc ?_ _)); exact BK321.out⟩, ⟨by repeat (first | (with_reducible first | exact HB.out | apply below_alloc | apply pw_below_drewN | apply below_drew1 | refine below_set ?_ GE321.out) | exact HB.out)⟩⟩
       replace c41 := Bool.eq_false_iff.mpr c41
       subst c41
       have H1 : (if 0 ≤ ((rd_T37 t306 x13_2).f1) then (if ((rd_T37 t306 x13_2).f1) < (x12_2.length : Int) then (if rdOf false x12_2 ((rd_T37 t306 x13_2).f1) = true then (laws_FnFits.j2 k2 t298 t299 t300 t301 t306 t310 x11_2 x12_2 x13_2 true ((rd_T37 t306 x13_2).f0) ((rd_T37 t306 x13_2).f1)) else (if x13_2 < (t310.length : Int) then (laws_FnFits.j2 k2 t298 t299 t300 t301 t306 t310 x11_2 x12_2 x13_2 (!(((rd_T37 t306 x13_2).f0) == ((rd_T37 t310 x13_2).f0)) || (!(((rd_T37 t306 x13_2).f1) == ((rd_T37 t310 x13_2).f1)))) ((rd_T37 t306 x13_2).f0) ((rd_T37 t306 x13_2).f1)) else (none))) else (none)) else (none)) = some r := by rw [if_neg (show ¬ (false = true) by decide)] at H; exact H
       clear H
       have H := H1
       clear H1
       by_cases c44 : 0 ≤ ((rd_T37 t306 x13_2).f1)
       rotate_left
       ·rw [if_neg c44] at H
        exact absurd H (by simp)
       rw [if_pos c44] at H
       have c44b0 : decide (0 ≤ ((rd_T37 t306 x13_2).f1)) = true := decide_eq_true c44
       clear c44
       by_cases c45 : ((rd_T37 t306 x13_2).f1) < (x12_2.length : Int)
       rotate_left
       ·rw [if_neg c45] at H
        exact absurd H (by simp)
       rw [if_pos c45] at H
       have c45b0 : decide (((rd_T37 t306 x13_2).f1) < (x12_2.length : Int)) = true := decide_eq_true c45
       clear c45
       obtain ⟨bq46, hbq46⟩ : ∃ b_ : Bool, b_ = (rdOf false x12_2 ((rd_T37 t306 x13_2).f1)) := ⟨_, rfl⟩
       replace H : (if bq46 = true then (laws_FnFits.j2 k2 t298 t299 t300 t301 t306 t310 x11_2 x12_2 x13_2 true ((rd_T37 t306 x13_2).f0) ((rd_T37 t306 x13_2).f1)) else (if x13_2 < (t310.length : Int) then (laws_FnFits.j2 k2 t298 t299 t300 t301 t306 t310 x11_2 x12_2 x13_2 (!(((rd_T37 t306 x13_2).f0) == ((rd_T37 t310 x13_2).f0)) || (!(((rd_T37 t306 x13_2).f1) == ((rd_T37 t310 x13_2).f1)))) ((rd_T37 t306 x13_2).f0) ((rd_T37 t306 x13_2).f1)) else (none))) = some r := by rw [← hbq46] at H; exact H
       have Nbq46 := Kp.a hbq46
       clear hbq46
       by_cases c47 : bq46 = true
       ·subst c47
        have H1 : (laws_FnFits.j2 k2 t298 t299 t300 t301 t306 t310 x11_2 x12_2 x13_2 true ((rd_T37 t306 x13_2).f0) ((rd_T37 t306 x13_2).f1)) = some r := by rw [if_pos rfl] at H; exact H
        clear H
        have H := H1
        clear H1
        have H' := Kp.a H
        clear H
        have hcz48_0 : w28.cell? ⟨gb321, 0, none⟩ = some (.int .i64 0) := (blk_cell BK321.out 0).trans rfl
        have hcz48_1 : w28.cell? ⟨gb321, 1, none⟩ = some (.int .i64 0) := (blk_cell BK321.out 1).trans rfl
        have hfz48_0 := blk_frozen BK321.out 0
        have hfz48_1 := blk_frozen BK321.out 1
        obtain ⟨Ao49, co49, eo49⟩ := Kd.R_slice HO_11.out
        subst eo49
        have p322 : 0 ≤ (((rd_T37 t306 x13_2).f0) : Int) := Kp.d
        have q322 : ((rd_T37 t306 x13_2).f0) < (x11_2.length : Int) := Kp.d
        obtain ⟨ad322, e322, hx322_0⟩ := Kd.at_bool (Kd.R_reads' HO_11.out).2.2 ((rd_T37 t306 x13_2).f0) p322 q322
        (try rw [← Nbq40.out] at hx322_0)
        (try rw [← Nbq46.out] at hx322_0)
        cases e322
        have hn322_0 : ad322.block ≠ gb321 := Kd.own_blk (Kd.R_ne HO_11.out BK321.out (by decide))
        have hn322_1 : ad322.block ≠ gb321 := Kd.own_blk (Kd.R_ne HO_11.out BK321.out (by decide))
        replace hx322_0 := (cell_far (p := ⟨gb321, 0, none⟩) (by first | (rw [add_block]; exact hn322_0) | (show (Addr.add _ _).block ≠ _; rw [add_block]; exact hn322_0) | exact hn322_0) (.int .i64 ((rd_T37 t306 x13_2).f0))).trans hx322_0
        replace hx322_0 := (cell_far (p := ⟨gb321, 1, none⟩) (by first | (rw [add_block]; exact hn322_1) | (show (Addr.add _ _).block ≠ _; rw [add_block]; exact hn322_1) | exact hn322_1) (.int .i64 ((rd_T37 t306 x13_2).f1))).trans hx322_0
        (try have hy322_0 := fun (n_ : Nat) => (show ((((w28.drewN n_).setCell ⟨gb321, 0, none⟩ (.int .i64 ((rd_T37 t306 x13_2).f0))).setCell ⟨gb321, 1, none⟩ (.int .i64 ((rd_T37 t306 x13_2).f1)))).cell? _ = some _ from hx322_0))
        clear hn322_0
        clear hn322_1
        replace p322 := eq_true p322
        replace q322 := eq_true q322
        obtain ⟨Ao50, co50, eo50⟩ := Kd.R_slice HO_12.out
        subst eo50
        have p323 : 0 ≤ (((rd_T37 t306 x13_2).f1) : Int) := Kp.d
        have q323 : ((rd_T37 t306 x13_2).f1) < (x12_2.length : Int) := Kp.d
        obtain ⟨ad323, e323, hx323_0⟩ := Kd.at_bool (Kd.R_reads' HO_12.out).2.2 ((rd_T37 t306 x13_2).f1) p323 q323
        (try rw [← Nbq40.out] at hx323_0)
        (try rw [← Nbq46.out] at hx323_0)
        cases e323
        have hn323_0 : ad323.block ≠ gb321 := Kd.own_blk (Kd.R_ne HO_12.out BK321.out (by decide))
        have hn323_1 : ad323.block ≠ gb321 := Kd.own_blk (Kd.R_ne HO_12.out BK321.out (by decide))
        replace hx323_0 := (cell_far (p := ⟨gb321, 0, none⟩) (by first | (rw [add_block]; exact hn323_0) | (show (Addr.add _ _).block ≠ _; rw [add_block]; exact hn323_0) | exact hn323_0) (.int .i64 ((rd_T37 t306 x13_2).f0))).trans hx323_0
        replace hx323_0 := (cell_far (p := ⟨gb321, 1, none⟩) (by first | (rw [add_block]; exact hn323_1) | (show (Addr.add _ _).block ≠ _; rw [add_block]; exact hn323_1) | exact hn323_1) (.int .i64 ((rd_T37 t306 x13_2).f1))).trans hx323_0
        (try have hy323_0 := fun (n_ : Nat) => (show ((((w28.drewN n_).setCell ⟨gb321, 0, none⟩ (.int .i64 ((rd_T37 t306 x13_2).f0))).setCell ⟨gb321, 1, none⟩ (.int .i64 ((rd_T37 t306 x13_2).f1)))).cell? _ = some _ from hx323_0))
        clear hn323_0
        clear hn323_1
        replace p323 := eq_true p323
        replace q323 := eq_true q323
        go_wp2
        repeat (go_quiet (fail); try go_wp2)
        go_meet
        case rel => exact ⟨_, (true), (by first | rfl | (simp; done) | (simp [*]; done)), H', ⟨by have := HJ5.out; have := HK2.out; first | omega | exact Nat.le_refl _⟩, ⟨Kp.kpR (Kd.R_mono (Kd.R_far (p := ⟨gb321, 1, none⟩) (Kd.R_far (p := ⟨gb321, 0, none⟩) (Kd.R_types HO_3.out BK321.out (by decide)) (fun _ hk => hk.2) (.int .i64 ((rd_T37 t306 x13_2).f0))) (fun _ hk => hk.2) (.int .i64 ((rd_T37 t306 x13_2).f1))) (fun _ hk => hk.1))⟩, ⟨Kp.kpR (Kd.R_mono (Kd.R_far (p := ⟨gb321, 1, none⟩) (Kd.R_far (p := ⟨gb321, 0, none⟩) (Kd.R_types HO_4.out BK321.out (by decide)) (fun _ hk => hk.2) (.int .i64 ((rd_T37 t306 x13_2).f0))) (fun _ hk => hk.2) (.int .i64 ((rd_T37 t306 x13_2).f1))) (fun _ hk => hk.1))⟩, ⟨Kp.kpR (Kd.R_mono (Kd.R_far (p := ⟨gb321, 1, none⟩) (Kd.R_far (p := ⟨gb321, 0, none⟩) (Kd.R_mono HO_7.out (fun k_ hk => (⟨hk, hk.2⟩ : _ ∧ k_ ≠ gb321))) (fun _ hk => hk.2) (.int .i64 ((rd_T37 t306 x13_2).f0))) (fun _ hk => hk.2) (.int .i64 ((rd_T37 t306 x13_2).f1))) (fun _ hk => ⟨hk.1.1, hk.1.2⟩))⟩, ⟨Kp.kpR (Kd.R_mono (Kd.R_far (p := ⟨gb321, 1, none⟩) (Kd.R_far (p := ⟨gb321, 0, none⟩) (Kd.R_mono HO_9.out (fun k_ hk => (⟨hk, hk.2⟩ : _ ∧ k_ ≠ gb321))) (fun _ hk => hk.2) (.int .i64 ((rd_T37 t306 x13_2).f0))) (fun _ hk => hk.2) (.int .i64 ((rd_T37 t306 x13_2).f1))) (fun _ hk => ⟨hk.1.1, hk.1.2⟩))⟩, ⟨Kp.kpR (Kd.R_mono (Kd.R_far (p := ⟨gb321, 1, none⟩) (Kd.R_far (p := ⟨gb321, 0, none⟩) (Kd.R_types HO_11.out BK321.out (by decide)) (fun _ hk => hk.2) (.int .i64 ((rd_T37 t306 x13_2).f0))) (fun _ hk => hk.2) (.int .i64 ((rd_T37 t306 x13_2).f1))) (fun _ hk => hk.1))⟩, ⟨Kp.kpR (Kd.R_mono (Kd.R_far (p := ⟨gb321, 1, none⟩) (Kd.R_far (p := ⟨gb321, 0, none⟩) (Kd.R_types HO_12.out BK321.out (by decide)) (fun _ hk => hk.2) (.int .i64 ((rd_T37 t306 x13_2).f0))) (fun _ hk => hk.2) (.int .i64 ((rd_T37 t306 x13_2).f1))) (fun _ hk => hk.1))⟩, ⟨by (with_reducible repeat (first | refine blk_drewN ?_ _ | refine blk_drew ?_ | refine blk_alloc ?_ _)); refine blk_put (cs := #[.int .i64 ((rd_T37 t306 x13_2).f0), .int .i64 0]) ?_ 1 _ rfl; (with_reducible repeat (first | refine blk_drewN ?_ _ | refine blk_drew ?_ | refine blk_alloc ?_ _)); refine blk_put (cs := #[.int .i64 0, .int .i64 0]) ?_ 0 _ rfl; (with_reducible repeat (first | refine blk_drewN ?_ _ | refine blk_drew ?_ | refine blk_alloc ?_ _)); exact BK321.out⟩, ⟨by repeat (first | (with_reducible first | exact HB.out | apply below_alloc | apply pw_below_drewN | apply below_drew1 | refine below_set ?_ GE321.out) | exact HB.out)⟩⟩
       replace c47 := Bool.eq_false_iff.mpr c47
       subst c47
       have H1 : (if x13_2 < (t310.length : Int) then (laws_FnFits.j2 k2 t298 t299 t300 t301 t306 t310 x11_2 x12_2 x13_2 (!(((rd_T37 t306 x13_2).f0) == ((rd_T37 t310 x13_2).f0)) || (!(((rd_T37 t306 x13_2).f1) == ((rd_T37 t310 x13_2).f1)))) ((rd_T37 t306 x13_2).f0) ((rd_T37 t306 x13_2).f1)) else (none)) = some r := by rw [if_neg (show ¬ (false = true) by decide)] at H; exact H
       clear H
       have H := H1
       clear H1
       by_cases c51 : x13_2 < (t310.length : Int)
       rotate_left
       ·rw [if_neg c51] at H
        exact absurd H (by simp)
       rw [if_pos c51] at H
       have c51b0 : decide (x13_2 < (t310.length : Int)) = true := decide_eq_true c51
       clear c51
       have H' := Kp.a H
       clear H
       have hcz52_0 : w28.cell? ⟨gb321, 0, none⟩ = some (.int .i64 0) := (blk_cell BK321.out 0).trans rfl
       have hcz52_1 : w28.cell? ⟨gb321, 1, none⟩ = some (.int .i64 0) := (blk_cell BK321.out 1).trans rfl
       have hfz52_0 := blk_frozen BK321.out 0
       have hfz52_1 := blk_frozen BK321.out 1
       obtain ⟨Ao53, co53, eo53⟩ := Kd.R_slice HO_11.out
       subst eo53
       have p322 : 0 ≤ (((rd_T37 t306 x13_2).f0) : Int) := Kp.d
       have q322 : ((rd_T37 t306 x13_2).f0) < (x11_2.length : Int) := Kp.d
       obtain ⟨ad322, e322, hx322_0⟩ := Kd.at_bool (Kd.R_reads' HO_11.out).2.2 ((rd_T37 t306 x13_2).f0) p322 q322
       (try rw [← Nbq40.out] at hx322_0)
       (try rw [← Nbq46.out] at hx322_0)
       cases e322
       have hn322_0 : ad322.block ≠ gb321 := Kd.own_blk (Kd.R_ne HO_11.out BK321.out (by decide))
       have hn322_1 : ad322.block ≠ gb321 := Kd.own_blk (Kd.R_ne HO_11.out BK321.out (by decide))
       replace hx322_0 := (cell_far (p := ⟨gb321, 0, none⟩) (by first | (rw [add_block]; exact hn322_0) | (show (Addr.add _ _).block ≠ _; rw [add_block]; exact hn322_0) | exact hn322_0) (.int .i64 ((rd_T37 t306 x13_2).f0))).trans hx322_0
       replace hx322_0 := (cell_far (p := ⟨gb321, 1, none⟩) (by first | (rw [add_block]; exact hn322_1) | (show (Addr.add _ _).block ≠ _; rw [add_block]; exact hn322_1) | exact hn322_1) (.int .i64 ((rd_T37 t306 x13_2).f1))).trans hx322_0
       (try have hy322_0 := fun (n_ : Nat) => (show ((((w28.drewN n_).setCell ⟨gb321, 0, none⟩ (.int .i64 ((rd_T37 t306 x13_2).f0))).setCell ⟨gb321, 1, none⟩ (.int .i64 ((rd_T37 t306 x13_2).f1)))).cell? _ = some _ from hx322_0))
       clear hn322_0
       clear hn322_1
       replace p322 := eq_true p322
       replace q322 := eq_true q322
       obtain ⟨Ao54, co54, eo54⟩ := Kd.R_slice HO_12.out
       subst eo54
       have p323 : 0 ≤ (((rd_T37 t306 x13_2).f1) : Int) := Kp.d
       have q323 : ((rd_T37 t306 x13_2).f1) < (x12_2.length : Int) := Kp.d
       obtain ⟨ad323, e323, hx323_0⟩ := Kd.at_bool (Kd.R_reads' HO_12.out).2.2 ((rd_T37 t306 x13_2).f1) p323 q323
       (try rw [← Nbq40.out] at hx323_0)
       (try rw [← Nbq46.out] at hx323_0)
       cases e323
       have hn323_0 : ad323.block ≠ gb321 := Kd.own_blk (Kd.R_ne HO_12.out BK321.out (by decide))
       have hn323_1 : ad323.block ≠ gb321 := Kd.own_blk (Kd.R_ne HO_12.out BK321.out (by decide))
       replace hx323_0 := (cell_far (p := ⟨gb321, 0, none⟩) (by first | (rw [add_block]; exact hn323_0) | (show (Addr.add _ _).block ≠ _; rw [add_block]; exact hn323_0) | exact hn323_0) (.int .i64 ((rd_T37 t306 x13_2).f0))).trans hx323_0
       replace hx323_0 := (cell_far (p := ⟨gb321, 1, none⟩) (by first | (rw [add_block]; exact hn323_1) | (show (Addr.add _ _).block ≠ _; rw [add_block]; exact hn323_1) | exact hn323_1) (.int .i64 ((rd_T37 t306 x13_2).f1))).trans hx323_0
       (try have hy323_0 := fun (n_ : Nat) => (show ((((w28.drewN n_).setCell ⟨gb321, 0, none⟩ (.int .i64 ((rd_T37 t306 x13_2).f0))).setCell ⟨gb321, 1, none⟩ (.int .i64 ((rd_T37 t306 x13_2).f1)))).cell? _ = some _ from hx323_0))
       clear hn323_0
       clear hn323_1
       replace p323 := eq_true p323
       replace q323 := eq_true q323
       obtain ⟨Ao55, co55, eo55⟩ := Kd.R_slice HO_9.out
       subst eo55
       have p324 : 0 ≤ (x13_2 : Int) := Kp.d
       have q324 : x13_2 < (t310.length : Int) := Kp.d
       obtain ⟨ad324, e324, hx324_0, hx324_1⟩ := at_T37 (Kd.R_reads' HO_9.out).2.2 x13_2 p324 q324
       cases e324
       have hn324_0 : ad324.block ≠ gb321 := (HO_9.out.1 _ rfl).2
       have hn324_1 : ad324.block ≠ gb321 := (HO_9.out.1 _ rfl).2
       replace hx324_0 := (cell_far (p := ⟨gb321, 0, none⟩) (by first | (rw [add_block]; exact hn324_0) | (show (Addr.add _ _).block ≠ _; rw [add_block]; exact hn324_0) | exact hn324_0) (.int .i64 ((rd_T37 t306 x13_2).f0))).trans hx324_0
       replace hx324_1 := (cell_far (p := ⟨gb321, 0, none⟩) (by first | (rw [add_block]; exact hn324_0) | (show (Addr.add _ _).block ≠ _; rw [add_block]; exact hn324_0) | exact hn324_0) (.int .i64 ((rd_T37 t306 x13_2).f0))).trans hx324_1
       replace hx324_0 := (cell_far (p := ⟨gb321, 1, none⟩) (by first | (rw [add_block]; exact hn324_1) | (show (Addr.add _ _).block ≠ _; rw [add_block]; exact hn324_1) | exact hn324_1) (.int .i64 ((rd_T37 t306 x13_2).f1))).trans hx324_0
       replace hx324_1 := (cell_far (p := ⟨gb321, 1, none⟩) (by first | (rw [add_block]; exact hn324_1) | (show (Addr.add _ _).block ≠ _; rw [add_block]; exact hn324_1) | exact hn324_1) (.int .i64 ((rd_T37 t306 x13_2).f1))).trans hx324_1
       (try have hy324_0 := fun (n_ : Nat) => (show ((((w28.drewN n_).setCell ⟨gb321, 0, none⟩ (.int .i64 ((rd_T37 t306 x13_2).f0))).setCell ⟨gb321, 1, none⟩ (.int .i64 ((rd_T37 t306 x13_2).f1)))).cell? _ = some _ from hx324_0))
       (try have hy324_1 := fun (n_ : Nat) => (show ((((w28.drewN n_).setCell ⟨gb321, 0, none⟩ (.int .i64 ((rd_T37 t306 x13_2).f0))).setCell ⟨gb321, 1, none⟩ (.int .i64 ((rd_T37 t306 x13_2).f1)))).cell? _ = some _ from hx324_1))
       clear hn324_0
       clear hn324_1
       replace p324 := eq_true p324
       replace q324 := eq_true q324
       go_wp2
       repeat (go_quiet (fail); try go_wp2)
       go_meet
       case rel => exact ⟨_, ((!(((rd_T37 t306 x13_2).f0) == ((rd_T37 t310 x13_2).f0)) || (!(((rd_T37 t306 x13_2).f1) == ((rd_T37 t310 x13_2).f1))))), (by first | rfl | (simp; done) | (simp [*]; done)), H', ⟨by have := HJ5.out; have := HK2.out; first | omega | exact Nat.le_refl _⟩, ⟨Kp.kpR (Kd.R_mono (Kd.R_far (p := ⟨gb321, 1, none⟩) (Kd.R_far (p := ⟨gb321, 0, none⟩) (Kd.R_types HO_3.out BK321.out (by decide)) (fun _ hk => hk.2) (.int .i64 ((rd_T37 t306 x13_2).f0))) (fun _ hk => hk.2) (.int .i64 ((rd_T37 t306 x13_2).f1))) (fun _ hk => hk.1))⟩, ⟨Kp.kpR (Kd.R_mono (Kd.R_far (p := ⟨gb321, 1, none⟩) (Kd.R_far (p := ⟨gb321, 0, none⟩) (Kd.R_types HO_4.out BK321.out (by decide)) (fun _ hk => hk.2) (.int .i64 ((rd_T37 t306 x13_2).f0))) (fun _ hk => hk.2) (.int .i64 ((rd_T37 t306 x13_2).f1))) (fun _ hk => hk.1))⟩, ⟨Kp.kpR (Kd.R_mono (Kd.R_far (p := ⟨gb321, 1, none⟩) (Kd.R_far (p := ⟨gb321, 0, none⟩) (Kd.R_mono HO_7.out (fun k_ hk => (⟨hk, hk.2⟩ : _ ∧ k_ ≠ gb321))) (fun _ hk => hk.2) (.int .i64 ((rd_T37 t306 x13_2).f0))) (fun _ hk => hk.2) (.int .i64 ((rd_T37 t306 x13_2).f1))) (fun _ hk => ⟨hk.1.1, hk.1.2⟩))⟩, ⟨Kp.kpR (Kd.R_mono (Kd.R_far (p := ⟨gb321, 1, none⟩) (Kd.R_far (p := ⟨gb321, 0, none⟩) (Kd.R_mono HO_9.out (fun k_ hk => (⟨hk, hk.2⟩ : _ ∧ k_ ≠ gb321))) (fun _ hk => hk.2) (.int .i64 ((rd_T37 t306 x13_2).f0))) (fun _ hk => hk.2) (.int .i64 ((rd_T37 t306 x13_2).f1))) (fun _ hk => ⟨hk.1.1, hk.1.2⟩))⟩, ⟨Kp.kpR (Kd.R_mono (Kd.R_far (p := ⟨gb321, 1, none⟩) (Kd.R_far (p := ⟨gb321, 0, none⟩) (Kd.R_types HO_11.out BK321.out (by decide)) (fun _ hk => hk.2) (.int .i64 ((rd_T37 t306 x13_2).f0))) (fun _ hk => hk.2) (.int .i64 ((rd_T37 t306 x13_2).f1))) (fun _ hk => hk.1))⟩, ⟨Kp.kpR (Kd.R_mono (Kd.R_far (p := ⟨gb321, 1, none⟩) (Kd.R_far (p := ⟨gb321, 0, none⟩) (Kd.R_types HO_12.out BK321.out (by decide)) (fun _ hk => hk.2) (.int .i64 ((rd_T37 t306 x13_2).f0))) (fun _ hk => hk.2) (.int .i64 ((rd_T37 t306 x13_2).f1))) (fun _ hk => hk.1))⟩, ⟨by (with_reducible repeat (first | refine blk_drewN ?_ _ | refine blk_drew ?_ | refine blk_alloc ?_ _)); refine blk_put (cs := #[.int .i64 ((rd_T37 t306 x13_2).f0), .int .i64 0]) ?_ 1 _ rfl; (with_reducible repeat (first | refine blk_drewN ?_ _ | refine blk_drew ?_ | refine blk_alloc ?_ _)); refine blk_put (cs := #[.int .i64 0, .int .i64 0]) ?_ 0 _ rfl; (with_reducible repeat (first | refine blk_drewN ?_ _ | refine blk_drew ?_ | refine blk_alloc ?_ _)); exact BK321.out⟩, ⟨by repeat (first | (with_reducible first | exact HB.out | apply below_alloc | apply pw_below_drewN | apply below_drew1 | refine below_set ?_ GE321.out) | exact HB.out)⟩⟩
      case rest => as_aux_lemma =>
       clear HC26
       try clear c1
       try clear c2
       try clear c2b0
       try clear c2b1
       try clear p2
       try clear c3
       try clear p3
       try clear q3
       try clear hx3
       try clear c4
       try clear q4
       try clear c5
       try clear c12
       try clear c12b0
       try clear c12b1
       try clear c15
       try clear c16
       try clear c16b0
       try clear c16b1
       try clear c17
       try clear c17b0
       try clear c17b1
       try clear c18
       try clear c18b0
       try clear c18b1
       try clear c19
       try clear c19b0
       try clear c19b1
       try clear c24
       try clear c24b0
       try clear c25
       try clear c25b0
       try clear c30
       try clear c30b0
       try clear c32
       try clear c32b0
       try clear p32
       try clear q32
       try clear hx32
       try clear c34
       try clear c34b0
       try clear c36
       try clear c36b0
       try clear c38
       try clear c38b0
       try clear c39
       try clear c39b0
       try clear q40
       try clear c41
       try clear c44
       try clear c44b0
       try clear c45
       try clear c45b0
       try clear q46
       try clear c47
       try clear c51
       try clear c51b0
       try clear hcz29_0
       try clear hcz29_1
       try clear hcz31_0
       try clear hcz31_1
       try clear hcz33_0
       try clear hcz33_1
       try clear hcz35_0
       try clear hcz35_1
       try clear hcz37_0
       try clear hcz37_1
       try clear hcz42_0
       try clear hcz42_1
       try clear hcz48_0
       try clear hcz48_1
       try clear hcz52_0
       try clear hcz52_1
       try clear hfz29_0
       try clear hfz29_1
       try clear hfz31_0
       try clear hfz31_1
       try clear hfz33_0
       try clear hfz33_1
       try clear hfz35_0
       try clear hfz35_1
       try clear hfz37_0
       try clear hfz37_1
       try clear hfz42_0
       try clear hfz42_1
       try clear hfz48_0
       try clear hfz48_1
       try clear hfz52_0
       try clear hfz52_1
       try clear hx320_0
       try clear hx320_1
       try clear hx322_0
       try clear hx323_0
       try clear hx324_0
       try clear hx324_1
       try clear p2
       try clear p320
       try clear p322
       try clear p323
       try clear p324
       try clear q320
       try clear q322
       try clear q323
       try clear q324
       obtain ⟨kq, x118_25, rfl, HA, HJ25, HO_3, HO_4, HO_7, HO_9, HO_11, HO_12, BK321, HB⟩ := hcut
       cases kq with
       | zero => exact absurd HA.out (by simp [laws_FnFits.j2])
       | succ kj25 =>
        have H := HA.out
        clear HA
        simp only [laws_FnFits.j2] at H
        by_cases c56 : x118_25 = true
        ·subst c56
         have H1 : (some false) = some r := by rw [if_pos rfl] at H; exact H
         clear H
         have H := H1
         clear H1
         obtain rfl := Option.some.inj H
         go_wp2
         repeat (go_quiet (fail); try go_wp2)
         go_ret
         exact ⟨by first | rfl | (simp [errW_none, errW_some] <;> rfl) | (simp [*, errW_none, errW_some] <;> rfl), by repeat (first | (with_reducible first | exact HB.out | apply below_alloc | apply pw_below_drewN | apply below_drew1 | refine below_set ?_ GE321.out) | exact HB.out)⟩
        replace c56 := Bool.eq_false_iff.mpr c56
        subst c56
        have H1 : (if 0 ≤ ((rd_T37 t306 x13_2).f0) then (if ((rd_T37 t306 x13_2).f0) < (t298.length : Int) then (if 0 ≤ ((rd_T37 t306 x13_2).f1) then (if ((rd_T37 t306 x13_2).f1) < (t299.length : Int) then (if (wrap64 ((rd t298 ((rd_T37 t306 x13_2).f0)) - (rd t299 ((rd_T37 t306 x13_2).f1)))) < t300 then (some false) else (if (wrap64 ((rd t298 ((rd_T37 t306 x13_2).f0)) - (rd t299 ((rd_T37 t306 x13_2).f1)))) > t301 then (some false) else (if ((rd_T37 t306 x13_2).f0) < (x11_2.length : Int) then (if ((rd_T37 t306 x13_2).f1) < (x12_2.length : Int) then (laws_FnFits.l0 kj25 t298 t299 t300 t301 t306 t310 (x11_2.set (((rd_T37 t306 x13_2).f0) : Int).toNat true) (x12_2.set (((rd_T37 t306 x13_2).f1) : Int).toNat true) (wrap64 (x13_2 + 1))) else (none)) else (none)))) else (none)) else (none)) else (none)) else (none)) = some r := by rw [if_neg (show ¬ (false = true) by decide)] at H; exact H
        clear H
        have H := H1
        clear H1
        by_cases c57 : 0 ≤ ((rd_T37 t306 x13_2).f0)
        rotate_left
        ·rw [if_neg c57] at H
         exact absurd H (by simp)
        rw [if_pos c57] at H
        have c57b0 : decide (0 ≤ ((rd_T37 t306 x13_2).f0)) = true := decide_eq_true c57
        clear c57
        by_cases c58 : ((rd_T37 t306 x13_2).f0) < (t298.length : Int)
        rotate_left
        ·rw [if_neg c58] at H
         exact absurd H (by simp)
        rw [if_pos c58] at H
        have c58b0 : decide (((rd_T37 t306 x13_2).f0) < (t298.length : Int)) = true := decide_eq_true c58
        clear c58
        by_cases c59 : 0 ≤ ((rd_T37 t306 x13_2).f1)
        rotate_left
        ·rw [if_neg c59] at H
         exact absurd H (by simp)
        rw [if_pos c59] at H
        have c59b0 : decide (0 ≤ ((rd_T37 t306 x13_2).f1)) = true := decide_eq_true c59
        clear c59
        by_cases c60 : ((rd_T37 t306 x13_2).f1) < (t299.length : Int)
        rotate_left
        ·rw [if_neg c60] at H
         exact absurd H (by simp)
        rw [if_pos c60] at H
        have c60b0 : decide (((rd_T37 t306 x13_2).f1) < (t299.length : Int)) = true := decide_eq_true c60
        clear c60
        by_cases c61 : (wrap64 ((rd t298 ((rd_T37 t306 x13_2).f0)) - (rd t299 ((rd_T37 t306 x13_2).f1)))) < t300
        ·rw [if_pos c61] at H
         have c61b0 : decide ((wrap64 ((rd t298 ((rd_T37 t306 x13_2).f0)) - (rd t299 ((rd_T37 t306 x13_2).f1)))) < t300) = true := decide_eq_true c61
         clear c61
         obtain rfl := Option.some.inj H
         have hcz62_0 : wc.cell? ⟨gb321, 0, none⟩ = some (.int .i64 ((rd_T37 t306 x13_2).f0)) := (blk_cell BK321.out 0).trans rfl
         have hcz62_1 : wc.cell? ⟨gb321, 1, none⟩ = some (.int .i64 ((rd_T37 t306 x13_2).f1)) := (blk_cell BK321.out 1).trans rfl
         have hfz62_0 := blk_frozen BK321.out 0
         have hfz62_1 := blk_frozen BK321.out 1
         have p325 : 0 ≤ (((rd_T37 t306 x13_2).f0) : Int) := Kp.d
         have q325 : ((rd_T37 t306 x13_2).f0) < (t298.length : Int) := Kp.d
         obtain ⟨ad325, e325, hx325_0⟩ := Kd.at_int (Kd.R_reads' HO_3.out).2.2 ((rd_T37 t306 x13_2).f0) p325 q325
         cases e325
         replace p325 := eq_true p325
         replace q325 := eq_true q325
         have p326 : 0 ≤ (((rd_T37 t306 x13_2).f1) : Int) := Kp.d
         have q326 : ((rd_T37 t306 x13_2).f1) < (t299.length : Int) := Kp.d
         obtain ⟨ad326, e326, hx326_0⟩ := Kd.at_int (Kd.R_reads' HO_4.out).2.2 ((rd_T37 t306 x13_2).f1) p326 q326
         cases e326
         replace p326 := eq_true p326
         replace q326 := eq_true q326
         go_wp2
         repeat (go_quiet (fail); try go_wp2)
         go_ret
         exact ⟨by first | rfl | (simp [errW_none, errW_some] <;> rfl) | (simp [*, errW_none, errW_some] <;> rfl), by repeat (first | (with_reducible first | exact HB.out | apply below_alloc | apply pw_below_drewN | apply below_drew1 | refine below_set ?_ GE321.out) | exact HB.out)⟩
        rw [if_neg c61] at H
        have c61b0 : decide ((wrap64 ((rd t298 ((rd_T37 t306 x13_2).f0)) - (rd t299 ((rd_T37 t306 x13_2).f1)))) < t300) = false := decide_eq_false c61
        clear c61
        by_cases c63 : (wrap64 ((rd t298 ((rd_T37 t306 x13_2).f0)) - (rd t299 ((rd_T37 t306 x13_2).f1)))) > t301
        ·rw [if_pos c63] at H
         have c63b0 : decide (t301 < (wrap64 ((rd t298 ((rd_T37 t306 x13_2).f0)) - (rd t299 ((rd_T37 t306 x13_2).f1))))) = true := decide_eq_true c63
         clear c63
         obtain rfl := Option.some.inj H
         have hcz64_0 : wc.cell? ⟨gb321, 0, none⟩ = some (.int .i64 ((rd_T37 t306 x13_2).f0)) := (blk_cell BK321.out 0).trans rfl
         have hcz64_1 : wc.cell? ⟨gb321, 1, none⟩ = some (.int .i64 ((rd_T37 t306 x13_2).f1)) := (blk_cell BK321.out 1).trans rfl
         have hfz64_0 := blk_frozen BK321.out 0
         have hfz64_1 := blk_frozen BK321.out 1
         have p325 : 0 ≤ (((rd_T37 t306 x13_2).f0) : Int) := Kp.d
         have q325 : ((rd_T37 t306 x13_2).f0) < (t298.length : Int) := Kp.d
         obtain ⟨ad325, e325, hx325_0⟩ := Kd.at_int (Kd.R_reads' HO_3.out).2.2 ((rd_T37 t306 x13_2).f0) p325 q325
         cases e325
         replace p325 := eq_true p325
         replace q325 := eq_true q325
         have p326 : 0 ≤ (((rd_T37 t306 x13_2).f1) : Int) := Kp.d
         have q326 : ((rd_T37 t306 x13_2).f1) < (t299.length : Int) := Kp.d
         obtain ⟨ad326, e326, hx326_0⟩ := Kd.at_int (Kd.R_reads' HO_4.out).2.2 ((rd_T37 t306 x13_2).f1) p326 q326
         cases e326
         replace p326 := eq_true p326
         replace q326 := eq_true q326
         go_wp2
         repeat (go_quiet (fail); try go_wp2)
         go_ret
         exact ⟨by first | rfl | (simp [errW_none, errW_some] <;> rfl) | (simp [*, errW_none, errW_some] <;> rfl), by repeat (first | (with_reducible first | exact HB.out | apply below_alloc | apply pw_below_drewN | apply below_drew1 | refine below_set ?_ GE321.out) | exact HB.out)⟩
        rw [if_neg c63] at H
        have c63b0 : decide (t301 < (wrap64 ((rd t298 ((rd_T37 t306 x13_2).f0)) - (rd t299 ((rd_T37 t306 x13_2).f1))))) = false := decide_eq_false c63
        clear c63
        by_cases c65 : ((rd_T37 t306 x13_2).f0) < (x11_2.length : Int)
        rotate_left
        ·rw [if_neg c65] at H
         exact absurd H (by simp)
        rw [if_pos c65] at H
        have c65b0 : decide (((rd_T37 t306 x13_2).f0) < (x11_2.length : Int)) = true := decide_eq_true c65
        clear c65
        obtain ⟨y327, hy327⟩ : ∃ y_ : List Bool, y_ = (x11_2.set (((rd_T37 t306 x13_2).f0) : Int).toNat true) := ⟨_, rfl⟩
        replace H : (if ((rd_T37 t306 x13_2).f1) < (x12_2.length : Int) then (laws_FnFits.l0 kj25 t298 t299 t300 t301 t306 t310 y327 (x12_2.set (((rd_T37 t306 x13_2).f1) : Int).toNat true) (wrap64 (x13_2 + 1))) else (none)) = some r := by first | (rw [hy327]; with_reducible exact H) | (have H2_ := (Option.bind_some _ _).symm.trans H; rw [hy327]; with_reducible exact H2_) | (have H2_ := (Option.bind_some _ _).symm.trans H; with_reducible exact H2_) | with_reducible exact H | (rw [hy327]; exact H) | exact H
        have Ny327 := Kp.a hy327
        clear hy327
        by_cases c67 : ((rd_T37 t306 x13_2).f1) < (x12_2.length : Int)
        rotate_left
        ·rw [if_neg c67] at H
         exact absurd H (by simp)
        rw [if_pos c67] at H
        have c67b0 : decide (((rd_T37 t306 x13_2).f1) < (x12_2.length : Int)) = true := decide_eq_true c67
        clear c67
        obtain ⟨y328, hy328⟩ : ∃ y_ : List Bool, y_ = (x12_2.set (((rd_T37 t306 x13_2).f1) : Int).toNat true) := ⟨_, rfl⟩
        replace H : (laws_FnFits.l0 kj25 t298 t299 t300 t301 t306 t310 y327 y328 (wrap64 (x13_2 + 1))) = some r := by first | (rw [hy328]; with_reducible exact H) | (have H2_ := (Option.bind_some _ _).symm.trans H; rw [hy328]; with_reducible exact H2_) | (have H2_ := (Option.bind_some _ _).symm.trans H; with_reducible exact H2_) | with_reducible exact H | (rw [hy328]; exact H) | exact H
        have Ny328 := Kp.a hy328
        clear hy328
        have H' := Kp.a H
        clear H
        have hcz69_0 : wc.cell? ⟨gb321, 0, none⟩ = some (.int .i64 ((rd_T37 t306 x13_2).f0)) := (blk_cell BK321.out 0).trans rfl
        have hcz69_1 : wc.cell? ⟨gb321, 1, none⟩ = some (.int .i64 ((rd_T37 t306 x13_2).f1)) := (blk_cell BK321.out 1).trans rfl
        have hfz69_0 := blk_frozen BK321.out 0
        have hfz69_1 := blk_frozen BK321.out 1
        have p325 : 0 ≤ (((rd_T37 t306 x13_2).f0) : Int) := Kp.d
        have q325 : ((rd_T37 t306 x13_2).f0) < (t298.length : Int) := Kp.d
        obtain ⟨ad325, e325, hx325_0⟩ := Kd.at_int (Kd.R_reads' HO_3.out).2.2 ((rd_T37 t306 x13_2).f0) p325 q325
        cases e325
        replace p325 := eq_true p325
        replace q325 := eq_true q325
        have p326 : 0 ≤ (((rd_T37 t306 x13_2).f1) : Int) := Kp.d
        have q326 : ((rd_T37 t306 x13_2).f1) < (t299.length : Int) := Kp.d
        obtain ⟨ad326, e326, hx326_0⟩ := Kd.at_int (Kd.R_reads' HO_4.out).2.2 ((rd_T37 t306 x13_2).f1) p326 q326
        cases e326
        replace p326 := eq_true p326
        replace q326 := eq_true q326
        have p66 : 0 ≤ (((rd_T37 t306 x13_2).f0) : Int) := Kp.d
        have q66 : (((rd_T37 t306 x13_2).f0) : Int) < ((x11_2.length : Int) : Int) := Kp.d
        obtain ⟨go66, co66, eo66, gb66, gl66, cl66, HG66⟩ := Kd.R_form HO_11.out (by omega)
        (first | cases eo66 | (injection eo66 with ea_ en_ ec_; (first | subst ea_ | (injection ea_ with ea_; subst ea_)); subst ec_; clear en_))
        have GB66 := Kp.a gb66
        have GG66 := Kp.a HG66
        clear gb66 gl66 HG66
        obtain ⟨hx66_0, hf66_0⟩ := Kd.R_celln false HO_11.out (((rd_T37 t306 x13_2).f0) : Int) p66 q66
        replace p66 := eq_true p66
        replace q66 := eq_true q66
        have HP70 := Kd.R_putg HO_11.out (((rd_T37 t306 x13_2).f0) : Int) true
        go_wp2_with (first | ((with_reducible refine gate_store (t := 4) (p := 141) rfl ?_); (try (rw [drewN_self wc]; generalize hq_ : World.drewN wc _ = wc; have n0_ := Kp.a (Kd.R_at hq_ HO_3.out); have n1_ := Kp.a (Kd.R_at hq_ HO_4.out); have n2_ := Kp.a (Kd.R_at hq_ HO_7.out); have n3_ := Kp.a (Kd.R_at hq_ HO_9.out); have n4_ := Kp.a (Kd.R_at hq_ HO_11.out); have n5_ := Kp.a (Kd.R_at hq_ HO_12.out); have n6_ := Kp.a (blk_at hq_ BK321.out); have n7_ := Kp.a (below_at hq_ HB.out); clear hq_ HO_3 HO_4 HO_7 HO_9 HO_11 HO_12 BK321 HB; have HO_3 := n0_; have HO_4 := n1_; have HO_7 := n2_; have HO_9 := n3_; have HO_11 := n4_; have HO_12 := n5_; have BK321 := n6_; have HB := n7_; clear n0_ n1_ n2_ n3_ n4_ n5_ n6_ n7_; (try (have HP70 := Kd.R_putg HO_11.out (((rd_T37 t306 x13_2).f0) : Int) true)); (try (obtain ⟨hx66_0, hf66_0⟩ := Kd.R_celln false HO_11.out (((rd_T37 t306 x13_2).f0) : Int) (of_eq_true p66) (of_eq_true q66))))); refine store_event (t := 4) (p := 141) (v := ?vo_w71) (w1 := (wc.setCell ⟨go66, (((rd_T37 t306 x13_2).f0) : Int).toNat, none⟩ (.bool true))) ?hg ?ho ?hn ?hr ?_; (case ho => rfl); (case hg => rfl); (case hn => rfl); (case hr => first | (go_simp; done) | (go_simp; rfl)); intro w71 hw; have hg : wc.grownBy w71 (some go66) := (by rw [hw]; exact HP70.2); have hp_ : Kd.R Kd.bool 4 w71 w.heap.size (fun k_ => some k_ ≠ (v318 : Value).ownBlock) (.slice (some ⟨go66, 0, none⟩) x11_2.length co66) y327 := (by rw [hw, Ny327.out]; exact HP70.1); clear HP70; have n0_ := Kp.a (Kd.R_over' (v := (.slice (some ⟨go66, 0, none⟩) x11_2.length co66)) (Kp.kpR HO_3.out) (Kd.R_typed HO_11.out) (by decide) hg); have n1_ := Kp.a (Kd.R_over' (v := (.slice (some ⟨go66, 0, none⟩) x11_2.length co66)) (Kp.kpR HO_4.out) (Kd.R_typed HO_11.out) (by decide) hg); have n2_ := Kp.a (Kd.R_over' (v := (.slice (some ⟨go66, 0, none⟩) x11_2.length co66)) (Kp.kpR HO_7.out) (Kd.R_typed HO_11.out) (by decide) hg); have n3_ := Kp.a (Kd.R_over' (v := (.slice (some ⟨go66, 0, none⟩) x11_2.length co66)) (Kp.kpR HO_9.out) (Kd.R_typed HO_11.out) (by decide) hg); have n4_ := Kp.a (hp_); have n5_ := Kp.a (Kd.R_after (v := (.slice (some ⟨go66, 0, none⟩) x11_2.length co66)) (v1 := (.slice (some ⟨go66, 0, none⟩) x11_2.length co66)) (ok := (fun _ => True)) (Kp.kpR (Kd.R_mono HO_12.out (fun _ hk => ⟨trivial, by first | exact hk | exact own_cut hk⟩))) hg (.inl rfl)); have n6_ := Kp.a (blk_grown (g := gb321) (o := .cells #[.int .i64 ((rd_T37 t306 x13_2).f0), .int .i64 ((rd_T37 t306 x13_2).f1)] 37 (0, 0)) (Kp.kpB BK321.out) hg (Kd.R_ne HO_11.out BK321.out (by decide))); have n7_ := Kp.a ((by rw [hw]; exact below_set (HB.out) GB66.out : Below w.heap.size w w71)); clear HO_3; clear HO_4; clear HO_7; clear HO_9; clear HO_11; clear HO_12; clear BK321; clear HB; have HO_3 := n0_; have HO_4 := n1_; have HO_7 := n2_; have HO_9 := n3_; have HO_11 := n4_; have HO_12 := n5_; have BK321 := n6_; have HB := n7_; clear n0_ n1_ n2_ n3_ n4_ n5_ n6_ n7_; clear hg hw hp_; have hcz72_0 : w71.cell? ⟨gb321, 0, none⟩ = some (.int .i64 ((rd_T37 t306 x13_2).f0)) := (blk_cell BK321.out 0).trans rfl; have hcz72_1 : w71.cell? ⟨gb321, 1, none⟩ = some (.int .i64 ((rd_T37 t306 x13_2).f1)) := (blk_cell BK321.out 1).trans rfl; have hfz72_0 := blk_frozen BK321.out 0; have hfz72_1 := blk_frozen BK321.out 1; have p68 : 0 ≤ (((rd_T37 t306 x13_2).f1) : Int) := Kp.d; have q68 : (((rd_T37 t306 x13_2).f1) : Int) < ((x12_2.length : Int) : Int) := Kp.d; obtain ⟨go68, co68, eo68, gb68, gl68, cl68, HG68⟩ := Kd.R_form HO_12.out (by omega); (first | cases eo68 | (injection eo68 with ea_ en_ ec_; (first | subst ea_ | (injection ea_ with ea_; subst ea_)); subst ec_; clear en_)); have GB68 := Kp.a gb68; have GG68 := Kp.a HG68; clear gb68 gl68 HG68; obtain ⟨hx68_0, hf68_0⟩ := Kd.R_celln false HO_12.out (((rd_T37 t306 x13_2).f1) : Int) p68 q68; replace p68 := eq_true p68; replace q68 := eq_true q68; have n_ := Kp.a (Kd.R_mono (ok' := (fun k_ => some k_ ≠ (.slice (some ⟨go66, 0, none⟩) x11_2.length co66 : Value).ownBlock)) HO_12.out (fun k_ hk => hk.2)); clear HO_12; have HO_12 := n_; clear n_; obtain ⟨hy73_, hz73_⟩ := Kd.R_celln false HO_12.out (((rd_T37 t306 x13_2).f1) : Int) (Kp.d) (Kp.d); have HP73 := Kd.R_putg HO_12.out (((rd_T37 t306 x13_2).f1) : Int) true) | ((with_reducible refine gate_store (t := 4) (p := 145) rfl ?_); (try (rw [drewN_self w71]; generalize hq_ : World.drewN w71 _ = w71; have n0_ := Kp.a (Kd.R_at hq_ HO_3.out); have n1_ := Kp.a (Kd.R_at hq_ HO_4.out); have n2_ := Kp.a (Kd.R_at hq_ HO_7.out); have n3_ := Kp.a (Kd.R_at hq_ HO_9.out); have n4_ := Kp.a (Kd.R_at hq_ HO_11.out); have n5_ := Kp.a (Kd.R_at hq_ HO_12.out); have n6_ := Kp.a (blk_at hq_ BK321.out); have n7_ := Kp.a (below_at hq_ HB.out); clear hq_ HO_3 HO_4 HO_7 HO_9 HO_11 HO_12 BK321 HB; have HO_3 := n0_; have HO_4 := n1_; have HO_7 := n2_; have HO_9 := n3_; have HO_11 := n4_; have HO_12 := n5_; have BK321 := n6_; have HB := n7_; clear n0_ n1_ n2_ n3_ n4_ n5_ n6_ n7_; (try (have n_ := Kp.a (Kd.R_mono (ok' := (fun k_ => some k_ ≠ (.slice (some ⟨go66, 0, none⟩) x11_2.length co66 : Value).ownBlock)) HO_12.out (fun k_ hk => hk.2)); clear HO_12; have HO_12 := n_; clear n_)); (try (obtain ⟨hy73_, hz73_⟩ := Kd.R_celln false HO_12.out (((rd_T37 t306 x13_2).f1) : Int) (Kp.d) (Kp.d))); (try (have HP73 := Kd.R_putg HO_12.out (((rd_T37 t306 x13_2).f1) : Int) true)))); refine store_event (t := 4) (p := 145) (v := ?vo_w74) (w1 := (w71.setCell ⟨go68, (((rd_T37 t306 x13_2).f1) : Int).toNat, none⟩ (.bool true))) ?hg ?ho ?hn ?hr ?_; (case ho => rfl); (case hg => rfl); (case hn => rfl); (case hr => first | (go_simp; done) | (go_simp; rfl)); intro w74 hw; have hg : w71.grownBy w74 (some go68) := (by rw [hw]; exact HP73.2); have hp_ : Kd.R Kd.bool 4 w74 w.heap.size (fun k_ => some k_ ≠ (.slice (some ⟨go66, 0, none⟩) x11_2.length co66 : Value).ownBlock) (.slice (some ⟨go68, 0, none⟩) x12_2.length co68) y328 := (by rw [hw, Ny328.out]; exact HP73.1); clear HP73; have n0_ := Kp.a (Kd.R_over' (v := (.slice (some ⟨go68, 0, none⟩) x12_2.length co68)) (Kp.kpR HO_3.out) (Kd.R_typed HO_12.out) (by decide) hg); have n1_ := Kp.a (Kd.R_over' (v := (.slice (some ⟨go68, 0, none⟩) x12_2.length co68)) (Kp.kpR HO_4.out) (Kd.R_typed HO_12.out) (by decide) hg); have n2_ := Kp.a (Kd.R_over' (v := (.slice (some ⟨go68, 0, none⟩) x12_2.length co68)) (Kp.kpR HO_7.out) (Kd.R_typed HO_12.out) (by decide) hg); have n3_ := Kp.a (Kd.R_over' (v := (.slice (some ⟨go68, 0, none⟩) x12_2.length co68)) (Kp.kpR HO_9.out) (Kd.R_typed HO_12.out) (by decide) hg); have n4_ := Kp.a (Kd.R_after (v := (.slice (some ⟨go68, 0, none⟩) x12_2.length co68)) (v1 := (.slice (some ⟨go68, 0, none⟩) x12_2.length co68)) (ok := (fun _ => True)) (Kp.kpR (Kd.R_mono HO_11.out (fun _ hk => ⟨trivial, by first | exact hk | exact own_cut hk⟩))) hg (.inl rfl)); have n5_ := Kp.a (hp_); have n6_ := Kp.a (blk_grown (g := gb321) (o := .cells #[.int .i64 ((rd_T37 t306 x13_2).f0), .int .i64 ((rd_T37 t306 x13_2).f1)] 37 (0, 0)) (Kp.kpB BK321.out) hg (Kd.R_ne HO_12.out BK321.out (by decide))); have n7_ := Kp.a ((by rw [hw]; exact below_set (HB.out) GB68.out : Below w.heap.size w w74)); clear HO_3; clear HO_4; clear HO_7; clear HO_9; clear HO_11; clear HO_12; clear BK321; clear HB; have HO_3 := n0_; have HO_4 := n1_; have HO_7 := n2_; have HO_9 := n3_; have HO_11 := n4_; have HO_12 := n5_; have BK321 := n6_; have HB := n7_; clear n0_ n1_ n2_ n3_ n4_ n5_ n6_ n7_; clear hg hw hp_))
        repeat (go_quiet (first | ((with_reducible refine gate_store (t := 4) (p := 141) rfl ?_); (try (rw [drewN_self wc]; generalize hq_ : World.drewN wc _ = wc; have n0_ := Kp.a (Kd.R_at hq_ HO_3.out); have n1_ := Kp.a (Kd.R_at hq_ HO_4.out); have n2_ := Kp.a (Kd.R_at hq_ HO_7.out); have n3_ := Kp.a (Kd.R_at hq_ HO_9.out); have n4_ := Kp.a (Kd.R_at hq_ HO_11.out); have n5_ := Kp.a (Kd.R_at hq_ HO_12.out); have n6_ := Kp.a (blk_at hq_ BK321.out); have n7_ := Kp.a (below_at hq_ HB.out); clear hq_ HO_3 HO_4 HO_7 HO_9 HO_11 HO_12 BK321 HB; have HO_3 := n0_; have HO_4 := n1_; have HO_7 := n2_; have HO_9 := n3_; have HO_11 := n4_; have HO_12 := n5_; have BK321 := n6_; have HB := n7_; clear n0_ n1_ n2_ n3_ n4_ n5_ n6_ n7_; (try (have HP70 := Kd.R_putg HO_11.out (((rd_T37 t306 x13_2).f0) : Int) true)); (try (obtain ⟨hx66_0, hf66_0⟩ := Kd.R_celln false HO_11.out (((rd_T37 t306 x13_2).f0) : Int) (of_eq_true p66) (of_eq_true q66))))); refine store_event (t := 4) (p := 141) (v := ?vo_w71) (w1 := (wc.setCell ⟨go66, (((rd_T37 t306 x13_2).f0) : Int).toNat, none⟩ (.bool true))) ?hg ?ho ?hn ?hr ?_; (case ho => rfl); (case hg => rfl); (case hn => rfl); (case hr => first | (go_simp; done) | (go_simp; rfl)); intro w71 hw; have hg : wc.grownBy w71 (some go66) := (by rw [hw]; exact HP70.2); have hp_ : Kd.R Kd.bool 4 w71 w.heap.size (fun k_ => some k_ ≠ (v318 : Value).ownBlock) (.slice (some ⟨go66, 0, none⟩) x11_2.length co66) y327 := (by rw [hw, Ny327.out]; exact HP70.1); clear HP70; have n0_ := Kp.a (Kd.R_over' (v := (.slice (some ⟨go66, 0, none⟩) x11_2.length co66)) (Kp.kpR HO_3.out) (Kd.R_typed HO_11.out) (by decide) hg); have n1_ := Kp.a (Kd.R_over' (v := (.slice (some ⟨go66, 0, none⟩) x11_2.length co66)) (Kp.kpR HO_4.out) (Kd.R_typed HO_11.out) (by decide) hg); have n2_ := Kp.a (Kd.R_over' (v := (.slice (some ⟨go66, 0, none⟩) x11_2.length co66)) (Kp.kpR HO_7.out) (Kd.R_typed HO_11.out) (by decide) hg); have n3_ := Kp.a (Kd.R_over' (v := (.slice (some ⟨go66, 0, none⟩) x11_2.length co66)) (Kp.kpR HO_9.out) (Kd.R_typed HO_11.out) (by decide) hg); have n4_ := Kp.a (hp_); have n5_ := Kp.a (Kd.R_after (v := (.slice (some ⟨go66, 0, none⟩) x11_2.length co66)) (v1 := (.slice (some ⟨go66, 0, none⟩) x11_2.length co66)) (ok := (fun _ => True)) (Kp.kpR (Kd.R_mono HO_12.out (fun _ hk => ⟨trivial, by first | exact hk | exact own_cut hk⟩))) hg (.inl rfl)); have n6_ := Kp.a (blk_grown (g := gb321) (o := .cells #[.int .i64 ((rd_T37 t306 x13_2).f0), .int .i64 ((rd_T37 t306 x13_2).f1)] 37 (0, 0)) (Kp.kpB BK321.out) hg (Kd.R_ne HO_11.out BK321.out (by decide))); have n7_ := Kp.a ((by rw [hw]; exact below_set (HB.out) GB66.out : Below w.heap.size w w71)); clear HO_3; clear HO_4; clear HO_7; clear HO_9; clear HO_11; clear HO_12; clear BK321; clear HB; have HO_3 := n0_; have HO_4 := n1_; have HO_7 := n2_; have HO_9 := n3_; have HO_11 := n4_; have HO_12 := n5_; have BK321 := n6_; have HB := n7_; clear n0_ n1_ n2_ n3_ n4_ n5_ n6_ n7_; clear hg hw hp_; have hcz72_0 : w71.cell? ⟨gb321, 0, none⟩ = some (.int .i64 ((rd_T37 t306 x13_2).f0)) := (blk_cell BK321.out 0).trans rfl; have hcz72_1 : w71.cell? ⟨gb321, 1, none⟩ = some (.int .i64 ((rd_T37 t306 x13_2).f1)) := (blk_cell BK321.out 1).trans rfl; have hfz72_0 := blk_frozen BK321.out 0; have hfz72_1 := blk_frozen BK321.out 1; have p68 : 0 ≤ (((rd_T37 t306 x13_2).f1) : Int) := Kp.d; have q68 : (((rd_T37 t306 x13_2).f1) : Int) < ((x12_2.length : Int) : Int) := Kp.d; obtain ⟨go68, co68, eo68, gb68, gl68, cl68, HG68⟩ := Kd.R_form HO_12.out (by omega); (first | cases eo68 | (injection eo68 with ea_ en_ ec_; (first | subst ea_ | (injection ea_ with ea_; subst ea_)); subst ec_; clear en_)); have GB68 := Kp.a gb68; have GG68 := Kp.a HG68; clear gb68 gl68 HG68; obtain ⟨hx68_0, hf68_0⟩ := Kd.R_celln false HO_12.out (((rd_T37 t306 x13_2).f1) : Int) p68 q68; replace p68 := eq_true p68; replace q68 := eq_true q68; have n_ := Kp.a (Kd.R_mono (ok' := (fun k_ => some k_ ≠ (.slice (some ⟨go66, 0, none⟩) x11_2.length co66 : Value).ownBlock)) HO_12.out (fun k_ hk => hk.2)); clear HO_12; have HO_12 := n_; clear n_; obtain ⟨hy73_, hz73_⟩ := Kd.R_celln false HO_12.out (((rd_T37 t306 x13_2).f1) : Int) (Kp.d) (Kp.d); have HP73 := Kd.R_putg HO_12.out (((rd_T37 t306 x13_2).f1) : Int) true) | ((with_reducible refine gate_store (t := 4) (p := 145) rfl ?_); (try (rw [drewN_self w71]; generalize hq_ : World.drewN w71 _ = w71; have n0_ := Kp.a (Kd.R_at hq_ HO_3.out); have n1_ := Kp.a (Kd.R_at hq_ HO_4.out); have n2_ := Kp.a (Kd.R_at hq_ HO_7.out); have n3_ := Kp.a (Kd.R_at hq_ HO_9.out); have n4_ := Kp.a (Kd.R_at hq_ HO_11.out); have n5_ := Kp.a (Kd.R_at hq_ HO_12.out); have n6_ := Kp.a (blk_at hq_ BK321.out); have n7_ := Kp.a (below_at hq_ HB.out); clear hq_ HO_3 HO_4 HO_7 HO_9 HO_11 HO_12 BK321 HB; have HO_3 := n0_; have HO_4 := n1_; have HO_7 := n2_; have HO_9 := n3_; have HO_11 := n4_; have HO_12 := n5_; have BK321 := n6_; have HB := n7_; clear n0_ n1_ n2_ n3_ n4_ n5_ n6_ n7_; (try (have n_ := Kp.a (Kd.R_mono (ok' := (fun k_ => some k_ ≠ (.slice (some ⟨go66, 0, none⟩) x11_2.length co66 : Value).ownBlock)) HO_12.out (fun k_ hk => hk.2)); clear HO_12; have HO_12 := n_; clear n_)); (try (obtain ⟨hy73_, hz73_⟩ := Kd.R_celln false HO_12.out (((rd_T37 t306 x13_2).f1) : Int) (Kp.d) (Kp.d))); (try (have HP73 := Kd.R_putg HO_12.out (((rd_T37 t306 x13_2).f1) : Int) true)))); refine store_event (t := 4) (p := 145) (v := ?vo_w74) (w1 := (w71.setCell ⟨go68, (((rd_T37 t306 x13_2).f1) : Int).toNat, none⟩ (.bool true))) ?hg ?ho ?hn ?hr ?_; (case ho => rfl); (case hg => rfl); (case hn => rfl); (case hr => first | (go_simp; done) | (go_simp; rfl)); intro w74 hw; have hg : w71.grownBy w74 (some go68) := (by rw [hw]; exact HP73.2); have hp_ : Kd.R Kd.bool 4 w74 w.heap.size (fun k_ => some k_ ≠ (.slice (some ⟨go66, 0, none⟩) x11_2.length co66 : Value).ownBlock) (.slice (some ⟨go68, 0, none⟩) x12_2.length co68) y328 := (by rw [hw, Ny328.out]; exact HP73.1); clear HP73; have n0_ := Kp.a (Kd.R_over' (v := (.slice (some ⟨go68, 0, none⟩) x12_2.length co68)) (Kp.kpR HO_3.out) (Kd.R_typed HO_12.out) (by decide) hg); have n1_ := Kp.a (Kd.R_over' (v := (.slice (some ⟨go68, 0, none⟩) x12_2.length co68)) (Kp.kpR HO_4.out) (Kd.R_typed HO_12.out) (by decide) hg); have n2_ := Kp.a (Kd.R_over' (v := (.slice (some ⟨go68, 0, none⟩) x12_2.length co68)) (Kp.kpR HO_7.out) (Kd.R_typed HO_12.out) (by decide) hg); have n3_ := Kp.a (Kd.R_over' (v := (.slice (some ⟨go68, 0, none⟩) x12_2.length co68)) (Kp.kpR HO_9.out) (Kd.R_typed HO_12.out) (by decide) hg); have n4_ := Kp.a (Kd.R_after (v := (.slice (some ⟨go68, 0, none⟩) x12_2.length co68)) (v1 := (.slice (some ⟨go68, 0, none⟩) x12_2.length co68)) (ok := (fun _ => True)) (Kp.kpR (Kd.R_mono HO_11.out (fun _ hk => ⟨trivial, by first | exact hk | exact own_cut hk⟩))) hg (.inl rfl)); have n5_ := Kp.a (hp_); have n6_ := Kp.a (blk_grown (g := gb321) (o := .cells #[.int .i64 ((rd_T37 t306 x13_2).f0), .int .i64 ((rd_T37 t306 x13_2).f1)] 37 (0, 0)) (Kp.kpB BK321.out) hg (Kd.R_ne HO_12.out BK321.out (by decide))); have n7_ := Kp.a ((by rw [hw]; exact below_set (HB.out) GB68.out : Below w.heap.size w w74)); clear HO_3; clear HO_4; clear HO_7; clear HO_9; clear HO_11; clear HO_12; clear BK321; clear HB; have HO_3 := n0_; have HO_4 := n1_; have HO_7 := n2_; have HO_9 := n3_; have HO_11 := n4_; have HO_12 := n5_; have BK321 := n6_; have HB := n7_; clear n0_ n1_ n2_ n3_ n4_ n5_ n6_ n7_; clear hg hw hp_)); try go_wp2_with (first | ((with_reducible refine gate_store (t := 4) (p := 141) rfl ?_); (try (rw [drewN_self wc]; generalize hq_ : World.drewN wc _ = wc; have n0_ := Kp.a (Kd.R_at hq_ HO_3.out); have n1_ := Kp.a (Kd.R_at hq_ HO_4.out); have n2_ := Kp.a (Kd.R_at hq_ HO_7.out); have n3_ := Kp.a (Kd.R_at hq_ HO_9.out); have n4_ := Kp.a (Kd.R_at hq_ HO_11.out); have n5_ := Kp.a (Kd.R_at hq_ HO_12.out); have n6_ := Kp.a (blk_at hq_ BK321.out); have n7_ := Kp.a (below_at hq_ HB.out); clear hq_ HO_3 HO_4 HO_7 HO_9 HO_11 HO_12 BK321 HB; have HO_3 := n0_; have HO_4 := n1_; have HO_7 := n2_; have HO_9 := n3_; have HO_11 := n4_; have HO_12 := n5_; have BK321 := n6_; have HB := n7_; clear n0_ n1_ n2_ n3_ n4_ n5_ n6_ n7_; (try (have HP70 := Kd.R_putg HO_11.out (((rd_T37 t306 x13_2).f0) : Int) true)); (try (obtain ⟨hx66_0, hf66_0⟩ := Kd.R_celln false HO_11.out (((rd_T37 t306 x13_2).f0) : Int) (of_eq_true p66) (of_eq_true q66))))); refine store_event (t := 4) (p := 141) (v := ?vo_w71) (w1 := (wc.setCell ⟨go66, (((rd_T37 t306 x13_2).f0) : Int).toNat, none⟩ (.bool true))) ?hg ?ho ?hn ?hr ?_; (case ho => rfl); (case hg => rfl); (case hn => rfl); (case hr => first | (go_simp; done) | (go_simp; rfl)); intro w71 hw; have hg : wc.grownBy w71 (some go66) := (by rw [hw]; exact HP70.2); have hp_ : Kd.R Kd.bool 4 w71 w.heap.size (fun k_ => some k_ ≠ (v318 : Value).ownBlock) (.slice (some ⟨go66, 0, none⟩) x11_2.length co66) y327 := (by rw [hw, Ny327.out]; exact HP70.1); clear HP70; have n0_ := Kp.a (Kd.R_over' (v := (.slice (some ⟨go66, 0, none⟩) x11_2.length co66)) (Kp.kpR HO_3.out) (Kd.R_typed HO_11.out) (by decide) hg); have n1_ := Kp.a (Kd.R_over' (v := (.slice (some ⟨go66, 0, none⟩) x11_2.length co66)) (Kp.kpR HO_4.out) (Kd.R_typed HO_11.out) (by decide) hg); have n2_ := Kp.a (Kd.R_over' (v := (.slice (some ⟨go66, 0, none⟩) x11_2.length co66)) (Kp.kpR HO_7.out) (Kd.R_typed HO_11.out) (by decide) hg); have n3_ := Kp.a (Kd.R_over' (v := (.slice (some ⟨go66, 0, none⟩) x11_2.length co66)) (Kp.kpR HO_9.out) (Kd.R_typed HO_11.out) (by decide) hg); have n4_ := Kp.a (hp_); have n5_ := Kp.a (Kd.R_after (v := (.slice (some ⟨go66, 0, none⟩) x11_2.length co66)) (v1 := (.slice (some ⟨go66, 0, none⟩) x11_2.length co66)) (ok := (fun _ => True)) (Kp.kpR (Kd.R_mono HO_12.out (fun _ hk => ⟨trivial, by first | exact hk | exact own_cut hk⟩))) hg (.inl rfl)); have n6_ := Kp.a (blk_grown (g := gb321) (o := .cells #[.int .i64 ((rd_T37 t306 x13_2).f0), .int .i64 ((rd_T37 t306 x13_2).f1)] 37 (0, 0)) (Kp.kpB BK321.out) hg (Kd.R_ne HO_11.out BK321.out (by decide))); have n7_ := Kp.a ((by rw [hw]; exact below_set (HB.out) GB66.out : Below w.heap.size w w71)); clear HO_3; clear HO_4; clear HO_7; clear HO_9; clear HO_11; clear HO_12; clear BK321; clear HB; have HO_3 := n0_; have HO_4 := n1_; have HO_7 := n2_; have HO_9 := n3_; have HO_11 := n4_; have HO_12 := n5_; have BK321 := n6_; have HB := n7_; clear n0_ n1_ n2_ n3_ n4_ n5_ n6_ n7_; clear hg hw hp_; have hcz72_0 : w71.cell? ⟨gb321, 0, none⟩ = some (.int .i64 ((rd_T37 t306 x13_2).f0)) := (blk_cell BK321.out 0).trans rfl; have hcz72_1 : w71.cell? ⟨gb321, 1, none⟩ = some (.int .i64 ((rd_T37 t306 x13_2).f1)) := (blk_cell BK321.out 1).trans rfl; have hfz72_0 := blk_frozen BK321.out 0; have hfz72_1 := blk_frozen BK321.out 1; have p68 : 0 ≤ (((rd_T37 t306 x13_2).f1) : Int) := Kp.d; have q68 : (((rd_T37 t306 x13_2).f1) : Int) < ((x12_2.length : Int) : Int) := Kp.d; obtain ⟨go68, co68, eo68, gb68, gl68, cl68, HG68⟩ := Kd.R_form HO_12.out (by omega); (first | cases eo68 | (injection eo68 with ea_ en_ ec_; (first | subst ea_ | (injection ea_ with ea_; subst ea_)); subst ec_; clear en_)); have GB68 := Kp.a gb68; have GG68 := Kp.a HG68; clear gb68 gl68 HG68; obtain ⟨hx68_0, hf68_0⟩ := Kd.R_celln false HO_12.out (((rd_T37 t306 x13_2).f1) : Int) p68 q68; replace p68 := eq_true p68; replace q68 := eq_true q68; have n_ := Kp.a (Kd.R_mono (ok' := (fun k_ => some k_ ≠ (.slice (some ⟨go66, 0, none⟩) x11_2.length co66 : Value).ownBlock)) HO_12.out (fun k_ hk => hk.2)); clear HO_12; have HO_12 := n_; clear n_; obtain ⟨hy73_, hz73_⟩ := Kd.R_celln false HO_12.out (((rd_T37 t306 x13_2).f1) : Int) (Kp.d) (Kp.d); have HP73 := Kd.R_putg HO_12.out (((rd_T37 t306 x13_2).f1) : Int) true) | ((with_reducible refine gate_store (t := 4) (p := 145) rfl ?_); (try (rw [drewN_self w71]; generalize hq_ : World.drewN w71 _ = w71; have n0_ := Kp.a (Kd.R_at hq_ HO_3.out); have n1_ := Kp.a (Kd.R_at hq_ HO_4.out); have n2_ := Kp.a (Kd.R_at hq_ HO_7.out); have n3_ := Kp.a (Kd.R_at hq_ HO_9.out); have n4_ := Kp.a (Kd.R_at hq_ HO_11.out); have n5_ := Kp.a (Kd.R_at hq_ HO_12.out); have n6_ := Kp.a (blk_at hq_ BK321.out); have n7_ := Kp.a (below_at hq_ HB.out); clear hq_ HO_3 HO_4 HO_7 HO_9 HO_11 HO_12 BK321 HB; have HO_3 := n0_; have HO_4 := n1_; have HO_7 := n2_; have HO_9 := n3_; have HO_11 := n4_; have HO_12 := n5_; have BK321 := n6_; have HB := n7_; clear n0_ n1_ n2_ n3_ n4_ n5_ n6_ n7_; (try (have n_ := Kp.a (Kd.R_mono (ok' := (fun k_ => some k_ ≠ (.slice (some ⟨go66, 0, none⟩) x11_2.length co66 : Value).ownBlock)) HO_12.out (fun k_ hk => hk.2)); clear HO_12; have HO_12 := n_; clear n_)); (try (obtain ⟨hy73_, hz73_⟩ := Kd.R_celln false HO_12.out (((rd_T37 t306 x13_2).f1) : Int) (Kp.d) (Kp.d))); (try (have HP73 := Kd.R_putg HO_12.out (((rd_T37 t306 x13_2).f1) : Int) true)))); refine store_event (t := 4) (p := 145) (v := ?vo_w74) (w1 := (w71.setCell ⟨go68, (((rd_T37 t306 x13_2).f1) : Int).toNat, none⟩ (.bool true))) ?hg ?ho ?hn ?hr ?_; (case ho => rfl); (case hg => rfl); (case hn => rfl); (case hr => first | (go_simp; done) | (go_simp; rfl)); intro w74 hw; have hg : w71.grownBy w74 (some go68) := (by rw [hw]; exact HP73.2); have hp_ : Kd.R Kd.bool 4 w74 w.heap.size (fun k_ => some k_ ≠ (.slice (some ⟨go66, 0, none⟩) x11_2.length co66 : Value).ownBlock) (.slice (some ⟨go68, 0, none⟩) x12_2.length co68) y328 := (by rw [hw, Ny328.out]; exact HP73.1); clear HP73; have n0_ := Kp.a (Kd.R_over' (v := (.slice (some ⟨go68, 0, none⟩) x12_2.length co68)) (Kp.kpR HO_3.out) (Kd.R_typed HO_12.out) (by decide) hg); have n1_ := Kp.a (Kd.R_over' (v := (.slice (some ⟨go68, 0, none⟩) x12_2.length co68)) (Kp.kpR HO_4.out) (Kd.R_typed HO_12.out) (by decide) hg); have n2_ := Kp.a (Kd.R_over' (v := (.slice (some ⟨go68, 0, none⟩) x12_2.length co68)) (Kp.kpR HO_7.out) (Kd.R_typed HO_12.out) (by decide) hg); have n3_ := Kp.a (Kd.R_over' (v := (.slice (some ⟨go68, 0, none⟩) x12_2.length co68)) (Kp.kpR HO_9.out) (Kd.R_typed HO_12.out) (by decide) hg); have n4_ := Kp.a (Kd.R_after (v := (.slice (some ⟨go68, 0, none⟩) x12_2.length co68)) (v1 := (.slice (some ⟨go68, 0, none⟩) x12_2.length co68)) (ok := (fun _ => True)) (Kp.kpR (Kd.R_mono HO_11.out (fun _ hk => ⟨trivial, by first | exact hk | exact own_cut hk⟩))) hg (.inl rfl)); have n5_ := Kp.a (hp_); have n6_ := Kp.a (blk_grown (g := gb321) (o := .cells #[.int .i64 ((rd_T37 t306 x13_2).f0), .int .i64 ((rd_T37 t306 x13_2).f1)] 37 (0, 0)) (Kp.kpB BK321.out) hg (Kd.R_ne HO_12.out BK321.out (by decide))); have n7_ := Kp.a ((by rw [hw]; exact below_set (HB.out) GB68.out : Below w.heap.size w w74)); clear HO_3; clear HO_4; clear HO_7; clear HO_9; clear HO_11; clear HO_12; clear BK321; clear HB; have HO_3 := n0_; have HO_4 := n1_; have HO_7 := n2_; have HO_9 := n3_; have HO_11 := n4_; have HO_12 := n5_; have BK321 := n6_; have HB := n7_; clear n0_ n1_ n2_ n3_ n4_ n5_ n6_ n7_; clear hg hw hp_)))
        go_roundg kj25
        case measure => have := HJ5.out; have := HK2.out; have := HJ25.out; omega
        case rel => exact ⟨(y327), (y328), (wrap64 (x13_2 + 1)), (by first | rfl | (simp; done) | (simp [*]; done)), H', ⟨by have := HJ5.out; have := HK2.out; have := HJ25.out; omega⟩, ⟨Kp.kpR HO_3.out⟩, ⟨Kp.kpR HO_4.out⟩, ⟨Kp.kpR (Kd.R_mono HO_7.out (fun _ hk => hk.1))⟩, ⟨Kp.kpR (Kd.R_mono HO_9.out (fun _ hk => hk.1))⟩, ⟨Kp.kpR (Kd.R_mono HO_11.out (fun _ hk => hk.2))⟩, ⟨Kp.kpR HO_12.out⟩, ⟨by repeat (first | (with_reducible first | exact HB.out | apply below_alloc | apply pw_below_drewN | apply below_drew1 | refine below_set ?_ GE321.out) | exact HB.out)⟩⟩
     rw [if_neg c24] at H
     have c24b0 : decide (x13_2 < (t306.length : Int)) = false := decide_eq_false c24
     clear c24
     replace H := Option.bind_eq_some_iff.mp H
     obtain ⟨⟨t329, t330, t331⟩, A750, H⟩ := H
     replace H : (if t331 = 0 then (laws_FnFits.j3 k2 t298 t299 t300 t301 t329 t330 ((wrap64 ((t329.length : Int) - (t330.length : Int))) != (wrap64 ((t298.length : Int) - (t306.length : Int))))) else (laws_FnFits.j3 k2 t298 t299 t300 t301 t329 t330 true)) = some r := H
     have A75 := Kp.a A750
     clear A750
     have HC76 := Kp.a H
     clear H
     obtain ⟨Ao77, co77, eo77⟩ := Kd.R_slice HO_7.out
     subst eo77
     go_upto_region 22 with (first | (go_at_call 15; (with_reducible refine (impl_Blocked.calls k2 _ _ t298 _ _ t299 t300 t301 t329 t330 t331 _ ?side1 ?side2 ?side3 ?side4 A75.out).mono ?_); (case side1 => repeat (first | exact (Kd.R_reads' HO_3.out).2.2 | (with_reducible refine Kd.C_alloc ?_ _) | (with_reducible refine Kd.C_drewN ?_ _) | (with_reducible refine Kd.C_drew ?_))); (case side2 => exact (Kd.R_reads' HO_3.out).2.1); (case side3 => repeat (first | exact (Kd.R_reads' HO_4.out).2.2 | (with_reducible refine Kd.C_alloc ?_ _) | (with_reducible refine Kd.C_drewN ?_ _) | (with_reducible refine Kd.C_drew ?_))); (case side4 => exact (Kd.R_reads' HO_4.out).2.1); rintro e w78 ⟨v332, v334, rfl, ho0, ho1, hb⟩; have n0_ := Kp.a (Kd.R_mono (Kd.R_told (Kd.R_told (Kd.R_old (Kp.kpR HO_3.out) hb) (Kd.R_base ho0)) (Kd.R_base ho1)) (fun _ h_ => h_.1)); have n1_ := Kp.a (Kd.R_mono (Kd.R_told (Kd.R_told (Kd.R_old (Kp.kpR HO_4.out) hb) (Kd.R_base ho0)) (Kd.R_base ho1)) (fun _ h_ => h_.1)); have n2_ := Kp.a (Kd.R_below (Kp.kpR HO_7.out) hb); have n3_ := Kp.a (Kd.R_below (Kp.kpR HO_9.out) hb); have n4_ := Kp.a (Kd.R_below (Kp.kpR HO_11.out) hb); have n5_ := Kp.a (Kd.R_below (Kp.kpR HO_12.out) hb); have n6_ := Kp.a (Kd.R_lower (Kd.R_new' (Kd.R_new' ho0 (Kd.R_lt (Kp.kpR HO_3.out))) (Kd.R_lt (Kp.kpR HO_4.out))) (below_size (Kp.kpL HB.out))); have n7_ := Kp.a (Kd.R_lower (Kd.R_new' (Kd.R_new' ho1 (Kd.R_lt (Kp.kpR HO_3.out))) (Kd.R_lt (Kp.kpR HO_4.out))) (below_size (Kp.kpL HB.out))); have n8_ := Kp.a (below_step (Kp.kpL HB.out) hb); clear HO_3; clear HO_4; clear HO_7; clear HO_9; clear HO_11; clear HO_12; clear HB; have HO_3 := n0_; have HO_4 := n1_; have HO_7 := n2_; have HO_9 := n3_; have HO_11 := n4_; have HO_12 := n5_; have HO333 := n6_; have HO335 := n7_; have HB := n8_; clear n0_ n1_ n2_ n3_ n4_ n5_ n6_ n7_ n8_; (try clear hb); (try clear hb2); (try clear hk); (try clear hi); (try clear ho0); (try clear ho1)))
     repeat (go_quiet (first | (go_at_call 15; (with_reducible refine (impl_Blocked.calls k2 _ _ t298 _ _ t299 t300 t301 t329 t330 t331 _ ?side1 ?side2 ?side3 ?side4 A75.out).mono ?_); (case side1 => repeat (first | exact (Kd.R_reads' HO_3.out).2.2 | (with_reducible refine Kd.C_alloc ?_ _) | (with_reducible refine Kd.C_drewN ?_ _) | (with_reducible refine Kd.C_drew ?_))); (case side2 => exact (Kd.R_reads' HO_3.out).2.1); (case side3 => repeat (first | exact (Kd.R_reads' HO_4.out).2.2 | (with_reducible refine Kd.C_alloc ?_ _) | (with_reducible refine Kd.C_drewN ?_ _) | (with_reducible refine Kd.C_drew ?_))); (case side4 => exact (Kd.R_reads' HO_4.out).2.1); rintro e w78 ⟨v332, v334, rfl, ho0, ho1, hb⟩; have n0_ := Kp.a (Kd.R_mono (Kd.R_told (Kd.R_told (Kd.R_old (Kp.kpR HO_3.out) hb) (Kd.R_base ho0)) (Kd.R_base ho1)) (fun _ h_ => h_.1)); have n1_ := Kp.a (Kd.R_mono (Kd.R_told (Kd.R_told (Kd.R_old (Kp.kpR HO_4.out) hb) (Kd.R_base ho0)) (Kd.R_base ho1)) (fun _ h_ => h_.1)); have n2_ := Kp.a (Kd.R_below (Kp.kpR HO_7.out) hb); have n3_ := Kp.a (Kd.R_below (Kp.kpR HO_9.out) hb); have n4_ := Kp.a (Kd.R_below (Kp.kpR HO_11.out) hb); have n5_ := Kp.a (Kd.R_below (Kp.kpR HO_12.out) hb); have n6_ := Kp.a (Kd.R_lower (Kd.R_new' (Kd.R_new' ho0 (Kd.R_lt (Kp.kpR HO_3.out))) (Kd.R_lt (Kp.kpR HO_4.out))) (below_size (Kp.kpL HB.out))); have n7_ := Kp.a (Kd.R_lower (Kd.R_new' (Kd.R_new' ho1 (Kd.R_lt (Kp.kpR HO_3.out))) (Kd.R_lt (Kp.kpR HO_4.out))) (below_size (Kp.kpL HB.out))); have n8_ := Kp.a (below_step (Kp.kpL HB.out) hb); clear HO_3; clear HO_4; clear HO_7; clear HO_9; clear HO_11; clear HO_12; clear HB; have HO_3 := n0_; have HO_4 := n1_; have HO_7 := n2_; have HO_9 := n3_; have HO_11 := n4_; have HO_12 := n5_; have HO333 := n6_; have HO335 := n7_; have HB := n8_; clear n0_ n1_ n2_ n3_ n4_ n5_ n6_ n7_ n8_; (try clear hb); (try clear hb2); (try clear hk); (try clear hi); (try clear ho0); (try clear ho1))); go_upto_region 22 with (first | (go_at_call 15; (with_reducible refine (impl_Blocked.calls k2 _ _ t298 _ _ t299 t300 t301 t329 t330 t331 _ ?side1 ?side2 ?side3 ?side4 A75.out).mono ?_); (case side1 => repeat (first | exact (Kd.R_reads' HO_3.out).2.2 | (with_reducible refine Kd.C_alloc ?_ _) | (with_reducible refine Kd.C_drewN ?_ _) | (with_reducible refine Kd.C_drew ?_))); (case side2 => exact (Kd.R_reads' HO_3.out).2.1); (case side3 => repeat (first | exact (Kd.R_reads' HO_4.out).2.2 | (with_reducible refine Kd.C_alloc ?_ _) | (with_reducible refine Kd.C_drewN ?_ _) | (with_reducible refine Kd.C_drew ?_))); (case side4 => exact (Kd.R_reads' HO_4.out).2.1); rintro e w78 ⟨v332, v334, rfl, ho0, ho1, hb⟩; have n0_ := Kp.a (Kd.R_mono (Kd.R_told (Kd.R_told (Kd.R_old (Kp.kpR HO_3.out) hb) (Kd.R_base ho0)) (Kd.R_base ho1)) (fun _ h_ => h_.1)); have n1_ := Kp.a (Kd.R_mono (Kd.R_told (Kd.R_told (Kd.R_old (Kp.kpR HO_4.out) hb) (Kd.R_base ho0)) (Kd.R_base ho1)) (fun _ h_ => h_.1)); have n2_ := Kp.a (Kd.R_below (Kp.kpR HO_7.out) hb); have n3_ := Kp.a (Kd.R_below (Kp.kpR HO_9.out) hb); have n4_ := Kp.a (Kd.R_below (Kp.kpR HO_11.out) hb); have n5_ := Kp.a (Kd.R_below (Kp.kpR HO_12.out) hb); have n6_ := Kp.a (Kd.R_lower (Kd.R_new' (Kd.R_new' ho0 (Kd.R_lt (Kp.kpR HO_3.out))) (Kd.R_lt (Kp.kpR HO_4.out))) (below_size (Kp.kpL HB.out))); have n7_ := Kp.a (Kd.R_lower (Kd.R_new' (Kd.R_new' ho1 (Kd.R_lt (Kp.kpR HO_3.out))) (Kd.R_lt (Kp.kpR HO_4.out))) (below_size (Kp.kpL HB.out))); have n8_ := Kp.a (below_step (Kp.kpL HB.out) hb); clear HO_3; clear HO_4; clear HO_7; clear HO_9; clear HO_11; clear HO_12; clear HB; have HO_3 := n0_; have HO_4 := n1_; have HO_7 := n2_; have HO_9 := n3_; have HO_11 := n4_; have HO_12 := n5_; have HO333 := n6_; have HO335 := n7_; have HB := n8_; clear n0_ n1_ n2_ n3_ n4_ n5_ n6_ n7_ n8_; (try clear hb); (try clear hb2); (try clear hk); (try clear hi); (try clear ho0); (try clear ho1))))
     (try simp only [Act.put, Kp.s0, Kp.s1, Kp.s2])
     go_cut [169] (fun v169 wc => ∃ (kq : Nat) (x169_75 : Bool), v169 = .bool x169_75 ∧ Aside0 (laws_FnFits.j3 kq t298 t299 t300 t301 t329 t330 x169_75 = some r) ∧ Aside0 (kq ≤ k2) ∧ Aside0 (Kd.R (Kd.int .i64) 3 wc w.heap.size (fun k_ => some k_ ≠ ((.slice Ao9 t299.length co9) : Value).ownBlock ∧ some k_ ≠ (v332 : Value).ownBlock ∧ some k_ ≠ (v334 : Value).ownBlock) (.slice Ao8 t298.length co8) t298) ∧ Aside0 (Kd.R (Kd.int .i64) 3 wc w.heap.size (fun k_ => some k_ ≠ ((.slice Ao8 t298.length co8) : Value).ownBlock ∧ some k_ ≠ (v332 : Value).ownBlock ∧ some k_ ≠ (v334 : Value).ownBlock) (.slice Ao9 t299.length co9) t299) ∧ Aside0 (Kd.R (Kd.int .i64) 3 wc w.heap.size (fun k_ => some k_ ≠ ((.slice Ao8 t298.length co8) : Value).ownBlock ∧ some k_ ≠ ((.slice Ao9 t299.length co9) : Value).ownBlock ∧ some k_ ≠ (v334 : Value).ownBlock) v332 t329) ∧ Aside0 (Kd.R (Kd.int .i64) 3 wc w.heap.size (fun k_ => some k_ ≠ ((.slice Ao8 t298.length co8) : Value).ownBlock ∧ some k_ ≠ ((.slice Ao9 t299.length co9) : Value).ownBlock ∧ some k_ ≠ (v332 : Value).ownBlock) v334 t330) ∧ Aside0 (Below w.heap.size w wc))
     case first => as_aux_lemma =>
      have H := HC76.out
      clear HC76
      by_cases c79 : t331 = 0
      rotate_left
      ·rw [if_neg c79] at H
       have c79b0 : (t331 == 0) = false := beq_eq_false_iff_ne.mpr c79
       have c79b1 : (t331 != 0) = true := bne_iff_ne.mpr c79
       (first | rw [c79b0] | (simp only [i64_w, i32_w]; rw [c79b0]) | skip)
       have H' := Kp.a H
       clear H
       go_wp2
       repeat (go_quiet (fail); try go_wp2)
       go_meet
       case rel => exact ⟨_, (true), (by first | rfl | (simp; done) | (simp [*]; done)), H', ⟨by have := HJ5.out; have := HK2.out; first | omega | exact Nat.le_refl _⟩, ⟨Kp.kpR (Kd.R_mono HO_3.out (fun _ hk => ⟨hk.1.1, ⟨hk.1.2, hk.2⟩⟩))⟩, ⟨Kp.kpR (Kd.R_mono HO_4.out (fun _ hk => ⟨hk.1.1, ⟨hk.1.2, hk.2⟩⟩))⟩, ⟨Kp.kpR (Kd.R_mono HO333.out (fun _ hk => ⟨hk.1.2, ⟨hk.2, hk.1.1⟩⟩))⟩, ⟨Kp.kpR (Kd.R_mono HO335.out (fun _ hk => ⟨hk.1.2, ⟨hk.2, hk.1.1⟩⟩))⟩, ⟨Kp.kpL HB.out⟩⟩
      rw [if_pos c79] at H
      have c79b0 : (t331 == 0) = true := beq_iff_eq.mpr c79
      have c79b1 : (t331 != 0) = false := bne_eq_false_iff_eq.mpr c79
      clear c79
      (first | rw [c79b0] | (simp only [i64_w, i32_w]; rw [c79b0]) | skip)
      have H' := Kp.a H
      clear H
      obtain ⟨Ao80, co80, eo80⟩ := Kd.R_slice HO333.out
      subst eo80
      obtain ⟨Ao81, co81, eo81⟩ := Kd.R_slice HO335.out
      subst eo81
      go_wp2
      repeat (go_quiet (fail); try go_wp2)
      go_meet
      case rel => exact ⟨_, (((wrap64 ((t329.length : Int) - (t330.length : Int))) != (wrap64 ((t298.length : Int) - (t306.length : Int))))), (by first | rfl | (simp; done) | (simp [*]; done)), H', ⟨by have := HJ5.out; have := HK2.out; first | omega | exact Nat.le_refl _⟩, ⟨Kp.kpR (Kd.R_mono HO_3.out (fun _ hk => ⟨hk.1.1, ⟨hk.1.2, hk.2⟩⟩))⟩, ⟨Kp.kpR (Kd.R_mono HO_4.out (fun _ hk => ⟨hk.1.1, ⟨hk.1.2, hk.2⟩⟩))⟩, ⟨Kp.kpR (Kd.R_mono HO333.out (fun _ hk => ⟨hk.1.2, ⟨hk.2, hk.1.1⟩⟩))⟩, ⟨Kp.kpR (Kd.R_mono HO335.out (fun _ hk => ⟨hk.1.2, ⟨hk.2, hk.1.1⟩⟩))⟩, ⟨Kp.kpL HB.out⟩⟩
     case rest => as_aux_lemma =>
      clear HC76
      try clear c1
      try clear c2
      try clear c2b0
      try clear c2b1
      try clear p2
      try clear c3
      try clear p3
      try clear q3
      try clear hx3
      try clear c4
      try clear q4
      try clear c5
      try clear c6
      try clear p6
      try clear q6
      try clear hx6
      try clear hf6
      try clear c7
      try clear c12
      try clear c12b0
      try clear c12b1
      try clear c15
      try clear c16
      try clear c16b0
      try clear c16b1
      try clear c17
      try clear c17b0
      try clear c17b1
      try clear c18
      try clear c18b0
      try clear c18b1
      try clear c19
      try clear c19b0
      try clear c19b1
      try clear c24
      try clear c24b0
      try clear c25
      try clear c25b0
      try clear c30
      try clear c30b0
      try clear c32
      try clear c32b0
      try clear p32
      try clear q32
      try clear hx32
      try clear c34
      try clear c34b0
      try clear c36
      try clear c36b0
      try clear c38
      try clear c38b0
      try clear c39
      try clear c39b0
      try clear q40
      try clear c41
      try clear c44
      try clear c44b0
      try clear c45
      try clear c45b0
      try clear q46
      try clear c47
      try clear c51
      try clear c51b0
      try clear c56
      try clear c57
      try clear c57b0
      try clear c58
      try clear c58b0
      try clear c59
      try clear c59b0
      try clear c60
      try clear c60b0
      try clear c61
      try clear c61b0
      try clear c63
      try clear c63b0
      try clear p64
      try clear c65
      try clear c65b0
      try clear p66
      try clear q66
      try clear hx66
      try clear hf66
      try clear c67
      try clear c67b0
      try clear p68
      try clear q68
      try clear hx68
      try clear hf68
      try clear c79
      try clear c79b0
      try clear c79b1
      try clear hcz29_0
      try clear hcz29_1
      try clear hcz31_0
      try clear hcz31_1
      try clear hcz33_0
      try clear hcz33_1
      try clear hcz35_0
      try clear hcz35_1
      try clear hcz37_0
      try clear hcz37_1
      try clear hcz42_0
      try clear hcz42_1
      try clear hcz48_0
      try clear hcz48_1
      try clear hcz52_0
      try clear hcz52_1
      try clear hcz62_0
      try clear hcz62_1
      try clear hcz64_0
      try clear hcz64_1
      try clear hcz69_0
      try clear hcz69_1
      try clear hcz72_0
      try clear hcz72_1
      try clear hfz29_0
      try clear hfz29_1
      try clear hfz31_0
      try clear hfz31_1
      try clear hfz33_0
      try clear hfz33_1
      try clear hfz35_0
      try clear hfz35_1
      try clear hfz37_0
      try clear hfz37_1
      try clear hfz42_0
      try clear hfz42_1
      try clear hfz48_0
      try clear hfz48_1
      try clear hfz52_0
      try clear hfz52_1
      try clear hfz62_0
      try clear hfz62_1
      try clear hfz64_0
      try clear hfz64_1
      try clear hfz69_0
      try clear hfz69_1
      try clear hfz72_0
      try clear hfz72_1
      try clear hx320_0
      try clear hx320_1
      try clear hx322_0
      try clear hx323_0
      try clear hx324_0
      try clear hx324_1
      try clear hx325_0
      try clear hx326_0
      try clear hx66_0
      try clear hx68_0
      try clear p2
      try clear p3
      try clear p32
      try clear p320
      try clear p322
      try clear p323
      try clear p324
      try clear p325
      try clear p326
      try clear p66
      try clear p68
      try clear q3
      try clear q32
      try clear q320
      try clear q322
      try clear q323
      try clear q324
      try clear q325
      try clear q326
      try clear q4
      try clear q40
      try clear q46
      try clear q66
      try clear q68
      obtain ⟨kq, x169_75, rfl, HA, HJ75, HO_3, HO_4, HO_16, HO_17, HB⟩ := hcut
      cases kq with
      | zero => exact absurd HA.out (by simp [laws_FnFits.j3])
      | succ kj75 =>
       have H := HA.out
       clear HA
       simp only [laws_FnFits.j3] at H
       by_cases c82 : x169_75 = true
       ·subst c82
        have H1 : (some false) = some r := by rw [if_pos rfl] at H; exact H
        clear H
        have H := H1
        clear H1
        obtain rfl := Option.some.inj H
        go_wp2
        repeat (go_quiet (fail); try go_wp2)
        go_ret
        exact ⟨by first | rfl | (simp [errW_none, errW_some] <;> rfl) | (simp [*, errW_none, errW_some] <;> rfl), Kp.kpL HB.out⟩
       replace c82 := Bool.eq_false_iff.mpr c82
       subst c82
       have H1 : (if 0 ≤ (t299.length : Int) then (if ((t299.length : Int) : Int).toNat ≤ 281474976710656 then (laws_FnFits.l1 kj75 t298 t299 t300 t301 t329 t330 (List.replicate ((t299.length : Int) : Int).toNat false) 0) else (none)) else (none)) = some r := by rw [if_neg (show ¬ (false = true) by decide)] at H; exact H
       clear H
       have H := H1
       clear H1
       by_cases c83 : 0 ≤ (t299.length : Int)
       rotate_left
       ·rw [if_neg c83] at H
        exact absurd H (by simp)
       rw [if_pos c83] at H
       have c83b0 := eq_true c83
       have c83b1 : decide (0 ≤ (t299.length : Int)) = true := decide_eq_true c83
       clear c83
       by_cases c84 : ((t299.length : Int) : Int).toNat ≤ 281474976710656
       rotate_left
       ·rw [if_neg c84] at H
        exact absurd H (by simp)
       rw [if_pos c84] at H
       have c84b0 := eq_true c84
       have c84b1 : decide (((t299.length : Int) : Int).toNat ≤ 281474976710656) = true := decide_eq_true c84
       clear c84
       obtain ⟨y336, hy336⟩ : ∃ y_ : List Bool, y_ = (List.replicate ((t299.length : Int) : Int).toNat false) := ⟨_, rfl⟩
       replace H : (laws_FnFits.l1 kj75 t298 t299 t300 t301 t329 t330 y336 0) = some r := by first | (rw [hy336]; with_reducible exact H) | (have H2_ := (Option.bind_some _ _).symm.trans H; rw [hy336]; with_reducible exact H2_) | (have H2_ := (Option.bind_some _ _).symm.trans H; with_reducible exact H2_) | with_reducible exact H | (rw [hy336]; exact H) | exact H
       have Ny336 := Kp.a hy336
       clear hy336
       have H' := Kp.a H
       clear H
       go_wp2_with (first | ((with_reducible refine gate_dst (N := 172) rfl ?_); (try (refine gate_guard (by rfl) ?_; dsimp only)); refine Kd.R_make Kd.bool _ 4 rfl (N := 172) rfl 35 _ _ rfl (t299.length : Int) rfl rfl Try.underlying35 (.bool false) 1 info4 rfl (by decide) (by omega) false (ok := fun _ => True) (okp := fun _ => True) rfl (fun _ hk => hk) trivial (Kp.d) (Nat.le_trans (Nat.mul_le_mul_right _ (Kp.d : (t299.length : Int).toNat ≤ 281474976710656)) (by omega)) (Below.refl _ _) (Nat.le_refl _) ?_; intro v337 w85 ho86 hb hg_ hnew_; clear hg_ hnew_; (first | rw [← Ny336.out] at ho86 | (simp only [Int.reduceToNat] at ho86; rw [← Ny336.out] at ho86)); have n0_ := Kp.a (Kd.R_below (Kp.kpR HO_3.out) hb); have n1_ := Kp.a (Kd.R_below (Kp.kpR HO_4.out) hb); have n2_ := Kp.a (Kd.R_below (Kp.kpR HO_16.out) hb); have n3_ := Kp.a (Kd.R_below (Kp.kpR HO_17.out) hb); have n4_ := Kp.a (Kd.R_lower ho86 (below_size (Kp.kpL HB.out))); have n5_ := Kp.a (below_step (Kp.kpL HB.out) hb); clear HO_3; clear HO_4; clear HO_16; clear HO_17; clear HB; have HO_3 := n0_; have HO_4 := n1_; have HO_16 := n2_; have HO_17 := n3_; have HO338 := n4_; have HB := n5_; clear n0_ n1_ n2_ n3_ n4_ n5_; clear hb ho86))
       repeat (go_quiet (first | ((with_reducible refine gate_dst (N := 172) rfl ?_); (try (refine gate_guard (by rfl) ?_; dsimp only)); refine Kd.R_make Kd.bool _ 4 rfl (N := 172) rfl 35 _ _ rfl (t299.length : Int) rfl rfl Try.underlying35 (.bool false) 1 info4 rfl (by decide) (by omega) false (ok := fun _ => True) (okp := fun _ => True) rfl (fun _ hk => hk) trivial (Kp.d) (Nat.le_trans (Nat.mul_le_mul_right _ (Kp.d : (t299.length : Int).toNat ≤ 281474976710656)) (by omega)) (Below.refl _ _) (Nat.le_refl _) ?_; intro v337 w85 ho86 hb hg_ hnew_; clear hg_ hnew_; (first | rw [← Ny336.out] at ho86 | (simp only [Int.reduceToNat] at ho86; rw [← Ny336.out] at ho86)); have n0_ := Kp.a (Kd.R_below (Kp.kpR HO_3.out) hb); have n1_ := Kp.a (Kd.R_below (Kp.kpR HO_4.out) hb); have n2_ := Kp.a (Kd.R_below (Kp.kpR HO_16.out) hb); have n3_ := Kp.a (Kd.R_below (Kp.kpR HO_17.out) hb); have n4_ := Kp.a (Kd.R_lower ho86 (below_size (Kp.kpL HB.out))); have n5_ := Kp.a (below_step (Kp.kpL HB.out) hb); clear HO_3; clear HO_4; clear HO_16; clear HO_17; clear HB; have HO_3 := n0_; have HO_4 := n1_; have HO_16 := n2_; have HO_17 := n3_; have HO338 := n4_; have HB := n5_; clear n0_ n1_ n2_ n3_ n4_ n5_; clear hb ho86)); try go_wp2_with (first | ((with_reducible refine gate_dst (N := 172) rfl ?_); (try (refine gate_guard (by rfl) ?_; dsimp only)); refine Kd.R_make Kd.bool _ 4 rfl (N := 172) rfl 35 _ _ rfl (t299.length : Int) rfl rfl Try.underlying35 (.bool false) 1 info4 rfl (by decide) (by omega) false (ok := fun _ => True) (okp := fun _ => True) rfl (fun _ hk => hk) trivial (Kp.d) (Nat.le_trans (Nat.mul_le_mul_right _ (Kp.d : (t299.length : Int).toNat ≤ 281474976710656)) (by omega)) (Below.refl _ _) (Nat.le_refl _) ?_; intro v337 w85 ho86 hb hg_ hnew_; clear hg_ hnew_; (first | rw [← Ny336.out] at ho86 | (simp only [Int.reduceToNat] at ho86; rw [← Ny336.out] at ho86)); have n0_ := Kp.a (Kd.R_below (Kp.kpR HO_3.out) hb); have n1_ := Kp.a (Kd.R_below (Kp.kpR HO_4.out) hb); have n2_ := Kp.a (Kd.R_below (Kp.kpR HO_16.out) hb); have n3_ := Kp.a (Kd.R_below (Kp.kpR HO_17.out) hb); have n4_ := Kp.a (Kd.R_lower ho86 (below_size (Kp.kpL HB.out))); have n5_ := Kp.a (below_step (Kp.kpL HB.out) hb); clear HO_3; clear HO_4; clear HO_16; clear HO_17; clear HB; have HO_3 := n0_; have HO_4 := n1_; have HO_16 := n2_; have HO_17 := n3_; have HO338 := n4_; have HB := n5_; clear n0_ n1_ n2_ n3_ n4_ n5_; clear hb ho86)))
       go_loopg [20] kj75 (fun kq v20 w' => ∃ (x19_4 : List Bool) (x20_4 : Int), v20 = .int .i64 x20_4 ∧ Aside0 (laws_FnFits.l1 kq t298 t299 t300 t301 t329 t330 x19_4 x20_4 = some r) ∧ Aside0 (kq ≤ kj75) ∧ Aside0 (Kd.R (Kd.int .i64) 3 w' w.heap.size (fun k_ => some k_ ≠ ((.slice Ao9 t299.length co9) : Value).ownBlock ∧ some k_ ≠ (v332 : Value).ownBlock ∧ some k_ ≠ (v334 : Value).ownBlock) (.slice Ao8 t298.length co8) t298) ∧ Aside0 (Kd.R (Kd.int .i64) 3 w' w.heap.size (fun k_ => some k_ ≠ ((.slice Ao8 t298.length co8) : Value).ownBlock ∧ some k_ ≠ (v332 : Value).ownBlock ∧ some k_ ≠ (v334 : Value).ownBlock) (.slice Ao9 t299.length co9) t299) ∧ Aside0 (Kd.R (Kd.int .i64) 3 w' w.heap.size (fun k_ => some k_ ≠ ((.slice Ao8 t298.length co8) : Value).ownBlock ∧ some k_ ≠ ((.slice Ao9 t299.length co9) : Value).ownBlock ∧ some k_ ≠ (v334 : Value).ownBlock) v332 t329) ∧ Aside0 (Kd.R (Kd.int .i64) 3 w' w.heap.size (fun k_ => some k_ ≠ ((.slice Ao8 t298.length co8) : Value).ownBlock ∧ some k_ ≠ ((.slice Ao9 t299.length co9) : Value).ownBlock ∧ some k_ ≠ (v332 : Value).ownBlock) v334 t330) ∧ Aside0 (Kd.R Kd.bool 4 w' w.heap.size (fun _ => True) v337 x19_4) ∧ Aside0 (Below w.heap.size w w'))
       case atStart => exact ⟨(y336), (0), (by first | rfl | (simp; done) | (simp [*]; done)), H', ⟨Nat.le_refl _⟩, ⟨Kp.kpR HO_3.out⟩, ⟨Kp.kpR HO_4.out⟩, ⟨Kp.kpR HO_16.out⟩, ⟨Kp.kpR HO_17.out⟩, ⟨Kp.kpR HO338.out⟩, ⟨Kp.kpL HB.out⟩⟩
       case round => as_aux_lemma =>
        clear H'
        try clear c1
        try clear c2
        try clear c2b0
        try clear c2b1
        try clear p2
        try clear c3
        try clear p3
        try clear q3
        try clear hx3
        try clear c4
        try clear q4
        try clear c5
        try clear c6
        try clear p6
        try clear q6
        try clear hx6
        try clear hf6
        try clear c7
        try clear c8
        try clear c12
        try clear c12b0
        try clear c12b1
        try clear c15
        try clear c16
        try clear c16b0
        try clear c16b1
        try clear c17
        try clear c17b0
        try clear c17b1
        try clear c18
        try clear c18b0
        try clear c18b1
        try clear c19
        try clear c19b0
        try clear c19b1
        try clear c24
        try clear c24b0
        try clear c25
        try clear c25b0
        try clear c30
        try clear c30b0
        try clear c32
        try clear c32b0
        try clear p32
        try clear q32
        try clear hx32
        try clear c34
        try clear c34b0
        try clear c36
        try clear c36b0
        try clear c38
        try clear c38b0
        try clear c39
        try clear c39b0
        try clear q40
        try clear c41
        try clear c44
        try clear c44b0
        try clear c45
        try clear c45b0
        try clear q46
        try clear c47
        try clear c51
        try clear c51b0
        try clear c56
        try clear c57
        try clear c57b0
        try clear c58
        try clear c58b0
        try clear c59
        try clear c59b0
        try clear c60
        try clear c60b0
        try clear c61
        try clear c61b0
        try clear c63
        try clear c63b0
        try clear p64
        try clear c65
        try clear c65b0
        try clear p66
        try clear q66
        try clear hx66
        try clear hf66
        try clear c67
        try clear c67b0
        try clear p68
        try clear q68
        try clear hx68
        try clear hf68
        try clear c79
        try clear c79b0
        try clear c79b1
        try clear c82
        try clear c83
        try clear c83b0
        try clear c83b1
        try clear c84
        try clear c84b0
        try clear c84b1
        try clear hcz29_0
        try clear hcz29_1
        try clear hcz31_0
        try clear hcz31_1
        try clear hcz33_0
        try clear hcz33_1
        try clear hcz35_0
        try clear hcz35_1
        try clear hcz37_0
        try clear hcz37_1
        try clear hcz42_0
        try clear hcz42_1
        try clear hcz48_0
        try clear hcz48_1
        try clear hcz52_0
        try clear hcz52_1
        try clear hcz62_0
        try clear hcz62_1
        try clear hcz64_0
        try clear hcz64_1
        try clear hcz69_0
        try clear hcz69_1
        try clear hcz72_0
        try clear hcz72_1
        try clear hfz29_0
        try clear hfz29_1
        try clear hfz31_0
        try clear hfz31_1
        try clear hfz33_0
        try clear hfz33_1
        try clear hfz35_0
        try clear hfz35_1
        try clear hfz37_0
        try clear hfz37_1
        try clear hfz42_0
        try clear hfz42_1
        try clear hfz48_0
        try clear hfz48_1
        try clear hfz52_0
        try clear hfz52_1
        try clear hfz62_0
        try clear hfz62_1
        try clear hfz64_0
        try clear hfz64_1
        try clear hfz69_0
        try clear hfz69_1
        try clear hfz72_0
        try clear hfz72_1
        try clear hx320_0
        try clear hx320_1
        try clear hx322_0
        try clear hx323_0
        try clear hx324_0
        try clear hx324_1
        try clear hx325_0
        try clear hx326_0
        try clear hx66_0
        try clear hx68_0
        try clear p2
        try clear p3
        try clear p32
        try clear p320
        try clear p322
        try clear p323
        try clear p324
        try clear p325
        try clear p326
        try clear p6
        try clear p64
        try clear p66
        try clear p68
        try clear q3
        try clear q32
        try clear q320
        try clear q322
        try clear q323
        try clear q324
        try clear q325
        try clear q326
        try clear q4
        try clear q40
        try clear q46
        try clear q6
        try clear q66
        try clear q68
        obtain ⟨x19_4, x20_4, rfl, HA, HK4, HO_3, HO_4, HO_16, HO_17, HO_19, HB⟩ := hrel
        cases gk with
        | zero => exact absurd HA.out (by simp [laws_FnFits.l1])
        | succ k4 =>
         have H := HA.out
         clear HA
         simp only [laws_FnFits.l1] at H
         by_cases c87 : x20_4 < (t330.length : Int)
         ·rw [if_pos c87] at H
          have c87b0 : decide (x20_4 < (t330.length : Int)) = true := decide_eq_true c87
          clear c87
          by_cases c88 : 0 ≤ x20_4
          rotate_left
          ·rw [if_neg c88] at H
           exact absurd H (by simp)
          rw [if_pos c88] at H
          have c88b0 : decide (0 ≤ x20_4) = true := decide_eq_true c88
          clear c88
          by_cases c89 : (rd t330 x20_4) < 0
          ·rw [if_pos c89] at H
           have c89b0 : decide ((rd t330 x20_4) < 0) = true := decide_eq_true c89
           clear c89
           obtain rfl := Option.some.inj H
           obtain ⟨Ao90, co90, eo90⟩ := Kd.R_slice HO_17.out
           subst eo90
           have p339 : 0 ≤ (x20_4 : Int) := Kp.d
           have q339 : x20_4 < (t330.length : Int) := Kp.d
           obtain ⟨ad339, e339, hx339_0⟩ := Kd.at_int (Kd.R_reads' HO_17.out).2.2 x20_4 p339 q339
           cases e339
           replace p339 := eq_true p339
           replace q339 := eq_true q339
           go_wp2
           repeat (go_quiet (fail); try go_wp2)
           go_ret
           exact ⟨by first | rfl | (simp [errW_none, errW_some] <;> rfl) | (simp [*, errW_none, errW_some] <;> rfl), Kp.kpL HB.out⟩
          rw [if_neg c89] at H
          have c89b0 : decide ((rd t330 x20_4) < 0) = false := decide_eq_false c89
          clear c89
          by_cases c91 : (rd t330 x20_4) ≥ (t299.length : Int)
          ·rw [if_pos c91] at H
           have c91b0 : decide ((t299.length : Int) ≤ (rd t330 x20_4)) = true := decide_eq_true c91
           clear c91
           obtain rfl := Option.some.inj H
           obtain ⟨Ao92, co92, eo92⟩ := Kd.R_slice HO_17.out
           subst eo92
           have p339 : 0 ≤ (x20_4 : Int) := Kp.d
           have q339 : x20_4 < (t330.length : Int) := Kp.d
           obtain ⟨ad339, e339, hx339_0⟩ := Kd.at_int (Kd.R_reads' HO_17.out).2.2 x20_4 p339 q339
           cases e339
           replace p339 := eq_true p339
           replace q339 := eq_true q339
           have p340 : 0 ≤ (x20_4 : Int) := Kp.d
           have q340 : x20_4 < (t330.length : Int) := Kp.d
           obtain ⟨ad340, e340, hx340_0⟩ := Kd.at_int (Kd.R_reads' HO_17.out).2.2 x20_4 p340 q340
           obtain rfl : ad339 = ad340 := (by injection e340)
           replace p340 := eq_true p340
           replace q340 := eq_true q340
           go_wp2
           repeat (go_quiet (fail); try go_wp2)
           go_ret
           exact ⟨by first | rfl | (simp [errW_none, errW_some] <;> rfl) | (simp [*, errW_none, errW_some] <;> rfl), Kp.kpL HB.out⟩
          rw [if_neg c91] at H
          have c91b0 : decide ((t299.length : Int) ≤ (rd t330 x20_4)) = false := decide_eq_false c91
          clear c91
          by_cases c93 : x20_4 > 0
          rotate_left
          ·rw [if_neg c93] at H
           have c93b0 : decide (0 < x20_4) = false := decide_eq_false c93
           clear c93
           by_cases c105 : 0 ≤ (rd t330 x20_4)
           rotate_left
           ·rw [if_neg c105] at H
            exact absurd H (by simp)
           rw [if_pos c105] at H
           have c105b0 : decide (0 ≤ (rd t330 x20_4)) = true := decide_eq_true c105
           clear c105
           by_cases c106 : (rd t330 x20_4) < (x19_4.length : Int)
           rotate_left
           ·rw [if_neg c106] at H
            exact absurd H (by simp)
           rw [if_pos c106] at H
           have c106b0 : decide ((rd t330 x20_4) < (x19_4.length : Int)) = true := decide_eq_true c106
           clear c106
           obtain ⟨y346, hy346⟩ : ∃ y_ : List Bool, y_ = (x19_4.set ((rd t330 x20_4) : Int).toNat true) := ⟨_, rfl⟩
           replace H : (laws_FnFits.l1 k4 t298 t299 t300 t301 t329 t330 y346 (wrap64 (x20_4 + 1))) = some r := by first | (rw [hy346]; with_reducible exact H) | (have H2_ := (Option.bind_some _ _).symm.trans H; rw [hy346]; with_reducible exact H2_) | (have H2_ := (Option.bind_some _ _).symm.trans H; with_reducible exact H2_) | with_reducible exact H | (rw [hy346]; exact H) | exact H
           have Ny346 := Kp.a hy346
           clear hy346
           have H' := Kp.a H
           clear H
           obtain ⟨Ao108, co108, eo108⟩ := Kd.R_slice HO_17.out
           subst eo108
           have p339 : 0 ≤ (x20_4 : Int) := Kp.d
           have q339 : x20_4 < (t330.length : Int) := Kp.d
           obtain ⟨ad339, e339, hx339_0⟩ := Kd.at_int (Kd.R_reads' HO_17.out).2.2 x20_4 p339 q339
           cases e339
           replace p339 := eq_true p339
           replace q339 := eq_true q339
           have p340 : 0 ≤ (x20_4 : Int) := Kp.d
           have q340 : x20_4 < (t330.length : Int) := Kp.d
           obtain ⟨ad340, e340, hx340_0⟩ := Kd.at_int (Kd.R_reads' HO_17.out).2.2 x20_4 p340 q340
           obtain rfl : ad339 = ad340 := (by injection e340)
           replace p340 := eq_true p340
           replace q340 := eq_true q340
           have p345 : 0 ≤ (x20_4 : Int) := Kp.d
           have q345 : x20_4 < (t330.length : Int) := Kp.d
           obtain ⟨ad345, e345, hx345_0⟩ := Kd.at_int (Kd.R_reads' HO_17.out).2.2 x20_4 p345 q345
           obtain rfl : ad339 = ad345 := (by injection e345)
           replace p345 := eq_true p345
           replace q345 := eq_true q345
           have p107 : 0 ≤ ((rd t330 x20_4) : Int) := Kp.d
           have q107 : ((rd t330 x20_4) : Int) < ((x19_4.length : Int) : Int) := Kp.d
           obtain ⟨go107, co107, eo107, gb107, gl107, cl107, HG107⟩ := Kd.R_form HO_19.out (by omega)
           (first | cases eo107 | (injection eo107 with ea_ en_ ec_; (first | subst ea_ | (injection ea_ with ea_; subst ea_)); subst ec_; clear en_))
           have GB107 := Kp.a gb107
           have GG107 := Kp.a HG107
           clear gb107 gl107 HG107
           obtain ⟨hx107_0, hf107_0⟩ := Kd.R_celln false HO_19.out ((rd t330 x20_4) : Int) p107 q107
           replace p107 := eq_true p107
           replace q107 := eq_true q107
           have HP109 := Kd.R_putg HO_19.out ((rd t330 x20_4) : Int) true
           go_wp2_with (first | ((with_reducible refine gate_store (t := 4) (p := 214) rfl ?_); (try (rw [drewN_self wr]; generalize hq_ : World.drewN wr _ = wr; have n0_ := Kp.a (Kd.R_at hq_ HO_3.out); have n1_ := Kp.a (Kd.R_at hq_ HO_4.out); have n2_ := Kp.a (Kd.R_at hq_ HO_16.out); have n3_ := Kp.a (Kd.R_at hq_ HO_17.out); have n4_ := Kp.a (Kd.R_at hq_ HO_19.out); have n5_ := Kp.a (below_at hq_ HB.out); clear hq_ HO_3 HO_4 HO_16 HO_17 HO_19 HB; have HO_3 := n0_; have HO_4 := n1_; have HO_16 := n2_; have HO_17 := n3_; have HO_19 := n4_; have HB := n5_; clear n0_ n1_ n2_ n3_ n4_ n5_; (try (have HP109 := Kd.R_putg HO_19.out ((rd t330 x20_4) : Int) true)); (try (obtain ⟨hx107_0, hf107_0⟩ := Kd.R_celln false HO_19.out ((rd t330 x20_4) : Int) (of_eq_true p107) (of_eq_true q107))))); refine store_event (t := 4) (p := 214) (v := ?vo_w110) (w1 := (wr.setCell ⟨go107, ((rd t330 x20_4) : Int).toNat, none⟩ (.bool true))) ?hg ?ho ?hn ?hr ?_; (case ho => rfl); (case hg => rfl); (case hn => rfl); (case hr => first | (go_simp; done) | (go_simp; rfl)); intro w110 hw; have hg : wr.grownBy w110 (some go107) := (by rw [hw]; exact HP109.2); have hp_ : Kd.R Kd.bool 4 w110 w.heap.size (fun _ => True) (.slice (some ⟨go107, 0, none⟩) x19_4.length co107) y346 := (by rw [hw, Ny346.out]; exact HP109.1); clear HP109; have n0_ := Kp.a (Kd.R_over' (v := (.slice (some ⟨go107, 0, none⟩) x19_4.length co107)) (Kp.kpR HO_3.out) (Kd.R_typed HO_19.out) (by decide) hg); have n1_ := Kp.a (Kd.R_over' (v := (.slice (some ⟨go107, 0, none⟩) x19_4.length co107)) (Kp.kpR HO_4.out) (Kd.R_typed HO_19.out) (by decide) hg); have n2_ := Kp.a (Kd.R_over' (v := (.slice (some ⟨go107, 0, none⟩) x19_4.length co107)) (Kp.kpR HO_16.out) (Kd.R_typed HO_19.out) (by decide) hg); have n3_ := Kp.a (Kd.R_over' (v := (.slice (some ⟨go107, 0, none⟩) x19_4.length co107)) (Kp.kpR HO_17.out) (Kd.R_typed HO_19.out) (by decide) hg); have n4_ := Kp.a (hp_); have n5_ := Kp.a ((by rw [hw]; exact below_set (HB.out) GB107.out : Below w.heap.size w w110)); clear HO_3; clear HO_4; clear HO_16; clear HO_17; clear HO_19; clear HB; have HO_3 := n0_; have HO_4 := n1_; have HO_16 := n2_; have HO_17 := n3_; have HO_19 := n4_; have HB := n5_; clear n0_ n1_ n2_ n3_ n4_ n5_; clear hg hw hp_))
           repeat (go_quiet (first | ((with_reducible refine gate_store (t := 4) (p := 214) rfl ?_); (try (rw [drewN_self wr]; generalize hq_ : World.drewN wr _ = wr; have n0_ := Kp.a (Kd.R_at hq_ HO_3.out); have n1_ := Kp.a (Kd.R_at hq_ HO_4.out); have n2_ := Kp.a (Kd.R_at hq_ HO_16.out); have n3_ := Kp.a (Kd.R_at hq_ HO_17.out); have n4_ := Kp.a (Kd.R_at hq_ HO_19.out); have n5_ := Kp.a (below_at hq_ HB.out); clear hq_ HO_3 HO_4 HO_16 HO_17 HO_19 HB; have HO_3 := n0_; have HO_4 := n1_; have HO_16 := n2_; have HO_17 := n3_; have HO_19 := n4_; have HB := n5_; clear n0_ n1_ n2_ n3_ n4_ n5_; (try (have HP109 := Kd.R_putg HO_19.out ((rd t330 x20_4) : Int) true)); (try (obtain ⟨hx107_0, hf107_0⟩ := Kd.R_celln false HO_19.out ((rd t330 x20_4) : Int) (of_eq_true p107) (of_eq_true q107))))); refine store_event (t := 4) (p := 214) (v := ?vo_w110) (w1 := (wr.setCell ⟨go107, ((rd t330 x20_4) : Int).toNat, none⟩ (.bool true))) ?hg ?ho ?hn ?hr ?_; (case ho => rfl); (case hg => rfl); (case hn => rfl); (case hr => first | (go_simp; done) | (go_simp; rfl)); intro w110 hw; have hg : wr.grownBy w110 (some go107) := (by rw [hw]; exact HP109.2); have hp_ : Kd.R Kd.bool 4 w110 w.heap.size (fun _ => True) (.slice (some ⟨go107, 0, none⟩) x19_4.length co107) y346 := (by rw [hw, Ny346.out]; exact HP109.1); clear HP109; have n0_ := Kp.a (Kd.R_over' (v := (.slice (some ⟨go107, 0, none⟩) x19_4.length co107)) (Kp.kpR HO_3.out) (Kd.R_typed HO_19.out) (by decide) hg); have n1_ := Kp.a (Kd.R_over' (v := (.slice (some ⟨go107, 0, none⟩) x19_4.length co107)) (Kp.kpR HO_4.out) (Kd.R_typed HO_19.out) (by decide) hg); have n2_ := Kp.a (Kd.R_over' (v := (.slice (some ⟨go107, 0, none⟩) x19_4.length co107)) (Kp.kpR HO_16.out) (Kd.R_typed HO_19.out) (by decide) hg); have n3_ := Kp.a (Kd.R_over' (v := (.slice (some ⟨go107, 0, none⟩) x19_4.length co107)) (Kp.kpR HO_17.out) (Kd.R_typed HO_19.out) (by decide) hg); have n4_ := Kp.a (hp_); have n5_ := Kp.a ((by rw [hw]; exact below_set (HB.out) GB107.out : Below w.heap.size w w110)); clear HO_3; clear HO_4; clear HO_16; clear HO_17; clear HO_19; clear HB; have HO_3 := n0_; have HO_4 := n1_; have HO_16 := n2_; have HO_17 := n3_; have HO_19 := n4_; have HB := n5_; clear n0_ n1_ n2_ n3_ n4_ n5_; clear hg hw hp_)); try go_wp2_with (first | ((with_reducible refine gate_store (t := 4) (p := 214) rfl ?_); (try (rw [drewN_self wr]; generalize hq_ : World.drewN wr _ = wr; have n0_ := Kp.a (Kd.R_at hq_ HO_3.out); have n1_ := Kp.a (Kd.R_at hq_ HO_4.out); have n2_ := Kp.a (Kd.R_at hq_ HO_16.out); have n3_ := Kp.a (Kd.R_at hq_ HO_17.out); have n4_ := Kp.a (Kd.R_at hq_ HO_19.out); have n5_ := Kp.a (below_at hq_ HB.out); clear hq_ HO_3 HO_4 HO_16 HO_17 HO_19 HB; have HO_3 := n0_; have HO_4 := n1_; have HO_16 := n2_; have HO_17 := n3_; have HO_19 := n4_; have HB := n5_; clear n0_ n1_ n2_ n3_ n4_ n5_; (try (have HP109 := Kd.R_putg HO_19.out ((rd t330 x20_4) : Int) true)); (try (obtain ⟨hx107_0, hf107_0⟩ := Kd.R_celln false HO_19.out ((rd t330 x20_4) : Int) (of_eq_true p107) (of_eq_true q107))))); refine store_event (t := 4) (p := 214) (v := ?vo_w110) (w1 := (wr.setCell ⟨go107, ((rd t330 x20_4) : Int).toNat, none⟩ (.bool true))) ?hg ?ho ?hn ?hr ?_; (case ho => rfl); (case hg => rfl); (case hn => rfl); (case hr => first | (go_simp; done) | (go_simp; rfl)); intro w110 hw; have hg : wr.grownBy w110 (some go107) := (by rw [hw]; exact HP109.2); have hp_ : Kd.R Kd.bool 4 w110 w.heap.size (fun _ => True) (.slice (some ⟨go107, 0, none⟩) x19_4.length co107) y346 := (by rw [hw, Ny346.out]; exact HP109.1); clear HP109; have n0_ := Kp.a (Kd.R_over' (v := (.slice (some ⟨go107, 0, none⟩) x19_4.length co107)) (Kp.kpR HO_3.out) (Kd.R_typed HO_19.out) (by decide) hg); have n1_ := Kp.a (Kd.R_over' (v := (.slice (some ⟨go107, 0, none⟩) x19_4.length co107)) (Kp.kpR HO_4.out) (Kd.R_typed HO_19.out) (by decide) hg); have n2_ := Kp.a (Kd.R_over' (v := (.slice (some ⟨go107, 0, none⟩) x19_4.length co107)) (Kp.kpR HO_16.out) (Kd.R_typed HO_19.out) (by decide) hg); have n3_ := Kp.a (Kd.R_over' (v := (.slice (some ⟨go107, 0, none⟩) x19_4.length co107)) (Kp.kpR HO_17.out) (Kd.R_typed HO_19.out) (by decide) hg); have n4_ := Kp.a (hp_); have n5_ := Kp.a ((by rw [hw]; exact below_set (HB.out) GB107.out : Below w.heap.size w w110)); clear HO_3; clear HO_4; clear HO_16; clear HO_17; clear HO_19; clear HB; have HO_3 := n0_; have HO_4 := n1_; have HO_16 := n2_; have HO_17 := n3_; have HO_19 := n4_; have HB := n5_; clear n0_ n1_ n2_ n3_ n4_ n5_; clear hg hw hp_)))
           go_roundg k4
           case measure => have := HJ5.out; have := HK2.out; have := HJ75.out; have := HK4.out; omega
           case rel => exact ⟨(y346), (wrap64 (x20_4 + 1)), (by first | rfl | (simp; done) | (simp [*]; done)), H', ⟨by have := HJ5.out; have := HK2.out; have := HJ75.out; have := HK4.out; omega⟩, ⟨Kp.kpR HO_3.out⟩, ⟨Kp.kpR HO_4.out⟩, ⟨Kp.kpR HO_16.out⟩, ⟨Kp.kpR HO_17.out⟩, ⟨Kp.kpR HO_19.out⟩, ⟨Kp.kpL HB.out⟩⟩
          rw [if_pos c93] at H
          have c93b0 : decide (0 < x20_4) = true := decide_eq_true c93
          clear c93
          obtain ⟨ji94, hji94⟩ : ∃ j_ : Int, (wrap64 (x20_4 - 1)) = j_ := ⟨_, rfl⟩
          replace H : (if 0 ≤ (ji94) then (if (ji94) < (t330.length : Int) then (if (rd t330 x20_4) ≤ (rd t330 (ji94)) then (some false) else (if 0 ≤ (rd t330 x20_4) then (if (rd t330 x20_4) < (x19_4.length : Int) then (laws_FnFits.l1 k4 t298 t299 t300 t301 t329 t330 (x19_4.set ((rd t330 x20_4) : Int).toNat true) (wrap64 (x20_4 + 1))) else (none)) else (none))) else (none)) else (none)) = some r := by first | (rw [hji94] at H; exact H) | (simp only [hji94] at H ⊢; exact H)
          have hji94w : (IntKind.i64.wrap (x20_4 - 1)) = ji94 := (i64_w _).trans hji94
          by_cases c95 : 0 ≤ (ji94)
          rotate_left
          ·rw [if_neg c95] at H
           exact absurd H (by simp)
          rw [if_pos c95] at H
          have c95b0 : decide (0 ≤ (ji94)) = true := decide_eq_true c95
          clear c95
          by_cases c96 : (ji94) < (t330.length : Int)
          rotate_left
          ·rw [if_neg c96] at H
           exact absurd H (by simp)
          rw [if_pos c96] at H
          have c96b0 : decide ((ji94) < (t330.length : Int)) = true := decide_eq_true c96
          clear c96
          by_cases c97 : (rd t330 x20_4) ≤ (rd t330 (ji94))
          ·rw [if_pos c97] at H
           have c97b0 : decide ((rd t330 x20_4) ≤ (rd t330 (ji94))) = true := decide_eq_true c97
           clear c97
           obtain rfl := Option.some.inj H
           obtain ⟨Ao98, co98, eo98⟩ := Kd.R_slice HO_17.out
           subst eo98
           have p339 : 0 ≤ (x20_4 : Int) := Kp.d
           have q339 : x20_4 < (t330.length : Int) := Kp.d
           obtain ⟨ad339, e339, hx339_0⟩ := Kd.at_int (Kd.R_reads' HO_17.out).2.2 x20_4 p339 q339
           cases e339
           replace p339 := eq_true p339
           replace q339 := eq_true q339
           have p340 : 0 ≤ (x20_4 : Int) := Kp.d
           have q340 : x20_4 < (t330.length : Int) := Kp.d
           obtain ⟨ad340, e340, hx340_0⟩ := Kd.at_int (Kd.R_reads' HO_17.out).2.2 x20_4 p340 q340
           obtain rfl : ad339 = ad340 := (by injection e340)
           replace p340 := eq_true p340
           replace q340 := eq_true q340
           have p341 : 0 ≤ (x20_4 : Int) := Kp.d
           have q341 : x20_4 < (t330.length : Int) := Kp.d
           obtain ⟨ad341, e341, hx341_0⟩ := Kd.at_int (Kd.R_reads' HO_17.out).2.2 x20_4 p341 q341
           obtain rfl : ad339 = ad341 := (by injection e341)
           replace p341 := eq_true p341
           replace q341 := eq_true q341
           have p342 : 0 ≤ ((ji94) : Int) := Kp.d
           have q342 : (ji94) < (t330.length : Int) := Kp.d
           obtain ⟨ad342, e342, hx342_0⟩ := Kd.at_int (Kd.R_reads' HO_17.out).2.2 (ji94) p342 q342
           obtain rfl : ad339 = ad342 := (by injection e342)
           replace p342 := eq_true p342
           replace q342 := eq_true q342
           go_wp2
           repeat (go_quiet (fail); try go_wp2)
           go_ret
           exact ⟨by first | rfl | (simp [errW_none, errW_some] <;> rfl) | (simp only [← hji94]; first | rfl | (simp [errW_none, errW_some] <;> rfl)) | (simp [*, errW_none, errW_some] <;> rfl), Kp.kpL HB.out⟩
          rw [if_neg c97] at H
          have c97b0 : decide ((rd t330 x20_4) ≤ (rd t330 (ji94))) = false := decide_eq_false c97
          clear c97
          by_cases c99 : 0 ≤ (rd t330 x20_4)
          rotate_left
          ·rw [if_neg c99] at H
           exact absurd H (by simp)
          rw [if_pos c99] at H
          have c99b0 : decide (0 ≤ (rd t330 x20_4)) = true := decide_eq_true c99
          clear c99
          by_cases c100 : (rd t330 x20_4) < (x19_4.length : Int)
          rotate_left
          ·rw [if_neg c100] at H
           exact absurd H (by simp)
          rw [if_pos c100] at H
          have c100b0 : decide ((rd t330 x20_4) < (x19_4.length : Int)) = true := decide_eq_true c100
          clear c100
          obtain ⟨y344, hy344⟩ : ∃ y_ : List Bool, y_ = (x19_4.set ((rd t330 x20_4) : Int).toNat true) := ⟨_, rfl⟩
          replace H : (laws_FnFits.l1 k4 t298 t299 t300 t301 t329 t330 y344 (wrap64 (x20_4 + 1))) = some r := by first | (rw [hy344]; with_reducible exact H) | (have H2_ := (Option.bind_some _ _).symm.trans H; rw [hy344]; with_reducible exact H2_) | (have H2_ := (Option.bind_some _ _).symm.trans H; with_reducible exact H2_) | with_reducible exact H | (rw [hy344]; exact H) | exact H
          have Ny344 := Kp.a hy344
          clear hy344
          have H' := Kp.a H
          clear H
          obtain ⟨Ao102, co102, eo102⟩ := Kd.R_slice HO_17.out
          subst eo102
          have p339 : 0 ≤ (x20_4 : Int) := Kp.d
          have q339 : x20_4 < (t330.length : Int) := Kp.d
          obtain ⟨ad339, e339, hx339_0⟩ := Kd.at_int (Kd.R_reads' HO_17.out).2.2 x20_4 p339 q339
          cases e339
          replace p339 := eq_true p339
          replace q339 := eq_true q339
          have p340 : 0 ≤ (x20_4 : Int) := Kp.d
          have q340 : x20_4 < (t330.length : Int) := Kp.d
          obtain ⟨ad340, e340, hx340_0⟩ := Kd.at_int (Kd.R_reads' HO_17.out).2.2 x20_4 p340 q340
          obtain rfl : ad339 = ad340 := (by injection e340)
          replace p340 := eq_true p340
          replace q340 := eq_true q340
          have p341 : 0 ≤ (x20_4 : Int) := Kp.d
          have q341 : x20_4 < (t330.length : Int) := Kp.d
          obtain ⟨ad341, e341, hx341_0⟩ := Kd.at_int (Kd.R_reads' HO_17.out).2.2 x20_4 p341 q341
          obtain rfl : ad339 = ad341 := (by injection e341)
          replace p341 := eq_true p341
          replace q341 := eq_true q341
          have p342 : 0 ≤ ((ji94) : Int) := Kp.d
          have q342 : (ji94) < (t330.length : Int) := Kp.d
          obtain ⟨ad342, e342, hx342_0⟩ := Kd.at_int (Kd.R_reads' HO_17.out).2.2 (ji94) p342 q342
          obtain rfl : ad339 = ad342 := (by injection e342)
          replace p342 := eq_true p342
          replace q342 := eq_true q342
          have p343 : 0 ≤ (x20_4 : Int) := Kp.d
          have q343 : x20_4 < (t330.length : Int) := Kp.d
          obtain ⟨ad343, e343, hx343_0⟩ := Kd.at_int (Kd.R_reads' HO_17.out).2.2 x20_4 p343 q343
          obtain rfl : ad339 = ad343 := (by injection e343)
          replace p343 := eq_true p343
          replace q343 := eq_true q343
          have p101 : 0 ≤ ((rd t330 x20_4) : Int) := Kp.d
          have q101 : ((rd t330 x20_4) : Int) < ((x19_4.length : Int) : Int) := Kp.d
          obtain ⟨go101, co101, eo101, gb101, gl101, cl101, HG101⟩ := Kd.R_form HO_19.out (by omega)
          (first | cases eo101 | (injection eo101 with ea_ en_ ec_; (first | subst ea_ | (injection ea_ with ea_; subst ea_)); subst ec_; clear en_))
          have GB101 := Kp.a gb101
          have GG101 := Kp.a HG101
          clear gb101 gl101 HG101
          obtain ⟨hx101_0, hf101_0⟩ := Kd.R_celln false HO_19.out ((rd t330 x20_4) : Int) p101 q101
          replace p101 := eq_true p101
          replace q101 := eq_true q101
          have HP103 := Kd.R_putg HO_19.out ((rd t330 x20_4) : Int) true
          go_wp2_with (first | ((with_reducible refine gate_store (t := 4) (p := 214) rfl ?_); (try (rw [drewN_self wr]; generalize hq_ : World.drewN wr _ = wr; have n0_ := Kp.a (Kd.R_at hq_ HO_3.out); have n1_ := Kp.a (Kd.R_at hq_ HO_4.out); have n2_ := Kp.a (Kd.R_at hq_ HO_16.out); have n3_ := Kp.a (Kd.R_at hq_ HO_17.out); have n4_ := Kp.a (Kd.R_at hq_ HO_19.out); have n5_ := Kp.a (below_at hq_ HB.out); clear hq_ HO_3 HO_4 HO_16 HO_17 HO_19 HB; have HO_3 := n0_; have HO_4 := n1_; have HO_16 := n2_; have HO_17 := n3_; have HO_19 := n4_; have HB := n5_; clear n0_ n1_ n2_ n3_ n4_ n5_; (try (have HP103 := Kd.R_putg HO_19.out ((rd t330 x20_4) : Int) true)); (try (obtain ⟨hx101_0, hf101_0⟩ := Kd.R_celln false HO_19.out ((rd t330 x20_4) : Int) (of_eq_true p101) (of_eq_true q101))))); refine store_event (t := 4) (p := 214) (v := ?vo_w104) (w1 := (wr.setCell ⟨go101, ((rd t330 x20_4) : Int).toNat, none⟩ (.bool true))) ?hg ?ho ?hn ?hr ?_; (case ho => rfl); (case hg => rfl); (case hn => rfl); (case hr => first | (go_simp; done) | (go_simp; rfl)); intro w104 hw; have hg : wr.grownBy w104 (some go101) := (by rw [hw]; exact HP103.2); have hp_ : Kd.R Kd.bool 4 w104 w.heap.size (fun _ => True) (.slice (some ⟨go101, 0, none⟩) x19_4.length co101) y344 := (by rw [hw, Ny344.out]; exact HP103.1); clear HP103; have n0_ := Kp.a (Kd.R_over' (v := (.slice (some ⟨go101, 0, none⟩) x19_4.length co101)) (Kp.kpR HO_3.out) (Kd.R_typed HO_19.out) (by decide) hg); have n1_ := Kp.a (Kd.R_over' (v := (.slice (some ⟨go101, 0, none⟩) x19_4.length co101)) (Kp.kpR HO_4.out) (Kd.R_typed HO_19.out) (by decide) hg); have n2_ := Kp.a (Kd.R_over' (v := (.slice (some ⟨go101, 0, none⟩) x19_4.length co101)) (Kp.kpR HO_16.out) (Kd.R_typed HO_19.out) (by decide) hg); have n3_ := Kp.a (Kd.R_over' (v := (.slice (some ⟨go101, 0, none⟩) x19_4.length co101)) (Kp.kpR HO_17.out) (Kd.R_typed HO_19.out) (by decide) hg); have n4_ := Kp.a (hp_); have n5_ := Kp.a ((by rw [hw]; exact below_set (HB.out) GB101.out : Below w.heap.size w w104)); clear HO_3; clear HO_4; clear HO_16; clear HO_17; clear HO_19; clear HB; have HO_3 := n0_; have HO_4 := n1_; have HO_16 := n2_; have HO_17 := n3_; have HO_19 := n4_; have HB := n5_; clear n0_ n1_ n2_ n3_ n4_ n5_; clear hg hw hp_))
          repeat (go_quiet (first | ((with_reducible refine gate_store (t := 4) (p := 214) rfl ?_); (try (rw [drewN_self wr]; generalize hq_ : World.drewN wr _ = wr; have n0_ := Kp.a (Kd.R_at hq_ HO_3.out); have n1_ := Kp.a (Kd.R_at hq_ HO_4.out); have n2_ := Kp.a (Kd.R_at hq_ HO_16.out); have n3_ := Kp.a (Kd.R_at hq_ HO_17.out); have n4_ := Kp.a (Kd.R_at hq_ HO_19.out); have n5_ := Kp.a (below_at hq_ HB.out); clear hq_ HO_3 HO_4 HO_16 HO_17 HO_19 HB; have HO_3 := n0_; have HO_4 := n1_; have HO_16 := n2_; have HO_17 := n3_; have HO_19 := n4_; have HB := n5_; clear n0_ n1_ n2_ n3_ n4_ n5_; (try (have HP103 := Kd.R_putg HO_19.out ((rd t330 x20_4) : Int) true)); (try (obtain ⟨hx101_0, hf101_0⟩ := Kd.R_celln false HO_19.out ((rd t330 x20_4) : Int) (of_eq_true p101) (of_eq_true q101))))); refine store_event (t := 4) (p := 214) (v := ?vo_w104) (w1 := (wr.setCell ⟨go101, ((rd t330 x20_4) : Int).toNat, none⟩ (.bool true))) ?hg ?ho ?hn ?hr ?_; (case ho => rfl); (case hg => rfl); (case hn => rfl); (case hr => first | (go_simp; done) | (go_simp; rfl)); intro w104 hw; have hg : wr.grownBy w104 (some go101) := (by rw [hw]; exact HP103.2); have hp_ : Kd.R Kd.bool 4 w104 w.heap.size (fun _ => True) (.slice (some ⟨go101, 0, none⟩) x19_4.length co101) y344 := (by rw [hw, Ny344.out]; exact HP103.1); clear HP103; have n0_ := Kp.a (Kd.R_over' (v := (.slice (some ⟨go101, 0, none⟩) x19_4.length co101)) (Kp.kpR HO_3.out) (Kd.R_typed HO_19.out) (by decide) hg); have n1_ := Kp.a (Kd.R_over' (v := (.slice (some ⟨go101, 0, none⟩) x19_4.length co101)) (Kp.kpR HO_4.out) (Kd.R_typed HO_19.out) (by decide) hg); have n2_ := Kp.a (Kd.R_over' (v := (.slice (some ⟨go101, 0, none⟩) x19_4.length co101)) (Kp.kpR HO_16.out) (Kd.R_typed HO_19.out) (by decide) hg); have n3_ := Kp.a (Kd.R_over' (v := (.slice (some ⟨go101, 0, none⟩) x19_4.length co101)) (Kp.kpR HO_17.out) (Kd.R_typed HO_19.out) (by decide) hg); have n4_ := Kp.a (hp_); have n5_ := Kp.a ((by rw [hw]; exact below_set (HB.out) GB101.out : Below w.heap.size w w104)); clear HO_3; clear HO_4; clear HO_16; clear HO_17; clear HO_19; clear HB; have HO_3 := n0_; have HO_4 := n1_; have HO_16 := n2_; have HO_17 := n3_; have HO_19 := n4_; have HB := n5_; clear n0_ n1_ n2_ n3_ n4_ n5_; clear hg hw hp_)); try go_wp2_with (first | ((with_reducible refine gate_store (t := 4) (p := 214) rfl ?_); (try (rw [drewN_self wr]; generalize hq_ : World.drewN wr _ = wr; have n0_ := Kp.a (Kd.R_at hq_ HO_3.out); have n1_ := Kp.a (Kd.R_at hq_ HO_4.out); have n2_ := Kp.a (Kd.R_at hq_ HO_16.out); have n3_ := Kp.a (Kd.R_at hq_ HO_17.out); have n4_ := Kp.a (Kd.R_at hq_ HO_19.out); have n5_ := Kp.a (below_at hq_ HB.out); clear hq_ HO_3 HO_4 HO_16 HO_17 HO_19 HB; have HO_3 := n0_; have HO_4 := n1_; have HO_16 := n2_; have HO_17 := n3_; have HO_19 := n4_; have HB := n5_; clear n0_ n1_ n2_ n3_ n4_ n5_; (try (have HP103 := Kd.R_putg HO_19.out ((rd t330 x20_4) : Int) true)); (try (obtain ⟨hx101_0, hf101_0⟩ := Kd.R_celln false HO_19.out ((rd t330 x20_4) : Int) (of_eq_true p101) (of_eq_true q101))))); refine store_event (t := 4) (p := 214) (v := ?vo_w104) (w1 := (wr.setCell ⟨go101, ((rd t330 x20_4) : Int).toNat, none⟩ (.bool true))) ?hg ?ho ?hn ?hr ?_; (case ho => rfl); (case hg => rfl); (case hn => rfl); (case hr => first | (go_simp; done) | (go_simp; rfl)); intro w104 hw; have hg : wr.grownBy w104 (some go101) := (by rw [hw]; exact HP103.2); have hp_ : Kd.R Kd.bool 4 w104 w.heap.size (fun _ => True) (.slice (some ⟨go101, 0, none⟩) x19_4.length co101) y344 := (by rw [hw, Ny344.out]; exact HP103.1); clear HP103; have n0_ := Kp.a (Kd.R_over' (v := (.slice (some ⟨go101, 0, none⟩) x19_4.length co101)) (Kp.kpR HO_3.out) (Kd.R_typed HO_19.out) (by decide) hg); have n1_ := Kp.a (Kd.R_over' (v := (.slice (some ⟨go101, 0, none⟩) x19_4.length co101)) (Kp.kpR HO_4.out) (Kd.R_typed HO_19.out) (by decide) hg); have n2_ := Kp.a (Kd.R_over' (v := (.slice (some ⟨go101, 0, none⟩) x19_4.length co101)) (Kp.kpR HO_16.out) (Kd.R_typed HO_19.out) (by decide) hg); have n3_ := Kp.a (Kd.R_over' (v := (.slice (some ⟨go101, 0, none⟩) x19_4.length co101)) (Kp.kpR HO_17.out) (Kd.R_typed HO_19.out) (by decide) hg); have n4_ := Kp.a (hp_); have n5_ := Kp.a ((by rw [hw]; exact below_set (HB.out) GB101.out : Below w.heap.size w w104)); clear HO_3; clear HO_4; clear HO_16; clear HO_17; clear HO_19; clear HB; have HO_3 := n0_; have HO_4 := n1_; have HO_16 := n2_; have HO_17 := n3_; have HO_19 := n4_; have HB := n5_; clear n0_ n1_ n2_ n3_ n4_ n5_; clear hg hw hp_)))
          go_roundg k4
          case measure => have := HJ5.out; have := HK2.out; have := HJ75.out; have := HK4.out; omega
          case rel => exact ⟨(y344), (wrap64 (x20_4 + 1)), (by first | rfl | (simp; done) | (simp [*]; done)), H', ⟨by have := HJ5.out; have := HK2.out; have := HJ75.out; have := HK4.out; omega⟩, ⟨Kp.kpR HO_3.out⟩, ⟨Kp.kpR HO_4.out⟩, ⟨Kp.kpR HO_16.out⟩, ⟨Kp.kpR HO_17.out⟩, ⟨Kp.kpR HO_19.out⟩, ⟨Kp.kpL HB.out⟩⟩
         rw [if_neg c87] at H
         have c87b0 : decide (x20_4 < (t330.length : Int)) = false := decide_eq_false c87
         clear c87
         have H' := Kp.a H
         clear H
         obtain ⟨Ao111, co111, eo111⟩ := Kd.R_slice HO_17.out
         subst eo111
         go_wp2
         repeat (go_quiet (fail); try go_wp2)
         go_loopg [21] k4 (fun kq v21 w' => ∃ (x21_5 : Int), v21 = .int .i64 x21_5 ∧ Aside0 (laws_FnFits.l2 kq t298 t299 t300 t301 t329 x19_4 x21_5 = some r) ∧ Aside0 (kq ≤ k4) ∧ Aside0 (Kd.R (Kd.int .i64) 3 w' w.heap.size (fun k_ => some k_ ≠ ((.slice Ao9 t299.length co9) : Value).ownBlock ∧ some k_ ≠ (v332 : Value).ownBlock) (.slice Ao8 t298.length co8) t298) ∧ Aside0 (Kd.R (Kd.int .i64) 3 w' w.heap.size (fun k_ => some k_ ≠ ((.slice Ao8 t298.length co8) : Value).ownBlock ∧ some k_ ≠ (v332 : Value).ownBlock) (.slice Ao9 t299.length co9) t299) ∧ Aside0 (Kd.R (Kd.int .i64) 3 w' w.heap.size (fun k_ => some k_ ≠ ((.slice Ao8 t298.length co8) : Value).ownBlock ∧ some k_ ≠ ((.slice Ao9 t299.length co9) : Value).ownBlock) v332 t329) ∧ Aside0 (Kd.R Kd.bool 4 w' w.heap.size (fun _ => True) v337 x19_4) ∧ Aside0 (Below w.heap.size w w'))
         case atStart => exact ⟨(0), (by first | rfl | (simp; done) | (simp [*]; done)), H', ⟨Nat.le_refl _⟩, ⟨Kp.kpR (Kd.R_mono HO_3.out (fun _ hk => ⟨hk.1, hk.2.1⟩))⟩, ⟨Kp.kpR (Kd.R_mono HO_4.out (fun _ hk => ⟨hk.1, hk.2.1⟩))⟩, ⟨Kp.kpR (Kd.R_mono HO_16.out (fun _ hk => ⟨hk.1, hk.2.1⟩))⟩, ⟨Kp.kpR HO_19.out⟩, ⟨Kp.kpL HB.out⟩⟩
         case round => as_aux_lemma =>
          clear H'
          try clear c1
          try clear p1
          try clear q1
          try clear hx1
          try clear hf1
          try clear c2
          try clear c2b0
          try clear c2b1
          try clear p2
          try clear c3
          try clear p3
          try clear q3
          try clear hx3
          try clear c4
          try clear q4
          try clear c5
          try clear c6
          try clear p6
          try clear q6
          try clear hx6
          try clear hf6
          try clear c7
          try clear c8
          try clear c9
          try clear c10
          try clear p10
          try clear q10
          try clear hx10
          try clear hf10
          try clear c12
          try clear c12b0
          try clear c12b1
          try clear c15
          try clear c16
          try clear c16b0
          try clear c16b1
          try clear c17
          try clear c17b0
          try clear c17b1
          try clear c18
          try clear c18b0
          try clear c18b1
          try clear c19
          try clear c19b0
          try clear c19b1
          try clear c24
          try clear c24b0
          try clear c25
          try clear c25b0
          try clear c30
          try clear c30b0
          try clear c32
          try clear c32b0
          try clear p32
          try clear q32
          try clear hx32
          try clear p33
          try clear q33
          try clear hx33
          try clear c34
          try clear c34b0
          try clear p34
          try clear q34
          try clear hx34
          try clear c36
          try clear c36b0
          try clear c38
          try clear c38b0
          try clear c39
          try clear c39b0
          try clear q40
          try clear c41
          try clear c44
          try clear c44b0
          try clear c45
          try clear c45b0
          try clear q46
          try clear c47
          try clear c51
          try clear c51b0
          try clear c56
          try clear c57
          try clear c57b0
          try clear c58
          try clear c58b0
          try clear c59
          try clear c59b0
          try clear c60
          try clear c60b0
          try clear c61
          try clear c61b0
          try clear c63
          try clear c63b0
          try clear p64
          try clear c65
          try clear c65b0
          try clear p66
          try clear q66
          try clear hx66
          try clear hf66
          try clear c67
          try clear c67b0
          try clear p68
          try clear q68
          try clear hx68
          try clear hf68
          try clear c79
          try clear c79b0
          try clear c79b1
          try clear c82
          try clear c83
          try clear c83b0
          try clear c83b1
          try clear c84
          try clear c84b0
          try clear c84b1
          try clear c87
          try clear c87b0
          try clear c88
          try clear c88b0
          try clear c89
          try clear c89b0
          try clear c91
          try clear c91b0
          try clear c93
          try clear c93b0
          try clear c95
          try clear c95b0
          try clear c96
          try clear c96b0
          try clear c97
          try clear c97b0
          try clear c99
          try clear c99b0
          try clear c100
          try clear c100b0
          try clear p101
          try clear q101
          try clear hx101
          try clear hf101
          try clear c105
          try clear c105b0
          try clear c106
          try clear c106b0
          try clear p107
          try clear q107
          try clear hx107
          try clear hf107
          try clear hcz29_0
          try clear hcz29_1
          try clear hcz31_0
          try clear hcz31_1
          try clear hcz33_0
          try clear hcz33_1
          try clear hcz35_0
          try clear hcz35_1
          try clear hcz37_0
          try clear hcz37_1
          try clear hcz42_0
          try clear hcz42_1
          try clear hcz48_0
          try clear hcz48_1
          try clear hcz52_0
          try clear hcz52_1
          try clear hcz62_0
          try clear hcz62_1
          try clear hcz64_0
          try clear hcz64_1
          try clear hcz69_0
          try clear hcz69_1
          try clear hcz72_0
          try clear hcz72_1
          try clear hfz29_0
          try clear hfz29_1
          try clear hfz31_0
          try clear hfz31_1
          try clear hfz33_0
          try clear hfz33_1
          try clear hfz35_0
          try clear hfz35_1
          try clear hfz37_0
          try clear hfz37_1
          try clear hfz42_0
          try clear hfz42_1
          try clear hfz48_0
          try clear hfz48_1
          try clear hfz52_0
          try clear hfz52_1
          try clear hfz62_0
          try clear hfz62_1
          try clear hfz64_0
          try clear hfz64_1
          try clear hfz69_0
          try clear hfz69_1
          try clear hfz72_0
          try clear hfz72_1
          try clear hx101_0
          try clear hx107_0
          try clear hx320_0
          try clear hx320_1
          try clear hx322_0
          try clear hx323_0
          try clear hx324_0
          try clear hx324_1
          try clear hx325_0
          try clear hx326_0
          try clear hx339_0
          try clear hx340_0
          try clear hx341_0
          try clear hx342_0
          try clear hx343_0
          try clear hx345_0
          try clear hx66_0
          try clear hx68_0
          try clear p101
          try clear p107
          try clear p2
          try clear p3
          try clear p32
          try clear p320
          try clear p322
          try clear p323
          try clear p324
          try clear p325
          try clear p326
          try clear p339
          try clear p340
          try clear p341
          try clear p342
          try clear p343
          try clear p345
          try clear p6
          try clear p64
          try clear p66
          try clear p68
          try clear q101
          try clear q107
          try clear q3
          try clear q32
          try clear q320
          try clear q322
          try clear q323
          try clear q324
          try clear q325
          try clear q326
          try clear q339
          try clear q340
          try clear q341
          try clear q342
          try clear q343
          try clear q345
          try clear q4
          try clear q40
          try clear q46
          try clear q6
          try clear q66
          try clear q68
          obtain ⟨x21_5, rfl, HA, HK5, HO_3, HO_4, HO_16, HO_19, HB⟩ := hrel
          cases gk with
          | zero => exact absurd HA.out (by simp [laws_FnFits.l2])
          | succ k5 =>
           have H := HA.out
           clear HA
           simp only [laws_FnFits.l2] at H
           by_cases c112 : x21_5 < (t329.length : Int)
           rotate_left
           ·rw [if_neg c112] at H
            have c112b0 : decide (x21_5 < (t329.length : Int)) = false := decide_eq_false c112
            clear c112
            obtain rfl := Option.some.inj H
            obtain ⟨Ao136, co136, eo136⟩ := Kd.R_slice HO_16.out
            subst eo136
            go_wp2
            repeat (go_quiet (fail); try go_wp2)
            go_ret
            exact ⟨by first | rfl | (simp [errW_none, errW_some] <;> rfl) | (simp [*, errW_none, errW_some] <;> rfl), Kp.kpL HB.out⟩
           rw [if_pos c112] at H
           have c112b0 : decide (x21_5 < (t329.length : Int)) = true := decide_eq_true c112
           clear c112
           have HC113 := Kp.a H
           clear H
           obtain ⟨Ao114, co114, eo114⟩ := Kd.R_slice HO_16.out
           subst eo114
           go_upto_region 34 with (fail)
           repeat (go_quiet (fail); go_upto_region 34 with (fail))
           go_cut [250] (fun v250 wc => ∃ (kq : Nat) (x250_112 : Bool), v250 = .bool x250_112 ∧ Aside0 (laws_FnFits.j6 kq t298 t299 t300 t301 t329 x19_4 x21_5 x250_112 = some r) ∧ Aside0 (kq ≤ k5) ∧ Aside0 (Kd.R (Kd.int .i64) 3 wc w.heap.size (fun k_ => some k_ ≠ ((.slice Ao9 t299.length co9) : Value).ownBlock ∧ some k_ ≠ ((.slice Ao114 t329.length co114) : Value).ownBlock) (.slice Ao8 t298.length co8) t298) ∧ Aside0 (Kd.R (Kd.int .i64) 3 wc w.heap.size (fun k_ => some k_ ≠ ((.slice Ao8 t298.length co8) : Value).ownBlock ∧ some k_ ≠ ((.slice Ao114 t329.length co114) : Value).ownBlock) (.slice Ao9 t299.length co9) t299) ∧ Aside0 (Kd.R (Kd.int .i64) 3 wc w.heap.size (fun k_ => some k_ ≠ ((.slice Ao8 t298.length co8) : Value).ownBlock ∧ some k_ ≠ ((.slice Ao9 t299.length co9) : Value).ownBlock) (.slice Ao114 t329.length co114) t329) ∧ Aside0 (Kd.R Kd.bool 4 wc w.heap.size (fun _ => True) v337 x19_4) ∧ Aside0 (Below w.heap.size w wc))
           case first => as_aux_lemma =>
            have H := HC113.out
            clear HC113
            by_cases c115 : 0 ≤ x21_5
            rotate_left
            ·rw [if_neg c115] at H
             exact absurd H (by simp)
            rw [if_pos c115] at H
            have c115b0 : decide (0 ≤ x21_5) = true := decide_eq_true c115
            clear c115
            (first | rw [c115b0] | (simp only [i64_w, i32_w]; rw [c115b0]) | skip)
            by_cases c116 : (rd t329 x21_5) < 0
            ·rw [if_pos c116] at H
             have c116b0 : decide ((rd t329 x21_5) < 0) = true := decide_eq_true c116
             clear c116
             have H' := Kp.a H
             clear H
             have p347 : 0 ≤ (x21_5 : Int) := Kp.d
             have q347 : x21_5 < (t329.length : Int) := Kp.d
             obtain ⟨ad347, e347, hx347_0⟩ := Kd.at_int (Kd.R_reads' HO_16.out).2.2 x21_5 p347 q347
             cases e347
             replace p347 := eq_true p347
             replace q347 := eq_true q347
             go_wp2
             repeat (go_quiet (fail); try go_wp2)
             go_meet
             case rel => exact ⟨_, (true), (by first | rfl | (simp; done) | (simp [*]; done)), H', ⟨by have := HJ5.out; have := HK2.out; have := HJ75.out; have := HK4.out; have := HK5.out; first | omega | exact Nat.le_refl _⟩, ⟨Kp.kpR HO_3.out⟩, ⟨Kp.kpR HO_4.out⟩, ⟨Kp.kpR HO_16.out⟩, ⟨Kp.kpR HO_19.out⟩, ⟨Kp.kpL HB.out⟩⟩
            rw [if_neg c116] at H
            have c116b0 : decide ((rd t329 x21_5) < 0) = false := decide_eq_false c116
            clear c116
            by_cases c117 : (rd t329 x21_5) ≥ (t298.length : Int)
            ·rw [if_pos c117] at H
             have c117b0 : decide ((t298.length : Int) ≤ (rd t329 x21_5)) = true := decide_eq_true c117
             clear c117
             have H' := Kp.a H
             clear H
             have p347 : 0 ≤ (x21_5 : Int) := Kp.d
             have q347 : x21_5 < (t329.length : Int) := Kp.d
             obtain ⟨ad347, e347, hx347_0⟩ := Kd.at_int (Kd.R_reads' HO_16.out).2.2 x21_5 p347 q347
             cases e347
             replace p347 := eq_true p347
             replace q347 := eq_true q347
             have p348 : 0 ≤ (x21_5 : Int) := Kp.d
             have q348 : x21_5 < (t329.length : Int) := Kp.d
             obtain ⟨ad348, e348, hx348_0⟩ := Kd.at_int (Kd.R_reads' HO_16.out).2.2 x21_5 p348 q348
             obtain rfl : ad347 = ad348 := (by injection e348)
             replace p348 := eq_true p348
             replace q348 := eq_true q348
             go_wp2
             repeat (go_quiet (fail); try go_wp2)
             go_meet
             case rel => exact ⟨_, (true), (by first | rfl | (simp; done) | (simp [*]; done)), H', ⟨by have := HJ5.out; have := HK2.out; have := HJ75.out; have := HK4.out; have := HK5.out; first | omega | exact Nat.le_refl _⟩, ⟨Kp.kpR HO_3.out⟩, ⟨Kp.kpR HO_4.out⟩, ⟨Kp.kpR HO_16.out⟩, ⟨Kp.kpR HO_19.out⟩, ⟨Kp.kpL HB.out⟩⟩
            rw [if_neg c117] at H
            have c117b0 : decide ((t298.length : Int) ≤ (rd t329 x21_5)) = false := decide_eq_false c117
            clear c117
            by_cases c118 : x21_5 > 0
            rotate_left
            ·rw [if_neg c118] at H
             have c118b0 : decide (0 < x21_5) = false := decide_eq_false c118
             clear c118
             have H' := Kp.a H
             clear H
             have p347 : 0 ≤ (x21_5 : Int) := Kp.d
             have q347 : x21_5 < (t329.length : Int) := Kp.d
             obtain ⟨ad347, e347, hx347_0⟩ := Kd.at_int (Kd.R_reads' HO_16.out).2.2 x21_5 p347 q347
             cases e347
             replace p347 := eq_true p347
             replace q347 := eq_true q347
             have p348 : 0 ≤ (x21_5 : Int) := Kp.d
             have q348 : x21_5 < (t329.length : Int) := Kp.d
             obtain ⟨ad348, e348, hx348_0⟩ := Kd.at_int (Kd.R_reads' HO_16.out).2.2 x21_5 p348 q348
             obtain rfl : ad347 = ad348 := (by injection e348)
             replace p348 := eq_true p348
             replace q348 := eq_true q348
             go_wp2
             repeat (go_quiet (fail); try go_wp2)
             go_meet
             case rel => exact ⟨_, (false), (by first | rfl | (simp; done) | (simp [*]; done)), H', ⟨by have := HJ5.out; have := HK2.out; have := HJ75.out; have := HK4.out; have := HK5.out; first | omega | exact Nat.le_refl _⟩, ⟨Kp.kpR HO_3.out⟩, ⟨Kp.kpR HO_4.out⟩, ⟨Kp.kpR HO_16.out⟩, ⟨Kp.kpR HO_19.out⟩, ⟨Kp.kpL HB.out⟩⟩
            rw [if_pos c118] at H
            have c118b0 : decide (0 < x21_5) = true := decide_eq_true c118
            clear c118
            obtain ⟨ji119, hji119⟩ : ∃ j_ : Int, (wrap64 (x21_5 - 1)) = j_ := ⟨_, rfl⟩
            replace H : (if 0 ≤ (ji119) then (if (ji119) < (t329.length : Int) then (laws_FnFits.j6 k5 t298 t299 t300 t301 t329 x19_4 x21_5 (decide ((rd t329 x21_5) ≤ (rd t329 (ji119))))) else (none)) else (none)) = some r := by first | (rw [hji119] at H; exact H) | (simp only [hji119] at H ⊢; exact H)
            have hji119w : (IntKind.i64.wrap (x21_5 - 1)) = ji119 := (i64_w _).trans hji119
            by_cases c120 : 0 ≤ (ji119)
            rotate_left
            ·rw [if_neg c120] at H
             exact absurd H (by simp)
            rw [if_pos c120] at H
            have c120b0 : decide (0 ≤ (ji119)) = true := decide_eq_true c120
            clear c120
            by_cases c121 : (ji119) < (t329.length : Int)
            rotate_left
            ·rw [if_neg c121] at H
             exact absurd H (by simp)
            rw [if_pos c121] at H
            have c121b0 : decide ((ji119) < (t329.length : Int)) = true := decide_eq_true c121
            clear c121
            have H' := Kp.a H
            clear H
            have p347 : 0 ≤ (x21_5 : Int) := Kp.d
            have q347 : x21_5 < (t329.length : Int) := Kp.d
            obtain ⟨ad347, e347, hx347_0⟩ := Kd.at_int (Kd.R_reads' HO_16.out).2.2 x21_5 p347 q347
            cases e347
            replace p347 := eq_true p347
            replace q347 := eq_true q347
            have p348 : 0 ≤ (x21_5 : Int) := Kp.d
            have q348 : x21_5 < (t329.length : Int) := Kp.d
            obtain ⟨ad348, e348, hx348_0⟩ := Kd.at_int (Kd.R_reads' HO_16.out).2.2 x21_5 p348 q348
            obtain rfl : ad347 = ad348 := (by injection e348)
            replace p348 := eq_true p348
            replace q348 := eq_true q348
            have p349 : 0 ≤ (x21_5 : Int) := Kp.d
            have q349 : x21_5 < (t329.length : Int) := Kp.d
            obtain ⟨ad349, e349, hx349_0⟩ := Kd.at_int (Kd.R_reads' HO_16.out).2.2 x21_5 p349 q349
            obtain rfl : ad347 = ad349 := (by injection e349)
            replace p349 := eq_true p349
            replace q349 := eq_true q349
            have p350 : 0 ≤ ((ji119) : Int) := Kp.d
            have q350 : (ji119) < (t329.length : Int) := Kp.d
            obtain ⟨ad350, e350, hx350_0⟩ := Kd.at_int (Kd.R_reads' HO_16.out).2.2 (ji119) p350 q350
            obtain rfl : ad347 = ad350 := (by injection e350)
            replace p350 := eq_true p350
            replace q350 := eq_true q350
            go_wp2
            repeat (go_quiet (fail); try go_wp2)
            go_meet
            case rel => exact ⟨_, (decide ((rd t329 x21_5) ≤ (rd t329 (ji119)))), (by first | rfl | (simp; done) | (simp only [← hji119] <;> (first | rfl | simp)) | (simp [*]; done)), H', ⟨by have := HJ5.out; have := HK2.out; have := HJ75.out; have := HK4.out; have := HK5.out; first | omega | exact Nat.le_refl _⟩, ⟨Kp.kpR HO_3.out⟩, ⟨Kp.kpR HO_4.out⟩, ⟨Kp.kpR HO_16.out⟩, ⟨Kp.kpR HO_19.out⟩, ⟨Kp.kpL HB.out⟩⟩
           case rest => as_aux_lemma =>
            clear HC113
            try clear c1
            try clear p1
            try clear q1
            try clear hx1
            try clear hf1
            try clear c2
            try clear c2b0
            try clear c2b1
            try clear p2
            try clear c3
            try clear p3
            try clear q3
            try clear hx3
            try clear c4
            try clear q4
            try clear c5
            try clear c6
            try clear p6
            try clear q6
            try clear hx6
            try clear hf6
            try clear c7
            try clear c8
            try clear c9
            try clear c10
            try clear p10
            try clear q10
            try clear hx10
            try clear hf10
            try clear c11
            try clear c12
            try clear c12b0
            try clear c12b1
            try clear c15
            try clear c16
            try clear c16b0
            try clear c16b1
            try clear c17
            try clear c17b0
            try clear c17b1
            try clear c18
            try clear c18b0
            try clear c18b1
            try clear c19
            try clear c19b0
            try clear c19b1
            try clear c24
            try clear c24b0
            try clear c25
            try clear c25b0
            try clear c30
            try clear c30b0
            try clear c32
            try clear c32b0
            try clear p32
            try clear q32
            try clear hx32
            try clear p33
            try clear q33
            try clear hx33
            try clear c34
            try clear c34b0
            try clear p34
            try clear q34
            try clear hx34
            try clear p35
            try clear q35
            try clear hx35
            try clear c36
            try clear c36b0
            try clear c38
            try clear c38b0
            try clear c39
            try clear c39b0
            try clear q40
            try clear c41
            try clear c44
            try clear c44b0
            try clear c45
            try clear c45b0
            try clear q46
            try clear c47
            try clear c51
            try clear c51b0
            try clear c56
            try clear c57
            try clear c57b0
            try clear c58
            try clear c58b0
            try clear c59
            try clear c59b0
            try clear c60
            try clear c60b0
            try clear c61
            try clear c61b0
            try clear c63
            try clear c63b0
            try clear p64
            try clear c65
            try clear c65b0
            try clear p66
            try clear q66
            try clear hx66
            try clear hf66
            try clear c67
            try clear c67b0
            try clear p68
            try clear q68
            try clear hx68
            try clear hf68
            try clear c79
            try clear c79b0
            try clear c79b1
            try clear c82
            try clear c83
            try clear c83b0
            try clear c83b1
            try clear c84
            try clear c84b0
            try clear c84b1
            try clear c87
            try clear c87b0
            try clear c88
            try clear c88b0
            try clear c89
            try clear c89b0
            try clear c91
            try clear c91b0
            try clear c93
            try clear c93b0
            try clear c95
            try clear c95b0
            try clear c96
            try clear c96b0
            try clear c97
            try clear c97b0
            try clear c99
            try clear c99b0
            try clear c100
            try clear c100b0
            try clear p101
            try clear q101
            try clear hx101
            try clear hf101
            try clear c105
            try clear c105b0
            try clear c106
            try clear c106b0
            try clear p107
            try clear q107
            try clear hx107
            try clear hf107
            try clear c112
            try clear c112b0
            try clear c115
            try clear c115b0
            try clear c116
            try clear c116b0
            try clear c117
            try clear c117b0
            try clear c118
            try clear c118b0
            try clear c120
            try clear c120b0
            try clear c121
            try clear c121b0
            try clear hcz29_0
            try clear hcz29_1
            try clear hcz31_0
            try clear hcz31_1
            try clear hcz33_0
            try clear hcz33_1
            try clear hcz35_0
            try clear hcz35_1
            try clear hcz37_0
            try clear hcz37_1
            try clear hcz42_0
            try clear hcz42_1
            try clear hcz48_0
            try clear hcz48_1
            try clear hcz52_0
            try clear hcz52_1
            try clear hcz62_0
            try clear hcz62_1
            try clear hcz64_0
            try clear hcz64_1
            try clear hcz69_0
            try clear hcz69_1
            try clear hcz72_0
            try clear hcz72_1
            try clear hfz29_0
            try clear hfz29_1
            try clear hfz31_0
            try clear hfz31_1
            try clear hfz33_0
            try clear hfz33_1
            try clear hfz35_0
            try clear hfz35_1
            try clear hfz37_0
            try clear hfz37_1
            try clear hfz42_0
            try clear hfz42_1
            try clear hfz48_0
            try clear hfz48_1
            try clear hfz52_0
            try clear hfz52_1
            try clear hfz62_0
            try clear hfz62_1
            try clear hfz64_0
            try clear hfz64_1
            try clear hfz69_0
            try clear hfz69_1
            try clear hfz72_0
            try clear hfz72_1
            try clear hx101_0
            try clear hx107_0
            try clear hx320_0
            try clear hx320_1
            try clear hx322_0
            try clear hx323_0
            try clear hx324_0
            try clear hx324_1
            try clear hx325_0
            try clear hx326_0
            try clear hx339_0
            try clear hx340_0
            try clear hx341_0
            try clear hx342_0
            try clear hx343_0
            try clear hx345_0
            try clear hx347_0
            try clear hx348_0
            try clear hx349_0
            try clear hx350_0
            try clear hx66_0
            try clear hx68_0
            try clear p1
            try clear p10
            try clear p101
            try clear p107
            try clear p2
            try clear p3
            try clear p32
            try clear p320
            try clear p322
            try clear p323
            try clear p324
            try clear p325
            try clear p326
            try clear p33
            try clear p339
            try clear p34
            try clear p340
            try clear p341
            try clear p342
            try clear p343
            try clear p345
            try clear p347
            try clear p348
            try clear p349
            try clear p350
            try clear p6
            try clear p64
            try clear p66
            try clear p68
            try clear q1
            try clear q10
            try clear q101
            try clear q107
            try clear q3
            try clear q32
            try clear q320
            try clear q322
            try clear q323
            try clear q324
            try clear q325
            try clear q326
            try clear q33
            try clear q339
            try clear q34
            try clear q340
            try clear q341
            try clear q342
            try clear q343
            try clear q345
            try clear q347
            try clear q348
            try clear q349
            try clear q350
            try clear q4
            try clear q40
            try clear q46
            try clear q6
            try clear q66
            try clear q68
            obtain ⟨kq, x250_112, rfl, HA, HJ112, HO_3, HO_4, HO_16, HO_19, HB⟩ := hcut
            cases kq with
            | zero => exact absurd HA.out (by simp [laws_FnFits.j6])
            | succ kj112 =>
             have H := HA.out
             clear HA
             simp only [laws_FnFits.j6] at H
             by_cases c122 : x250_112 = true
             ·subst c122
              have H1 : (some false) = some r := by rw [if_pos rfl] at H; exact H
              clear H
              have H := H1
              clear H1
              obtain rfl := Option.some.inj H
              go_wp2
              repeat (go_quiet (fail); try go_wp2)
              go_ret
              exact ⟨by first | rfl | (simp [errW_none, errW_some] <;> rfl) | (simp [*, errW_none, errW_some] <;> rfl), Kp.kpL HB.out⟩
             replace c122 := Bool.eq_false_iff.mpr c122
             subst c122
             have H1 : (laws_FnFits.l3 kj112 t298 t299 t300 t301 t329 x19_4 x21_5 0) = some r := by rw [if_neg (show ¬ (false = true) by decide)] at H; exact H
             clear H
             have H := H1
             clear H1
             have H' := Kp.a H
             clear H
             go_wp2
             repeat (go_quiet (fail); try go_wp2)
             go_loopg [22] kj112 (fun kq v22 w' => ∃ (x22_7 : Int), v22 = .int .i64 x22_7 ∧ Aside0 (laws_FnFits.l3 kq t298 t299 t300 t301 t329 x19_4 x21_5 x22_7 = some r) ∧ Aside0 (kq ≤ kj112) ∧ Aside0 (Kd.R (Kd.int .i64) 3 w' w.heap.size (fun k_ => some k_ ≠ ((.slice Ao9 t299.length co9) : Value).ownBlock ∧ some k_ ≠ ((.slice Ao114 t329.length co114) : Value).ownBlock) (.slice Ao8 t298.length co8) t298) ∧ Aside0 (Kd.R (Kd.int .i64) 3 w' w.heap.size (fun k_ => some k_ ≠ ((.slice Ao8 t298.length co8) : Value).ownBlock ∧ some k_ ≠ ((.slice Ao114 t329.length co114) : Value).ownBlock) (.slice Ao9 t299.length co9) t299) ∧ Aside0 (Kd.R (Kd.int .i64) 3 w' w.heap.size (fun k_ => some k_ ≠ ((.slice Ao8 t298.length co8) : Value).ownBlock ∧ some k_ ≠ ((.slice Ao9 t299.length co9) : Value).ownBlock) (.slice Ao114 t329.length co114) t329) ∧ Aside0 (Kd.R Kd.bool 4 w' w.heap.size (fun _ => True) v337 x19_4) ∧ Aside0 (Below w.heap.size w w'))
             case atStart => exact ⟨(0), (by first | rfl | (simp; done) | (simp [*]; done)), H', ⟨Nat.le_refl _⟩, ⟨Kp.kpR HO_3.out⟩, ⟨Kp.kpR HO_4.out⟩, ⟨Kp.kpR HO_16.out⟩, ⟨Kp.kpR HO_19.out⟩, ⟨Kp.kpL HB.out⟩⟩
             case round => as_aux_lemma =>
              clear H'
              try clear c1
              try clear p1
              try clear q1
              try clear hx1
              try clear hf1
              try clear c2
              try clear c2b0
              try clear c2b1
              try clear p2
              try clear c3
              try clear p3
              try clear q3
              try clear hx3
              try clear c4
              try clear q4
              try clear c5
              try clear c6
              try clear p6
              try clear q6
              try clear hx6
              try clear hf6
              try clear c7
              try clear c8
              try clear c9
              try clear c10
              try clear p10
              try clear q10
              try clear hx10
              try clear hf10
              try clear c11
              try clear c12
              try clear c12b0
              try clear c12b1
              try clear c15
              try clear c16
              try clear c16b0
              try clear c16b1
              try clear c17
              try clear c17b0
              try clear c17b1
              try clear c18
              try clear c18b0
              try clear c18b1
              try clear c19
              try clear c19b0
              try clear c19b1
              try clear c24
              try clear c24b0
              try clear c25
              try clear c25b0
              try clear c30
              try clear c30b0
              try clear c32
              try clear c32b0
              try clear p32
              try clear q32
              try clear hx32
              try clear p33
              try clear q33
              try clear hx33
              try clear c34
              try clear c34b0
              try clear p34
              try clear q34
              try clear hx34
              try clear p35
              try clear q35
              try clear hx35
              try clear c36
              try clear c36b0
              try clear c38
              try clear c38b0
              try clear c39
              try clear c39b0
              try clear q40
              try clear c41
              try clear c44
              try clear c44b0
              try clear c45
              try clear c45b0
              try clear q46
              try clear c47
              try clear c51
              try clear c51b0
              try clear c56
              try clear c57
              try clear c57b0
              try clear c58
              try clear c58b0
              try clear c59
              try clear c59b0
              try clear c60
              try clear c60b0
              try clear c61
              try clear c61b0
              try clear c63
              try clear c63b0
              try clear p64
              try clear c65
              try clear c65b0
              try clear p66
              try clear q66
              try clear hx66
              try clear hf66
              try clear c67
              try clear c67b0
              try clear p68
              try clear q68
              try clear hx68
              try clear hf68
              try clear c79
              try clear c79b0
              try clear c79b1
              try clear c82
              try clear c83
              try clear c83b0
              try clear c83b1
              try clear c84
              try clear c84b0
              try clear c84b1
              try clear c87
              try clear c87b0
              try clear c88
              try clear c88b0
              try clear c89
              try clear c89b0
              try clear c91
              try clear c91b0
              try clear c93
              try clear c93b0
              try clear c95
              try clear c95b0
              try clear c96
              try clear c96b0
              try clear c97
              try clear c97b0
              try clear c99
              try clear c99b0
              try clear c100
              try clear c100b0
              try clear p101
              try clear q101
              try clear hx101
              try clear hf101
              try clear c105
              try clear c105b0
              try clear c106
              try clear c106b0
              try clear p107
              try clear q107
              try clear hx107
              try clear hf107
              try clear c112
              try clear c112b0
              try clear c115
              try clear c115b0
              try clear c116
              try clear c116b0
              try clear c117
              try clear c117b0
              try clear c118
              try clear c118b0
              try clear c120
              try clear c120b0
              try clear c121
              try clear c121b0
              try clear c122
              try clear hcz29_0
              try clear hcz29_1
              try clear hcz31_0
              try clear hcz31_1
              try clear hcz33_0
              try clear hcz33_1
              try clear hcz35_0
              try clear hcz35_1
              try clear hcz37_0
              try clear hcz37_1
              try clear hcz42_0
              try clear hcz42_1
              try clear hcz48_0
              try clear hcz48_1
              try clear hcz52_0
              try clear hcz52_1
              try clear hcz62_0
              try clear hcz62_1
              try clear hcz64_0
              try clear hcz64_1
              try clear hcz69_0
              try clear hcz69_1
              try clear hcz72_0
              try clear hcz72_1
              try clear hfz29_0
              try clear hfz29_1
              try clear hfz31_0
              try clear hfz31_1
              try clear hfz33_0
              try clear hfz33_1
              try clear hfz35_0
              try clear hfz35_1
              try clear hfz37_0
              try clear hfz37_1
              try clear hfz42_0
              try clear hfz42_1
              try clear hfz48_0
              try clear hfz48_1
              try clear hfz52_0
              try clear hfz52_1
              try clear hfz62_0
              try clear hfz62_1
              try clear hfz64_0
              try clear hfz64_1
              try clear hfz69_0
              try clear hfz69_1
              try clear hfz72_0
              try clear hfz72_1
              try clear hx101_0
              try clear hx107_0
              try clear hx320_0
              try clear hx320_1
              try clear hx322_0
              try clear hx323_0
              try clear hx324_0
              try clear hx324_1
              try clear hx325_0
              try clear hx326_0
              try clear hx339_0
              try clear hx340_0
              try clear hx341_0
              try clear hx342_0
              try clear hx343_0
              try clear hx345_0
              try clear hx347_0
              try clear hx348_0
              try clear hx349_0
              try clear hx350_0
              try clear hx66_0
              try clear hx68_0
              try clear p1
              try clear p10
              try clear p101
              try clear p107
              try clear p2
              try clear p3
              try clear p32
              try clear p320
              try clear p322
              try clear p323
              try clear p324
              try clear p325
              try clear p326
              try clear p33
              try clear p339
              try clear p34
              try clear p340
              try clear p341
              try clear p342
              try clear p343
              try clear p345
              try clear p347
              try clear p348
              try clear p349
              try clear p35
              try clear p350
              try clear p6
              try clear p64
              try clear p66
              try clear p68
              try clear q1
              try clear q10
              try clear q101
              try clear q107
              try clear q3
              try clear q32
              try clear q320
              try clear q322
              try clear q323
              try clear q324
              try clear q325
              try clear q326
              try clear q33
              try clear q339
              try clear q34
              try clear q340
              try clear q341
              try clear q342
              try clear q343
              try clear q345
              try clear q347
              try clear q348
              try clear q349
              try clear q35
              try clear q350
              try clear q4
              try clear q40
              try clear q46
              try clear q6
              try clear q66
              try clear q68
              obtain ⟨x22_7, rfl, HA, HK7, HO_3, HO_4, HO_16, HO_19, HB⟩ := hrel
              cases gk with
              | zero => exact absurd HA.out (by simp [laws_FnFits.l3])
              | succ k7 =>
               have H := HA.out
               clear HA
               simp only [laws_FnFits.l3] at H
               by_cases c123 : x22_7 < (t299.length : Int)
               rotate_left
               ·rw [if_neg c123] at H
                have c123b0 : decide (x22_7 < (t299.length : Int)) = false := decide_eq_false c123
                clear c123
                have H' := Kp.a H
                clear H
                go_wp2
                repeat (go_quiet (fail); try go_wp2)
                go_roundg k7
                case measure => have := HJ5.out; have := HK2.out; have := HJ75.out; have := HK4.out; have := HK5.out; have := HJ112.out; have := HK7.out; omega
                case rel => exact ⟨(wrap64 (x21_5 + 1)), (by first | rfl | (simp; done) | (simp [*]; done)), H', ⟨by have := HJ5.out; have := HK2.out; have := HJ75.out; have := HK4.out; have := HK5.out; have := HJ112.out; have := HK7.out; omega⟩, ⟨Kp.kpR HO_3.out⟩, ⟨Kp.kpR HO_4.out⟩, ⟨Kp.kpR HO_16.out⟩, ⟨Kp.kpR HO_19.out⟩, ⟨Kp.kpL HB.out⟩⟩
               rw [if_pos c123] at H
               have c123b0 : decide (x22_7 < (t299.length : Int)) = true := decide_eq_true c123
               clear c123
               by_cases c124 : 0 ≤ x21_5
               rotate_left
               ·rw [if_neg c124] at H
                exact absurd H (by simp)
               rw [if_pos c124] at H
               have c124b0 : decide (0 ≤ x21_5) = true := decide_eq_true c124
               clear c124
               by_cases c125 : x21_5 < (t329.length : Int)
               rotate_left
               ·rw [if_neg c125] at H
                exact absurd H (by simp)
               rw [if_pos c125] at H
               have c125b0 : decide (x21_5 < (t329.length : Int)) = true := decide_eq_true c125
               clear c125
               by_cases c126 : 0 ≤ (rd t329 x21_5)
               rotate_left
               ·rw [if_neg c126] at H
                exact absurd H (by simp)
               rw [if_pos c126] at H
               have c126b0 : decide (0 ≤ (rd t329 x21_5)) = true := decide_eq_true c126
               clear c126
               by_cases c127 : (rd t329 x21_5) < (t298.length : Int)
               rotate_left
               ·rw [if_neg c127] at H
                exact absurd H (by simp)
               rw [if_pos c127] at H
               have c127b0 : decide ((rd t329 x21_5) < (t298.length : Int)) = true := decide_eq_true c127
               clear c127
               by_cases c128 : 0 ≤ x22_7
               rotate_left
               ·rw [if_neg c128] at H
                exact absurd H (by simp)
               rw [if_pos c128] at H
               have c128b0 : decide (0 ≤ x22_7) = true := decide_eq_true c128
               clear c128
               by_cases c129 : (wrap64 ((rd t298 (rd t329 x21_5)) - (rd t299 x22_7))) ≥ t300
               rotate_left
               ·rw [if_neg c129] at H
                have c129b0 : decide (t300 ≤ (wrap64 ((rd t298 (rd t329 x21_5)) - (rd t299 x22_7)))) = false := decide_eq_false c129
                clear c129
                have H' := Kp.a H
                clear H
                have p351 : 0 ≤ (x21_5 : Int) := Kp.d
                have q351 : x21_5 < (t329.length : Int) := Kp.d
                obtain ⟨ad351, e351, hx351_0⟩ := Kd.at_int (Kd.R_reads' HO_16.out).2.2 x21_5 p351 q351
                cases e351
                replace p351 := eq_true p351
                replace q351 := eq_true q351
                have p352 : 0 ≤ ((rd t329 x21_5) : Int) := Kp.d
                have q352 : (rd t329 x21_5) < (t298.length : Int) := Kp.d
                obtain ⟨ad352, e352, hx352_0⟩ := Kd.at_int (Kd.R_reads' HO_3.out).2.2 (rd t329 x21_5) p352 q352
                cases e352
                replace p352 := eq_true p352
                replace q352 := eq_true q352
                have p353 : 0 ≤ (x22_7 : Int) := Kp.d
                have q353 : x22_7 < (t299.length : Int) := Kp.d
                obtain ⟨ad353, e353, hx353_0⟩ := Kd.at_int (Kd.R_reads' HO_4.out).2.2 x22_7 p353 q353
                cases e353
                replace p353 := eq_true p353
                replace q353 := eq_true q353
                go_wp2
                repeat (go_quiet (fail); try go_wp2)
                go_roundg k7
                case measure => have := HJ5.out; have := HK2.out; have := HJ75.out; have := HK4.out; have := HK5.out; have := HJ112.out; have := HK7.out; omega
                case rel => exact ⟨(wrap64 (x22_7 + 1)), (by first | rfl | (simp; done) | (simp [*]; done)), H', ⟨by have := HJ5.out; have := HK2.out; have := HJ75.out; have := HK4.out; have := HK5.out; have := HJ112.out; have := HK7.out; omega⟩, ⟨Kp.kpR HO_3.out⟩, ⟨Kp.kpR HO_4.out⟩, ⟨Kp.kpR HO_16.out⟩, ⟨Kp.kpR HO_19.out⟩, ⟨Kp.kpL HB.out⟩⟩
               rw [if_pos c129] at H
               have c129b0 : decide (t300 ≤ (wrap64 ((rd t298 (rd t329 x21_5)) - (rd t299 x22_7)))) = true := decide_eq_true c129
               clear c129
               by_cases c130 : (wrap64 ((rd t298 (rd t329 x21_5)) - (rd t299 x22_7))) ≤ t301
               rotate_left
               ·rw [if_neg c130] at H
                have c130b0 : decide ((wrap64 ((rd t298 (rd t329 x21_5)) - (rd t299 x22_7))) ≤ t301) = false := decide_eq_false c130
                clear c130
                have H' := Kp.a H
                clear H
                have p351 : 0 ≤ (x21_5 : Int) := Kp.d
                have q351 : x21_5 < (t329.length : Int) := Kp.d
                obtain ⟨ad351, e351, hx351_0⟩ := Kd.at_int (Kd.R_reads' HO_16.out).2.2 x21_5 p351 q351
                cases e351
                replace p351 := eq_true p351
                replace q351 := eq_true q351
                have p352 : 0 ≤ ((rd t329 x21_5) : Int) := Kp.d
                have q352 : (rd t329 x21_5) < (t298.length : Int) := Kp.d
                obtain ⟨ad352, e352, hx352_0⟩ := Kd.at_int (Kd.R_reads' HO_3.out).2.2 (rd t329 x21_5) p352 q352
                cases e352
                replace p352 := eq_true p352
                replace q352 := eq_true q352
                have p353 : 0 ≤ (x22_7 : Int) := Kp.d
                have q353 : x22_7 < (t299.length : Int) := Kp.d
                obtain ⟨ad353, e353, hx353_0⟩ := Kd.at_int (Kd.R_reads' HO_4.out).2.2 x22_7 p353 q353
                cases e353
                replace p353 := eq_true p353
                replace q353 := eq_true q353
                go_wp2
                repeat (go_quiet (fail); try go_wp2)
                go_roundg k7
                case measure => have := HJ5.out; have := HK2.out; have := HJ75.out; have := HK4.out; have := HK5.out; have := HJ112.out; have := HK7.out; omega
                case rel => exact ⟨(wrap64 (x22_7 + 1)), (by first | rfl | (simp; done) | (simp [*]; done)), H', ⟨by have := HJ5.out; have := HK2.out; have := HJ75.out; have := HK4.out; have := HK5.out; have := HJ112.out; have := HK7.out; omega⟩, ⟨Kp.kpR HO_3.out⟩, ⟨Kp.kpR HO_4.out⟩, ⟨Kp.kpR HO_16.out⟩, ⟨Kp.kpR HO_19.out⟩, ⟨Kp.kpL HB.out⟩⟩
               rw [if_pos c130] at H
               have c130b0 : decide ((wrap64 ((rd t298 (rd t329 x21_5)) - (rd t299 x22_7))) ≤ t301) = true := decide_eq_true c130
               clear c130
               by_cases c131 : x22_7 < (x19_4.length : Int)
               rotate_left
               ·rw [if_neg c131] at H
                exact absurd H (by simp)
               rw [if_pos c131] at H
               have c131b0 : decide (x22_7 < (x19_4.length : Int)) = true := decide_eq_true c131
               clear c131
               obtain ⟨bq132, hbq132⟩ : ∃ b_ : Bool, b_ = (rdOf false x19_4 x22_7) := ⟨_, rfl⟩
               replace H : (if bq132 = true then (laws_FnFits.l3 k7 t298 t299 t300 t301 t329 x19_4 x21_5 (wrap64 (x22_7 + 1))) else (some false)) = some r := by rw [← hbq132] at H; exact H
               have Nbq132 := Kp.a hbq132
               clear hbq132
               by_cases c133 : bq132 = true
               ·subst c133
                have H1 : (laws_FnFits.l3 k7 t298 t299 t300 t301 t329 x19_4 x21_5 (wrap64 (x22_7 + 1))) = some r := by rw [if_pos rfl] at H; exact H
                clear H
                have H := H1
                clear H1
                have H' := Kp.a H
                clear H
                have p351 : 0 ≤ (x21_5 : Int) := Kp.d
                have q351 : x21_5 < (t329.length : Int) := Kp.d
                obtain ⟨ad351, e351, hx351_0⟩ := Kd.at_int (Kd.R_reads' HO_16.out).2.2 x21_5 p351 q351
                cases e351
                replace p351 := eq_true p351
                replace q351 := eq_true q351
                have p352 : 0 ≤ ((rd t329 x21_5) : Int) := Kp.d
                have q352 : (rd t329 x21_5) < (t298.length : Int) := Kp.d
                obtain ⟨ad352, e352, hx352_0⟩ := Kd.at_int (Kd.R_reads' HO_3.out).2.2 (rd t329 x21_5) p352 q352
                cases e352
                replace p352 := eq_true p352
                replace q352 := eq_true q352
                have p353 : 0 ≤ (x22_7 : Int) := Kp.d
                have q353 : x22_7 < (t299.length : Int) := Kp.d
                obtain ⟨ad353, e353, hx353_0⟩ := Kd.at_int (Kd.R_reads' HO_4.out).2.2 x22_7 p353 q353
                cases e353
                replace p353 := eq_true p353
                replace q353 := eq_true q353
                obtain ⟨Ao134, co134, eo134⟩ := Kd.R_slice HO_19.out
                subst eo134
                have p354 : 0 ≤ (x22_7 : Int) := Kp.d
                have q354 : x22_7 < (x19_4.length : Int) := Kp.d
                obtain ⟨ad354, e354, hx354_0⟩ := Kd.at_bool (Kd.R_reads' HO_19.out).2.2 x22_7 p354 q354
                (try rw [← Nbq132.out] at hx354_0)
                cases e354
                replace p354 := eq_true p354
                replace q354 := eq_true q354
                go_wp2
                repeat (go_quiet (fail); try go_wp2)
                go_roundg k7
                case measure => have := HJ5.out; have := HK2.out; have := HJ75.out; have := HK4.out; have := HK5.out; have := HJ112.out; have := HK7.out; omega
                case rel => exact ⟨(wrap64 (x22_7 + 1)), (by first | rfl | (simp; done) | (simp [*]; done)), H', ⟨by have := HJ5.out; have := HK2.out; have := HJ75.out; have := HK4.out; have := HK5.out; have := HJ112.out; have := HK7.out; omega⟩, ⟨Kp.kpR HO_3.out⟩, ⟨Kp.kpR HO_4.out⟩, ⟨Kp.kpR HO_16.out⟩, ⟨Kp.kpR HO_19.out⟩, ⟨Kp.kpL HB.out⟩⟩
               replace c133 := Bool.eq_false_iff.mpr c133
               subst c133
               have H1 : (some false) = some r := by rw [if_neg (show ¬ (false = true) by decide)] at H; exact H
               clear H
               have H := H1
               clear H1
               obtain rfl := Option.some.inj H
               have p351 : 0 ≤ (x21_5 : Int) := Kp.d
               have q351 : x21_5 < (t329.length : Int) := Kp.d
               obtain ⟨ad351, e351, hx351_0⟩ := Kd.at_int (Kd.R_reads' HO_16.out).2.2 x21_5 p351 q351
               cases e351
               replace p351 := eq_true p351
               replace q351 := eq_true q351
               have p352 : 0 ≤ ((rd t329 x21_5) : Int) := Kp.d
               have q352 : (rd t329 x21_5) < (t298.length : Int) := Kp.d
               obtain ⟨ad352, e352, hx352_0⟩ := Kd.at_int (Kd.R_reads' HO_3.out).2.2 (rd t329 x21_5) p352 q352
               cases e352
               replace p352 := eq_true p352
               replace q352 := eq_true q352
               have p353 : 0 ≤ (x22_7 : Int) := Kp.d
               have q353 : x22_7 < (t299.length : Int) := Kp.d
               obtain ⟨ad353, e353, hx353_0⟩ := Kd.at_int (Kd.R_reads' HO_4.out).2.2 x22_7 p353 q353
               cases e353
               replace p353 := eq_true p353
               replace q353 := eq_true q353
               obtain ⟨Ao135, co135, eo135⟩ := Kd.R_slice HO_19.out
               subst eo135
               have p354 : 0 ≤ (x22_7 : Int) := Kp.d
               have q354 : x22_7 < (x19_4.length : Int) := Kp.d
               obtain ⟨ad354, e354, hx354_0⟩ := Kd.at_bool (Kd.R_reads' HO_19.out).2.2 x22_7 p354 q354
               (try rw [← Nbq132.out] at hx354_0)
               cases e354
               replace p354 := eq_true p354
               replace q354 := eq_true q354
               go_wp2
               repeat (go_quiet (fail); try go_wp2)
               go_ret
               exact ⟨by first | rfl | (simp [errW_none, errW_some] <;> rfl) | (simp [*, errW_none, errW_some] <;> rfl), Kp.kpL HB.out⟩
def laws_FnFits.Pure : Prop := ∀ (l0 : List Int), l0.length ≤ maxLen → l0.length * 1 ≤ 140737488351232 → (∀ x ∈ l0, (Lit.int .u8 x).wf = true) → ∃ k, laws_FnFits.f k l0 = some true
theorem laws_FnFits.walk (P : laws_FnFits.Pure) (a0 : Option Addr) (len0 cap0 : Nat) (z0 : List Int) (w : World) (w0 : (a0 = none ∧ len0 = 0 ∧ cap0 = 0 ∧ z0 = []) ∨ ∃ x, a0 = some x ∧ len0 ≤ cap0 ∧ cap0 ≤ maxLen ∧ z0.length = cap0 ∧ (∀ i, i < z0.length → w.cell? (x.add i) = some (.int .u8 (z0.getD i 0))) ∧ ∀ n ∈ z0, (Lit.int .u8 n).wf = true) (y0 : len0 * 1 ≤ 140737488351232) :
  Calls Try.prog 4 #[.slice a0 len0 cap0] w fun e w' => e = .returned (.bool true) ∧ Below w.heap.size w w' := by
 obtain ⟨l0, rfl, hr0, hm0, hw0, hc0⟩ := ReadsInt.ofRowC w0
 obtain ⟨k, h⟩ := P l0 hm0 y0 hw0
 refine (laws_FnFits.calls k _ _ l0 true w (Kd.C_of_reads (d := (0 : Int)) (h1 := fun _ => rfl) hr0) hc0 h).mono ?_
 rintro e w' ⟨rfl, hd⟩
 exact ⟨rfl, hd⟩
end Go.Proofs.Ytkijhilmgljegaa.PT


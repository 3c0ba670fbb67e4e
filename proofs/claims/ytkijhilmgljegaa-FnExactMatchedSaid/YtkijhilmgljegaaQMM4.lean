import Derived.Test.YtkijhilmgljegaaQMM0
import Derived.Test.YtkijhilmgljegaaVMk
import Derived.Test.YtkijhilmgljegaaQMM3
namespace Go.Proofs.Ytkijhilmgljegaa.PM
open Go.RowKit Go.Proofs.YtkijhilmgljegaaW.PrintWords Go.Proofs.YtkijhilmgljegaaW.PrintLast Go.Proofs.YtkijhilmgljegaaW.PrintMore
attribute [local go_sem] max2_int min2_int max_two min_two max_three min_three max_four min_four
set_option linter.unusedVariables false
set_option linter.unusedSimpArgs false
mutual
def impl_Matched.l0 : Nat → List Int → List Int → Int → Int → List Bool → List (S37) → List Int → List Int → Int → Int → Option ((List (S37)) × Int)
 | 0, _, _, _, _, _, _, _, _, _, _ => none
 | k + 1, x0, x1, x2, x3, x11, x12, x13, x33, x34, x35 => if x35 < x34 then (if 0 ≤ x35 then (if x35 < (x33.length : Int) then (impl_Matched.l1 k x0 x1 x2 x3 x11 x12 x13 (rd x33 x35) x33 x34 x35 x13 (x13.length : Int) 0) else (none)) else (none)) else (some (x12, 0))
def impl_Matched.l1 : Nat → List Int → List Int → Int → Int → List Bool → List (S37) → List Int → Int → List Int → Int → Int → List Int → Int → Int → Option ((List (S37)) × Int)
 | 0, _, _, _, _, _, _, _, _, _, _, _, _, _, _ => none
 | k + 1, x0, x1, x2, x3, x11, x12, x13, x15, x33, x34, x35, x39, x40, x41 => if x41 < x40 then (if 0 ≤ x41 then (if x41 < (x39.length : Int) then (if 0 ≤ x15 then (if x15 < (x0.length : Int) then (if 0 ≤ (rd x39 x41) then (if (rd x39 x41) < (x1.length : Int) then (if (rd x39 x41) < (x11.length : Int) then (if (rdOf false x11 (rd x39 x41) = true) then (impl_Matched.l1 k x0 x1 x2 x3 x11 x12 x13 x15 x33 x34 x35 x39 x40 (wrap64 (x41 + 1))) else (if (wrap64 ((rd x0 x15) - (rd x1 (rd x39 x41)))) ≥ x2 then (if (wrap64 ((rd x0 x15) - (rd x1 (rd x39 x41)))) ≤ x3 then (if x12.length < 8796093022208 then (impl_Matched.l0 k x0 x1 x2 x3 (x11.set ((rd x39 x41) : Int).toNat true) (x12 ++ [(⟨x15, rd x39 x41⟩ : S37)]) x13 x33 x34 (wrap64 (x35 + 1))) else (none)) else (impl_Matched.l1 k x0 x1 x2 x3 x11 x12 x13 x15 x33 x34 x35 x39 x40 (wrap64 (x41 + 1)))) else (impl_Matched.l1 k x0 x1 x2 x3 x11 x12 x13 x15 x33 x34 x35 x39 x40 (wrap64 (x41 + 1))))) else (none)) else (none)) else (none)) else (none)) else (none)) else (none)) else (none)) else (impl_Matched.l0 k x0 x1 x2 x3 x11 x12 x13 x33 x34 (wrap64 (x35 + 1)))
end
def impl_Matched.f (k : Nat) (l0 : List Int) (l1 : List Int) (a2 : Int) (a3 : Int) : Option ((List (S37)) × Int) := (impl_matesCode.f k l0 l1 a2 a3).bind fun t190 => (if t190 = 0 then (if 0 ≤ (l1.length : Int) then (if ((l1.length : Int) : Int).toNat ≤ 281474976710656 then ((impl_bySize.f l1).bind fun t194 => ((impl_bySize.f l0).bind fun t197 => (impl_Matched.l0 k l0 l1 a2 a3 (List.replicate ((l1.length : Int) : Int).toNat false) ([] : List (S37)) t194 t197 (t197.length : Int) 0))) else (none)) else (none)) else (some (([] : List (S37)), t190)))
set_option maxHeartbeats 8000000 in
set_option maxRecDepth 100000 in
theorem impl_Matched.calls (k : Nat) (A0 : Option Addr) (c0 : Nat) (l0 : List Int) (A1 : Option Addr) (c1 : Nat) (l1 : List Int) (a2 : Int) (a3 : Int) (r1 : List (S37)) (r2 : Int) (w : World) (hr0 : Kd.C (Kd.int .i64) w A0 l0.length l0) (hc0 : l0.length ≤ c0) (hr1 : Kd.C (Kd.int .i64) w A1 l1.length l1) (hc1 : l1.length ≤ c1) (h : impl_Matched.f k l0 l1 a2 a3 = some (r1, r2)) :
  Calls Try.prog 8 #[.slice A0 l0.length c0, .slice A1 l1.length c1, .int .i64 a2, .int .i64 a3] w fun e w' => ∃ v0_ : Value, e = .returned (.tuple #[v0_, .int .i64 r2]) ∧ Kd.R k37 37 w' w.heap.size (fun _ => True) v0_ r1 ∧ Below w.heap.size w w' := by
 have hu37 := Try.underlying37
 have HR0 := Kp.a hr0
 have HC0 := Kp.a hc0
 clear hr0 hc0
 have HR1 := Kp.a hr1
 have HC1 := Kp.a hc1
 clear hr1 hc1
 have HB := Kp.a (Below.refl w.heap.size w)
 have H : ((impl_matesCode.f k l0 l1 a2 a3).bind fun t190 => (if t190 = 0 then (if 0 ≤ (l1.length : Int) then (if ((l1.length : Int) : Int).toNat ≤ 281474976710656 then ((impl_bySize.f l1).bind fun t194 => ((impl_bySize.f l0).bind fun t197 => (impl_Matched.l0 k l0 l1 a2 a3 (List.replicate ((l1.length : Int) : Int).toNat false) ([] : List (S37)) t194 t197 (t197.length : Int) 0))) else (none)) else (none)) else (some (([] : List (S37)), t190)))) = some (r1, r2) := h
 clear h
 replace H := Option.bind_eq_some_iff.mp H
 obtain ⟨t190, A50, H⟩ := H
 replace H : (if t190 = 0 then (if 0 ≤ (l1.length : Int) then (if ((l1.length : Int) : Int).toNat ≤ 281474976710656 then ((impl_bySize.f l1).bind fun t194 => ((impl_bySize.f l0).bind fun t197 => (impl_Matched.l0 k l0 l1 a2 a3 (List.replicate ((l1.length : Int) : Int).toNat false) ([] : List (S37)) t194 t197 (t197.length : Int) 0))) else (none)) else (none)) else (some (([] : List (S37)), t190))) = some (r1, r2) := H
 have A5 := Kp.a A50
 clear A50
 by_cases c6 : t190 = 0
 rotate_left
 ·rw [if_neg c6] at H
  have c6b0 : (t190 == 0) = false := beq_eq_false_iff_ne.mpr c6
  have c6b1 : (t190 != 0) = true := bne_iff_ne.mpr c6
  simp only [Option.some.injEq, Prod.mk.injEq] at H
  obtain ⟨rfl, rfl⟩ := H
  go_enter Try.func8, Try.ntmps8
  go_wp2_with (first | (go_at_call 20; (with_reducible refine (impl_matesCode.calls k _ _ l0 _ _ l1 a2 a3 t190 _ ?side1 ?side2 ?side3 ?side4 A5.out).mono ?_); (case side1 => repeat (first | exact HR0.out | (with_reducible refine Kd.C_alloc ?_ _) | (with_reducible refine Kd.C_drewN ?_ _) | (with_reducible refine Kd.C_drew ?_))); (case side2 => exact HC0.out); (case side3 => repeat (first | exact HR1.out | (with_reducible refine Kd.C_alloc ?_ _) | (with_reducible refine Kd.C_drewN ?_ _) | (with_reducible refine Kd.C_drew ?_))); (case side4 => exact HC1.out); rintro e w42 ⟨rfl, hb⟩; have n0_ := Kp.a (below_step (Kp.kpL HB.out) hb); clear HB; have HB := n0_; clear n0_; (try clear hb); (try clear hb2); (try clear hk); (try clear hi)))
  repeat (go_quiet (first | (go_at_call 20; (with_reducible refine (impl_matesCode.calls k _ _ l0 _ _ l1 a2 a3 t190 _ ?side1 ?side2 ?side3 ?side4 A5.out).mono ?_); (case side1 => repeat (first | exact HR0.out | (with_reducible refine Kd.C_alloc ?_ _) | (with_reducible refine Kd.C_drewN ?_ _) | (with_reducible refine Kd.C_drew ?_))); (case side2 => exact HC0.out); (case side3 => repeat (first | exact HR1.out | (with_reducible refine Kd.C_alloc ?_ _) | (with_reducible refine Kd.C_drewN ?_ _) | (with_reducible refine Kd.C_drew ?_))); (case side4 => exact HC1.out); rintro e w42 ⟨rfl, hb⟩; have n0_ := Kp.a (below_step (Kp.kpL HB.out) hb); clear HB; have HB := n0_; clear n0_; (try clear hb); (try clear hb2); (try clear hk); (try clear hi))); try go_wp2_with (first | (go_at_call 20; (with_reducible refine (impl_matesCode.calls k _ _ l0 _ _ l1 a2 a3 t190 _ ?side1 ?side2 ?side3 ?side4 A5.out).mono ?_); (case side1 => repeat (first | exact HR0.out | (with_reducible refine Kd.C_alloc ?_ _) | (with_reducible refine Kd.C_drewN ?_ _) | (with_reducible refine Kd.C_drew ?_))); (case side2 => exact HC0.out); (case side3 => repeat (first | exact HR1.out | (with_reducible refine Kd.C_alloc ?_ _) | (with_reducible refine Kd.C_drewN ?_ _) | (with_reducible refine Kd.C_drew ?_))); (case side4 => exact HC1.out); rintro e w42 ⟨rfl, hb⟩; have n0_ := Kp.a (below_step (Kp.kpL HB.out) hb); clear HB; have HB := n0_; clear n0_; (try clear hb); (try clear hb2); (try clear hk); (try clear hi))))
  go_ret2
  exact ⟨_, by first | rfl | (simp [errW_none, errW_some] <;> rfl) | (simp [*, errW_none, errW_some] <;> rfl), by first | exact Kd.R_nil _ _ _ _ _ | exact Kd.N_nil _ _ _ _ _ | exact Kd.V_nil _ _ _ _ _ | exact Kd.Q_nil _ _ _ _ _ | exact Kd.S_nil _ _ _ _ _, Kp.kpL HB.out⟩
 rw [if_pos c6] at H
 have c6b0 : (t190 == 0) = true := beq_iff_eq.mpr c6
 have c6b1 : (t190 != 0) = false := bne_eq_false_iff_eq.mpr c6
 clear c6
 by_cases c7 : 0 ≤ (l1.length : Int)
 rotate_left
 ·rw [if_neg c7] at H
  exact absurd H (by simp)
 rw [if_pos c7] at H
 have c7b0 := eq_true c7
 have c7b1 : decide (0 ≤ (l1.length : Int)) = true := decide_eq_true c7
 clear c7
 by_cases c8 : ((l1.length : Int) : Int).toNat ≤ 281474976710656
 rotate_left
 ·rw [if_neg c8] at H
  exact absurd H (by simp)
 rw [if_pos c8] at H
 have c8b0 := eq_true c8
 have c8b1 : decide (((l1.length : Int) : Int).toNat ≤ 281474976710656) = true := decide_eq_true c8
 clear c8
 obtain ⟨y191, hy191⟩ : ∃ y_ : List Bool, y_ = (List.replicate ((l1.length : Int) : Int).toNat false) := ⟨_, rfl⟩
 replace H : ((impl_bySize.f l1).bind fun t194 => ((impl_bySize.f l0).bind fun t197 => (impl_Matched.l0 k l0 l1 a2 a3 y191 ([] : List (S37)) t194 t197 (t197.length : Int) 0))) = some (r1, r2) := by first | (rw [hy191]; with_reducible exact H) | (have H2_ := (Option.bind_some _ _).symm.trans H; rw [hy191]; with_reducible exact H2_) | (have H2_ := (Option.bind_some _ _).symm.trans H; with_reducible exact H2_) | with_reducible exact H | (rw [hy191]; exact H) | exact H
 have Ny191 := Kp.a hy191
 clear hy191
 replace H := Option.bind_eq_some_iff.mp H
 obtain ⟨t194, A90, H⟩ := H
 replace H : ((impl_bySize.f l0).bind fun t197 => (impl_Matched.l0 k l0 l1 a2 a3 y191 ([] : List (S37)) t194 t197 (t197.length : Int) 0)) = some (r1, r2) := H
 have A9 := Kp.a A90
 clear A90
 replace H := Option.bind_eq_some_iff.mp H
 obtain ⟨t197, A100, H⟩ := H
 replace H : (impl_Matched.l0 k l0 l1 a2 a3 y191 ([] : List (S37)) t194 t197 (t197.length : Int) 0) = some (r1, r2) := H
 have A10 := Kp.a A100
 clear A100
 have H' := Kp.a H
 clear H
 go_enter Try.func8, Try.ntmps8
 go_wp2_with (first | (go_at_call 20; (with_reducible refine (impl_matesCode.calls k _ _ l0 _ _ l1 a2 a3 t190 _ ?side1 ?side2 ?side3 ?side4 A5.out).mono ?_); (case side1 => repeat (first | exact HR0.out | (with_reducible refine Kd.C_alloc ?_ _) | (with_reducible refine Kd.C_drewN ?_ _) | (with_reducible refine Kd.C_drew ?_))); (case side2 => exact HC0.out); (case side3 => repeat (first | exact HR1.out | (with_reducible refine Kd.C_alloc ?_ _) | (with_reducible refine Kd.C_drewN ?_ _) | (with_reducible refine Kd.C_drew ?_))); (case side4 => exact HC1.out); rintro e w11 ⟨rfl, hb⟩; have n0_ := Kp.a (below_step (Kp.kpL HB.out) hb); clear HB; have HB := n0_; clear n0_; (try clear hb); (try clear hb2); (try clear hk); (try clear hi)) | ((with_reducible refine gate_dst (N := 29) rfl ?_); refine Kd.R_make Kd.bool _ 4 rfl (N := 29) rfl 35 _ _ rfl (l1.length : Int) rfl rfl Try.underlying35 (.bool false) 1 info4 rfl (by decide) (by omega) false (ok := fun _ => True) (okp := fun _ => True) rfl (fun _ hk => hk) trivial (Kp.d) (Nat.le_trans (Nat.mul_le_mul_right _ (Kp.d : (l1.length : Int).toNat ≤ 281474976710656)) (by omega)) (Below.refl _ _) (Nat.le_refl _) ?_; intro v192 w12 ho13 hb hg_ hnew_; clear hg_ hnew_; (first | rw [← Ny191.out] at ho13 | (simp only [Int.reduceToNat] at ho13; rw [← Ny191.out] at ho13)); have n0_ := Kp.a (Kd.R_lower ho13 (below_size (Kp.kpL HB.out))); have n1_ := Kp.a (below_step (Kp.kpL HB.out) hb); clear HB; have HO193 := n0_; have HB := n1_; clear n0_ n1_; clear hb ho13) | (go_at_call 21; (with_reducible refine (impl_bySize.calls _ _ l1 t194 _ ?side1 ?side2 A9.out).mono ?_); (case side1 => repeat (first | exact (Kd.C_below HR1.out HB.out) | (with_reducible refine Kd.C_alloc ?_ _) | (with_reducible refine Kd.C_drewN ?_ _) | (with_reducible refine Kd.C_drew ?_))); (case side2 => exact HC1.out); rintro e w14 ⟨v195, rfl, ho0, hb⟩; have n0_ := Kp.a (Kd.R_below (Kp.kpR HO193.out) hb); have n1_ := Kp.a (Kd.R_lower ho0 (below_size (Kp.kpL HB.out))); have n2_ := Kp.a (below_step (Kp.kpL HB.out) hb); clear HO193; clear HB; have HO193 := n0_; have HO196 := n1_; have HB := n2_; clear n0_ n1_ n2_; (try clear hb); (try clear hb2); (try clear hk); (try clear hi); (try clear ho0)) | (go_at_call 21; (with_reducible refine (impl_bySize.calls _ _ l0 t197 _ ?side1 ?side2 A10.out).mono ?_); (case side1 => repeat (first | exact (Kd.C_below HR0.out HB.out) | (with_reducible refine Kd.C_alloc ?_ _) | (with_reducible refine Kd.C_drewN ?_ _) | (with_reducible refine Kd.C_drew ?_))); (case side2 => exact HC0.out); rintro e w15 ⟨v198, rfl, ho0, hb⟩; have n0_ := Kp.a (Kd.R_below (Kp.kpR HO193.out) hb); have n1_ := Kp.a (Kd.R_elder' (Kp.kpR HO196.out) (Kd.R_base ho0) hb); have n2_ := Kp.a (Kd.R_lower (Kd.R_new' ho0 (Kd.R_lt (Kp.kpR HO196.out))) (below_size (Kp.kpL HB.out))); have n3_ := Kp.a (below_step (Kp.kpL HB.out) hb); clear HO193; clear HO196; clear HB; have HO193 := n0_; have HO196 := n1_; have HO199 := n2_; have HB := n3_; clear n0_ n1_ n2_ n3_; (try clear hb); (try clear hb2); (try clear hk); (try clear hi); (try clear ho0); obtain ⟨Ao16, co16, eo16⟩ := Kd.R_slice HO199.out; subst eo16))
 repeat (go_quiet (first | (go_at_call 20; (with_reducible refine (impl_matesCode.calls k _ _ l0 _ _ l1 a2 a3 t190 _ ?side1 ?side2 ?side3 ?side4 A5.out).mono ?_); (case side1 => repeat (first | exact HR0.out | (with_reducible refine Kd.C_alloc ?_ _) | (with_reducible refine Kd.C_drewN ?_ _) | (with_reducible refine Kd.C_drew ?_))); (case side2 => exact HC0.out); (case side3 => repeat (first | exact HR1.out | (with_reducible refine Kd.C_alloc ?_ _) | (with_reducible refine Kd.C_drewN ?_ _) | (with_reducible refine Kd.C_drew ?_))); (case side4 => exact HC1.out); rintro e w11 ⟨rfl, hb⟩; have n0_ := Kp.a (below_step (Kp.kpL HB.out) hb); clear HB; have HB := n0_; clear n0_; (try clear hb); (try clear hb2); (try clear hk); (try clear hi)) | ((with_reducible refine gate_dst (N := 29) rfl ?_); refine Kd.R_make Kd.bool _ 4 rfl (N := 29) rfl 35 _ _ rfl (l1.length : Int) rfl rfl Try.underlying35 (.bool false) 1 info4 rfl (by decide) (by omega) false (ok := fun _ => True) (okp := fun _ => True) rfl (fun _ hk => hk) trivial (Kp.d) (Nat.le_trans (Nat.mul_le_mul_right _ (Kp.d : (l1.length : Int).toNat ≤ 281474976710656)) (by omega)) (Below.refl _ _) (Nat.le_refl _) ?_; intro v192 w12 ho13 hb hg_ hnew_; clear hg_ hnew_; (first | rw [← Ny191.out] at ho13 | (simp only [Int.reduceToNat] at ho13; rw [← Ny191.out] at ho13)); have n0_ := Kp.a (Kd.R_lower ho13 (below_size (Kp.kpL HB.out))); have n1_ := Kp.a (below_step (Kp.kpL HB.out) hb); clear HB; have HO193 := n0_; have HB := n1_; clear n0_ n1_; clear hb ho13) | (go_at_call 21; (with_reducible refine (impl_bySize.calls _ _ l1 t194 _ ?side1 ?side2 A9.out).mono ?_); (case side1 => repeat (first | exact (Kd.C_below HR1.out HB.out) | (with_reducible refine Kd.C_alloc ?_ _) | (with_reducible refine Kd.C_drewN ?_ _) | (with_reducible refine Kd.C_drew ?_))); (case side2 => exact HC1.out); rintro e w14 ⟨v195, rfl, ho0, hb⟩; have n0_ := Kp.a (Kd.R_below (Kp.kpR HO193.out) hb); have n1_ := Kp.a (Kd.R_lower ho0 (below_size (Kp.kpL HB.out))); have n2_ := Kp.a (below_step (Kp.kpL HB.out) hb); clear HO193; clear HB; have HO193 := n0_; have HO196 := n1_; have HB := n2_; clear n0_ n1_ n2_; (try clear hb); (try clear hb2); (try clear hk); (try clear hi); (try clear ho0)) | (go_at_call 21; (with_reducible refine (impl_bySize.calls _ _ l0 t197 _ ?side1 ?side2 A10.out).mono ?_); (case side1 => repeat (first | exact (Kd.C_below HR0.out HB.out) | (with_reducible refine Kd.C_alloc ?_ _) | (with_reducible refine Kd.C_drewN ?_ _) | (with_reducible refine Kd.C_drew ?_))); (case side2 => exact HC0.out); rintro e w15 ⟨v198, rfl, ho0, hb⟩; have n0_ := Kp.a (Kd.R_below (Kp.kpR HO193.out) hb); have n1_ := Kp.a (Kd.R_elder' (Kp.kpR HO196.out) (Kd.R_base ho0) hb); have n2_ := Kp.a (Kd.R_lower (Kd.R_new' ho0 (Kd.R_lt (Kp.kpR HO196.out))) (below_size (Kp.kpL HB.out))); have n3_ := Kp.a (below_step (Kp.kpL HB.out) hb); clear HO193; clear HO196; clear HB; have HO193 := n0_; have HO196 := n1_; have HO199 := n2_; have HB := n3_; clear n0_ n1_ n2_ n3_; (try clear hb); (try clear hb2); (try clear hk); (try clear hi); (try clear ho0); obtain ⟨Ao16, co16, eo16⟩ := Kd.R_slice HO199.out; subst eo16)); try go_wp2_with (first | (go_at_call 20; (with_reducible refine (impl_matesCode.calls k _ _ l0 _ _ l1 a2 a3 t190 _ ?side1 ?side2 ?side3 ?side4 A5.out).mono ?_); (case side1 => repeat (first | exact HR0.out | (with_reducible refine Kd.C_alloc ?_ _) | (with_reducible refine Kd.C_drewN ?_ _) | (with_reducible refine Kd.C_drew ?_))); (case side2 => exact HC0.out); (case side3 => repeat (first | exact HR1.out | (with_reducible refine Kd.C_alloc ?_ _) | (with_reducible refine Kd.C_drewN ?_ _) | (with_reducible refine Kd.C_drew ?_))); (case side4 => exact HC1.out); rintro e w11 ⟨rfl, hb⟩; have n0_ := Kp.a (below_step (Kp.kpL HB.out) hb); clear HB; have HB := n0_; clear n0_; (try clear hb); (try clear hb2); (try clear hk); (try clear hi)) | ((with_reducible refine gate_dst (N := 29) rfl ?_); refine Kd.R_make Kd.bool _ 4 rfl (N := 29) rfl 35 _ _ rfl (l1.length : Int) rfl rfl Try.underlying35 (.bool false) 1 info4 rfl (by decide) (by omega) false (ok := fun _ => True) (okp := fun _ => True) rfl (fun _ hk => hk) trivial (Kp.d) (Nat.le_trans (Nat.mul_le_mul_right _ (Kp.d : (l1.length : Int).toNat ≤ 281474976710656)) (by omega)) (Below.refl _ _) (Nat.le_refl _) ?_; intro v192 w12 ho13 hb hg_ hnew_; clear hg_ hnew_; (first | rw [← Ny191.out] at ho13 | (simp only [Int.reduceToNat] at ho13; rw [← Ny191.out] at ho13)); have n0_ := Kp.a (Kd.R_lower ho13 (below_size (Kp.kpL HB.out))); have n1_ := Kp.a (below_step (Kp.kpL HB.out) hb); clear HB; have HO193 := n0_; have HB := n1_; clear n0_ n1_; clear hb ho13) | (go_at_call 21; (with_reducible refine (impl_bySize.calls _ _ l1 t194 _ ?side1 ?side2 A9.out).mono ?_); (case side1 => repeat (first | exact (Kd.C_below HR1.out HB.out) | (with_reducible refine Kd.C_alloc ?_ _) | (with_reducible refine Kd.C_drewN ?_ _) | (with_reducible refine Kd.C_drew ?_))); (case side2 => exact HC1.out); rintro e w14 ⟨v195, rfl, ho0, hb⟩; have n0_ := Kp.a (Kd.R_below (Kp.kpR HO193.out) hb); have n1_ := Kp.a (Kd.R_lower ho0 (below_size (Kp.kpL HB.out))); have n2_ := Kp.a (below_step (Kp.kpL HB.out) hb); clear HO193; clear HB; have HO193 := n0_; have HO196 := n1_; have HB := n2_; clear n0_ n1_ n2_; (try clear hb); (try clear hb2); (try clear hk); (try clear hi); (try clear ho0)) | (go_at_call 21; (with_reducible refine (impl_bySize.calls _ _ l0 t197 _ ?side1 ?side2 A10.out).mono ?_); (case side1 => repeat (first | exact (Kd.C_below HR0.out HB.out) | (with_reducible refine Kd.C_alloc ?_ _) | (with_reducible refine Kd.C_drewN ?_ _) | (with_reducible refine Kd.C_drew ?_))); (case side2 => exact HC0.out); rintro e w15 ⟨v198, rfl, ho0, hb⟩; have n0_ := Kp.a (Kd.R_below (Kp.kpR HO193.out) hb); have n1_ := Kp.a (Kd.R_elder' (Kp.kpR HO196.out) (Kd.R_base ho0) hb); have n2_ := Kp.a (Kd.R_lower (Kd.R_new' ho0 (Kd.R_lt (Kp.kpR HO196.out))) (below_size (Kp.kpL HB.out))); have n3_ := Kp.a (below_step (Kp.kpL HB.out) hb); clear HO193; clear HO196; clear HB; have HO193 := n0_; have HO196 := n1_; have HO199 := n2_; have HB := n3_; clear n0_ n1_ n2_ n3_; (try clear hb); (try clear hb2); (try clear hk); (try clear hi); (try clear ho0); obtain ⟨Ao16, co16, eo16⟩ := Kd.R_slice HO199.out; subst eo16)))
 go_loopg [12, 35] k (fun kq v12 v35 w' => ∃ (x11_1 : List Bool) (x12_1 : List (S37)) (x35_1 : Int), v35 = .int .i64 x35_1 ∧ Aside0 (impl_Matched.l0 kq l0 l1 a2 a3 x11_1 x12_1 t194 t197 (t197.length : Int) x35_1 = some (r1, r2)) ∧ Aside0 (kq ≤ k) ∧ Aside0 (Kd.R Kd.bool 4 w' w.heap.size (fun _ => True) v192 x11_1) ∧ Aside0 (Kd.R k37 37 w' w.heap.size (fun _ => True) v12 x12_1) ∧ Aside0 (Kd.R (Kd.int .i64) 3 w' w.heap.size (fun k_ => some k_ ≠ ((.slice Ao16 t197.length co16) : Value).ownBlock) v195 t194) ∧ Aside0 (Kd.R (Kd.int .i64) 3 w' w.heap.size (fun k_ => some k_ ≠ (v195 : Value).ownBlock) (.slice Ao16 t197.length co16) t197) ∧ Aside0 (Below w.heap.size w w'))
 case atStart => exact ⟨(y191), (([] : List (S37))), (0), (by first | rfl | (simp; done) | (simp [*]; done)), H', ⟨Nat.le_refl _⟩, ⟨Kp.kpR HO193.out⟩, ⟨by first | exact Kd.R_nil _ _ _ _ _ | exact Kd.N_nil _ _ _ _ _ | exact Kd.V_nil _ _ _ _ _ | exact Kd.Q_nil _ _ _ _ _ | exact Kd.S_nil _ _ _ _ _⟩, ⟨Kp.kpR (Kd.R_mono HO196.out (fun _ hk => hk.2))⟩, ⟨Kp.kpR (Kd.R_mono HO199.out (fun _ hk => hk.2))⟩, ⟨Kp.kpL HB.out⟩⟩
 clear H'
 try clear c1
 try clear p2
 try clear c6
 try clear c6b0
 try clear c6b1
 try clear c7
 try clear c7b0
 try clear c7b1
 try clear c8
 try clear c8b0
 try clear c8b1
 obtain ⟨x11_1, x12_1, x35_1, rfl, HA, HK1, HO_11, HO_12, HO_13, HO_33, HB⟩ := hrel
 cases gk with
 | zero => exact absurd HA.out (by simp [impl_Matched.l0])
 | succ k1 =>
  have H := HA.out
  clear HA
  simp only [impl_Matched.l0] at H
  by_cases c17 : x35_1 < (t197.length : Int)
  rotate_left
  ·rw [if_neg c17] at H
   have c17b0 : decide (x35_1 < (t197.length : Int)) = false := decide_eq_false c17
   clear c17
   simp only [Option.some.injEq, Prod.mk.injEq] at H
   obtain ⟨rfl, rfl⟩ := H
   go_wp2
   repeat (go_quiet (fail); try go_wp2)
   go_ret2
   exact ⟨_, by first | rfl | (simp [errW_none, errW_some] <;> rfl) | (simp [*, errW_none, errW_some] <;> rfl), Kp.kpR HO_12.out, Kp.kpL HB.out⟩
  rw [if_pos c17] at H
  have c17b0 : decide (x35_1 < (t197.length : Int)) = true := decide_eq_true c17
  clear c17
  by_cases c18 : 0 ≤ x35_1
  rotate_left
  ·rw [if_neg c18] at H
   exact absurd H (by simp)
  rw [if_pos c18] at H
  have c18b0 : decide (0 ≤ x35_1) = true := decide_eq_true c18
  clear c18
  by_cases c19 : x35_1 < (t197.length : Int)
  rotate_left
  ·rw [if_neg c19] at H
   exact absurd H (by simp)
  rw [if_pos c19] at H
  have c19b0 : decide (x35_1 < (t197.length : Int)) = true := decide_eq_true c19
  clear c19
  have H' := Kp.a H
  clear H
  have p200 : 0 ≤ (x35_1 : Int) := Kp.d
  have q200 : x35_1 < (t197.length : Int) := Kp.d
  obtain ⟨ad200, e200, hx200_0⟩ := Kd.at_int (Kd.R_reads' HO_33.out).2.2 x35_1 p200 q200
  cases e200
  replace p200 := eq_true p200
  replace q200 := eq_true q200
  obtain ⟨Ao20, co20, eo20⟩ := Kd.R_slice HO_13.out
  subst eo20
  go_wp2
  repeat (go_quiet (fail); try go_wp2)
  go_loopg [12, 41] k1 (fun kq v12 v41 w' => ∃ (x11_2 : List Bool) (x12_2 : List (S37)) (x41_2 : Int), v41 = .int .i64 x41_2 ∧ Aside0 (impl_Matched.l1 kq l0 l1 a2 a3 x11_2 x12_2 t194 (rd t197 x35_1) t197 (t197.length : Int) x35_1 t194 (t194.length : Int) x41_2 = some (r1, r2)) ∧ Aside0 (kq ≤ k1) ∧ Aside0 (Kd.R Kd.bool 4 w' w.heap.size (fun _ => True) v192 x11_2) ∧ Aside0 (Kd.R k37 37 w' w.heap.size (fun _ => True) v12 x12_2) ∧ Aside0 (Kd.R (Kd.int .i64) 3 w' w.heap.size (fun k_ => some k_ ≠ ((.slice (some ad200) t197.length co16) : Value).ownBlock) (.slice Ao20 t194.length co20) t194) ∧ Aside0 (Kd.R (Kd.int .i64) 3 w' w.heap.size (fun k_ => some k_ ≠ ((.slice Ao20 t194.length co20) : Value).ownBlock ∧ some k_ ≠ ((.slice Ao20 t194.length co20) : Value).ownBlock) (.slice (some ad200) t197.length co16) t197) ∧ Aside0 (Kd.R (Kd.int .i64) 3 w' w.heap.size (fun k_ => some k_ ≠ ((.slice (some ad200) t197.length co16) : Value).ownBlock) (.slice Ao20 t194.length co20) t194) ∧ Aside0 (Below w.heap.size w w'))
  case atStart => exact ⟨(x11_1), (x12_1), (0), (by first | rfl | (simp; done) | (simp [*]; done)), H', ⟨Nat.le_refl _⟩, ⟨Kp.kpR HO_11.out⟩, ⟨Kp.kpR HO_12.out⟩, ⟨Kp.kpR HO_13.out⟩, ⟨Kp.kpR (Kd.R_mono HO_33.out (fun _ hk => ⟨hk, hk⟩))⟩, ⟨Kp.kpR HO_13.out⟩, ⟨Kp.kpL HB.out⟩⟩
  clear H'
  try clear c1
  try clear p2
  try clear q2
  try clear hx2
  try clear c6
  try clear c6b0
  try clear c6b1
  try clear c7
  try clear c7b0
  try clear c7b1
  try clear c8
  try clear c8b0
  try clear c8b1
  try clear c17
  try clear c17b0
  try clear c18
  try clear c18b0
  try clear c19
  try clear c19b0
  try clear p20
  try clear q20
  try clear hx20
  try clear hx200_0
  try clear p2
  try clear p200
  try clear q200
  obtain ⟨x11_2, x12_2, x41_2, rfl, HA, HK2, HO_11, HO_12, HO_13, HO_33, HO_39, HB⟩ := hrel
  cases gk with
  | zero => exact absurd HA.out (by simp [impl_Matched.l1])
  | succ k2 =>
   have H := HA.out
   clear HA
   simp only [impl_Matched.l1] at H
   by_cases c21 : x41_2 < (t194.length : Int)
   rotate_left
   ·rw [if_neg c21] at H
    have c21b0 : decide (x41_2 < (t194.length : Int)) = false := decide_eq_false c21
    clear c21
    have H' := Kp.a H
    clear H
    go_wp2
    repeat (go_quiet (fail); try go_wp2)
    go_roundg k2
    case measure => have := HK1.out; have := HK2.out; omega
    case rel => exact ⟨(x11_2), (x12_2), (wrap64 (x35_1 + 1)), (by first | rfl | (simp; done) | (simp [*]; done)), H', ⟨by have := HK1.out; have := HK2.out; omega⟩, ⟨Kp.kpR HO_11.out⟩, ⟨Kp.kpR HO_12.out⟩, ⟨Kp.kpR HO_13.out⟩, ⟨Kp.kpR (Kd.R_mono HO_33.out (fun _ hk => hk.1))⟩, ⟨Kp.kpL HB.out⟩⟩
   rw [if_pos c21] at H
   have c21b0 : decide (x41_2 < (t194.length : Int)) = true := decide_eq_true c21
   clear c21
   by_cases c22 : 0 ≤ x41_2
   rotate_left
   ·rw [if_neg c22] at H
    exact absurd H (by simp)
   rw [if_pos c22] at H
   have c22b0 : decide (0 ≤ x41_2) = true := decide_eq_true c22
   clear c22
   by_cases c23 : x41_2 < (t194.length : Int)
   rotate_left
   ·rw [if_neg c23] at H
    exact absurd H (by simp)
   rw [if_pos c23] at H
   have c23b0 : decide (x41_2 < (t194.length : Int)) = true := decide_eq_true c23
   clear c23
   by_cases c24 : 0 ≤ (rd t197 x35_1)
   rotate_left
   ·rw [if_neg c24] at H
    exact absurd H (by simp)
   rw [if_pos c24] at H
   have c24b0 : decide (0 ≤ (rd t197 x35_1)) = true := decide_eq_true c24
   clear c24
   by_cases c25 : (rd t197 x35_1) < (l0.length : Int)
   rotate_left
   ·rw [if_neg c25] at H
    exact absurd H (by simp)
   rw [if_pos c25] at H
   have c25b0 : decide ((rd t197 x35_1) < (l0.length : Int)) = true := decide_eq_true c25
   clear c25
   by_cases c26 : 0 ≤ (rd t194 x41_2)
   rotate_left
   ·rw [if_neg c26] at H
    exact absurd H (by simp)
   rw [if_pos c26] at H
   have c26b0 : decide (0 ≤ (rd t194 x41_2)) = true := decide_eq_true c26
   clear c26
   by_cases c27 : (rd t194 x41_2) < (l1.length : Int)
   rotate_left
   ·rw [if_neg c27] at H
    exact absurd H (by simp)
   rw [if_pos c27] at H
   have c27b0 : decide ((rd t194 x41_2) < (l1.length : Int)) = true := decide_eq_true c27
   clear c27
   by_cases c28 : (rd t194 x41_2) < (x11_2.length : Int)
   rotate_left
   ·rw [if_neg c28] at H
    exact absurd H (by simp)
   rw [if_pos c28] at H
   have c28b0 : decide ((rd t194 x41_2) < (x11_2.length : Int)) = true := decide_eq_true c28
   clear c28
   obtain ⟨bq29, hbq29⟩ : ∃ b_ : Bool, b_ = (rdOf false x11_2 (rd t194 x41_2)) := ⟨_, rfl⟩
   replace H : (if (bq29 = true) then (impl_Matched.l1 k2 l0 l1 a2 a3 x11_2 x12_2 t194 (rd t197 x35_1) t197 (t197.length : Int) x35_1 t194 (t194.length : Int) (wrap64 (x41_2 + 1))) else (if (wrap64 ((rd l0 (rd t197 x35_1)) - (rd l1 (rd t194 x41_2)))) ≥ a2 then (if (wrap64 ((rd l0 (rd t197 x35_1)) - (rd l1 (rd t194 x41_2)))) ≤ a3 then (if x12_2.length < 8796093022208 then (impl_Matched.l0 k2 l0 l1 a2 a3 (x11_2.set ((rd t194 x41_2) : Int).toNat true) (x12_2 ++ [(⟨(rd t197 x35_1), rd t194 x41_2⟩ : S37)]) t194 t197 (t197.length : Int) (wrap64 (x35_1 + 1))) else (none)) else (impl_Matched.l1 k2 l0 l1 a2 a3 x11_2 x12_2 t194 (rd t197 x35_1) t197 (t197.length : Int) x35_1 t194 (t194.length : Int) (wrap64 (x41_2 + 1)))) else (impl_Matched.l1 k2 l0 l1 a2 a3 x11_2 x12_2 t194 (rd t197 x35_1) t197 (t197.length : Int) x35_1 t194 (t194.length : Int) (wrap64 (x41_2 + 1))))) = some (r1, r2) := by rw [← hbq29] at H; exact H
   have Nbq29 := Kp.a hbq29
   clear hbq29
   by_cases c30 : (bq29 = true)
   ·subst c30
    have H1 : (impl_Matched.l1 k2 l0 l1 a2 a3 x11_2 x12_2 t194 (rd t197 x35_1) t197 (t197.length : Int) x35_1 t194 (t194.length : Int) (wrap64 (x41_2 + 1))) = some (r1, r2) := by rw [if_pos rfl] at H; exact H
    clear H
    have H := H1
    clear H1
    have H' := Kp.a H
    clear H
    have p201 : 0 ≤ (x41_2 : Int) := Kp.d
    have q201 : x41_2 < (t194.length : Int) := Kp.d
    obtain ⟨ad201, e201, hx201_0⟩ := Kd.at_int (Kd.R_reads' HO_39.out).2.2 x41_2 p201 q201
    cases e201
    replace p201 := eq_true p201
    replace q201 := eq_true q201
    have p202 : 0 ≤ ((rd t197 x35_1) : Int) := Kp.d
    have q202 : (rd t197 x35_1) < (l0.length : Int) := Kp.d
    obtain ⟨ad202, e202, hx202_0⟩ := Kd.at_int HR0.out (rd t197 x35_1) p202 q202
    cases e202
    replace hx202_0 := (HB.out.cell (World.block_lt_of_cell? w _ hx202_0)).trans hx202_0
    replace p202 := eq_true p202
    replace q202 := eq_true q202
    have p203 : 0 ≤ ((rd t194 x41_2) : Int) := Kp.d
    have q203 : (rd t194 x41_2) < (l1.length : Int) := Kp.d
    obtain ⟨ad203, e203, hx203_0⟩ := Kd.at_int HR1.out (rd t194 x41_2) p203 q203
    cases e203
    replace hx203_0 := (HB.out.cell (World.block_lt_of_cell? w _ hx203_0)).trans hx203_0
    replace p203 := eq_true p203
    replace q203 := eq_true q203
    obtain ⟨Ao31, co31, eo31⟩ := Kd.R_slice HO_11.out
    subst eo31
    have p204 : 0 ≤ ((rd t194 x41_2) : Int) := Kp.d
    have q204 : (rd t194 x41_2) < (x11_2.length : Int) := Kp.d
    obtain ⟨ad204, e204, hx204_0⟩ := Kd.at_bool (Kd.R_reads' HO_11.out).2.2 (rd t194 x41_2) p204 q204
    (try rw [← Nbq29.out] at hx204_0)
    cases e204
    replace p204 := eq_true p204
    replace q204 := eq_true q204
    go_wp2
    repeat (go_quiet (fail); try go_wp2)
    go_roundg k2
    case measure => have := HK1.out; have := HK2.out; omega
    case rel => exact ⟨(x11_2), (x12_2), (wrap64 (x41_2 + 1)), (by first | rfl | (simp; done) | (simp [*]; done)), H', ⟨by have := HK1.out; have := HK2.out; omega⟩, ⟨Kp.kpR HO_11.out⟩, ⟨Kp.kpR HO_12.out⟩, ⟨Kp.kpR HO_13.out⟩, ⟨Kp.kpR HO_33.out⟩, ⟨Kp.kpR HO_39.out⟩, ⟨Kp.kpL HB.out⟩⟩
   replace c30 := Bool.eq_false_iff.mpr c30
   subst c30
   have H1 : (if (wrap64 ((rd l0 (rd t197 x35_1)) - (rd l1 (rd t194 x41_2)))) ≥ a2 then (if (wrap64 ((rd l0 (rd t197 x35_1)) - (rd l1 (rd t194 x41_2)))) ≤ a3 then (if x12_2.length < 8796093022208 then (impl_Matched.l0 k2 l0 l1 a2 a3 (x11_2.set ((rd t194 x41_2) : Int).toNat true) (x12_2 ++ [(⟨(rd t197 x35_1), rd t194 x41_2⟩ : S37)]) t194 t197 (t197.length : Int) (wrap64 (x35_1 + 1))) else (none)) else (impl_Matched.l1 k2 l0 l1 a2 a3 x11_2 x12_2 t194 (rd t197 x35_1) t197 (t197.length : Int) x35_1 t194 (t194.length : Int) (wrap64 (x41_2 + 1)))) else (impl_Matched.l1 k2 l0 l1 a2 a3 x11_2 x12_2 t194 (rd t197 x35_1) t197 (t197.length : Int) x35_1 t194 (t194.length : Int) (wrap64 (x41_2 + 1)))) = some (r1, r2) := by rw [if_neg (show ¬ (false = true) by decide)] at H; exact H
   clear H
   have H := H1
   clear H1
   by_cases c32 : (wrap64 ((rd l0 (rd t197 x35_1)) - (rd l1 (rd t194 x41_2)))) ≥ a2
   rotate_left
   ·rw [if_neg c32] at H
    have c32b0 : decide (a2 ≤ (wrap64 ((rd l0 (rd t197 x35_1)) - (rd l1 (rd t194 x41_2))))) = false := decide_eq_false c32
    clear c32
    have H' := Kp.a H
    clear H
    have p201 : 0 ≤ (x41_2 : Int) := Kp.d
    have q201 : x41_2 < (t194.length : Int) := Kp.d
    obtain ⟨ad201, e201, hx201_0⟩ := Kd.at_int (Kd.R_reads' HO_39.out).2.2 x41_2 p201 q201
    cases e201
    replace p201 := eq_true p201
    replace q201 := eq_true q201
    have p202 : 0 ≤ ((rd t197 x35_1) : Int) := Kp.d
    have q202 : (rd t197 x35_1) < (l0.length : Int) := Kp.d
    obtain ⟨ad202, e202, hx202_0⟩ := Kd.at_int HR0.out (rd t197 x35_1) p202 q202
    cases e202
    replace hx202_0 := (HB.out.cell (World.block_lt_of_cell? w _ hx202_0)).trans hx202_0
    replace p202 := eq_true p202
    replace q202 := eq_true q202
    have p203 : 0 ≤ ((rd t194 x41_2) : Int) := Kp.d
    have q203 : (rd t194 x41_2) < (l1.length : Int) := Kp.d
    obtain ⟨ad203, e203, hx203_0⟩ := Kd.at_int HR1.out (rd t194 x41_2) p203 q203
    cases e203
    replace hx203_0 := (HB.out.cell (World.block_lt_of_cell? w _ hx203_0)).trans hx203_0
    replace p203 := eq_true p203
    replace q203 := eq_true q203
    obtain ⟨Ao41, co41, eo41⟩ := Kd.R_slice HO_11.out
    subst eo41
    have p204 : 0 ≤ ((rd t194 x41_2) : Int) := Kp.d
    have q204 : (rd t194 x41_2) < (x11_2.length : Int) := Kp.d
    obtain ⟨ad204, e204, hx204_0⟩ := Kd.at_bool (Kd.R_reads' HO_11.out).2.2 (rd t194 x41_2) p204 q204
    (try rw [← Nbq29.out] at hx204_0)
    cases e204
    replace p204 := eq_true p204
    replace q204 := eq_true q204
    go_wp2
    repeat (go_quiet (fail); try go_wp2)
    go_roundg k2
    case measure => have := HK1.out; have := HK2.out; omega
    case rel => exact ⟨(x11_2), (x12_2), (wrap64 (x41_2 + 1)), (by first | rfl | (simp; done) | (simp [*]; done)), H', ⟨by have := HK1.out; have := HK2.out; omega⟩, ⟨Kp.kpR HO_11.out⟩, ⟨Kp.kpR HO_12.out⟩, ⟨Kp.kpR HO_13.out⟩, ⟨Kp.kpR HO_33.out⟩, ⟨Kp.kpR HO_39.out⟩, ⟨Kp.kpL HB.out⟩⟩
   rw [if_pos c32] at H
   have c32b0 : decide (a2 ≤ (wrap64 ((rd l0 (rd t197 x35_1)) - (rd l1 (rd t194 x41_2))))) = true := decide_eq_true c32
   clear c32
   by_cases c33 : (wrap64 ((rd l0 (rd t197 x35_1)) - (rd l1 (rd t194 x41_2)))) ≤ a3
   rotate_left
   ·rw [if_neg c33] at H
    have c33b0 : decide ((wrap64 ((rd l0 (rd t197 x35_1)) - (rd l1 (rd t194 x41_2)))) ≤ a3) = false := decide_eq_false c33
    clear c33
    have H' := Kp.a H
    clear H
    have p201 : 0 ≤ (x41_2 : Int) := Kp.d
    have q201 : x41_2 < (t194.length : Int) := Kp.d
    obtain ⟨ad201, e201, hx201_0⟩ := Kd.at_int (Kd.R_reads' HO_39.out).2.2 x41_2 p201 q201
    cases e201
    replace p201 := eq_true p201
    replace q201 := eq_true q201
    have p202 : 0 ≤ ((rd t197 x35_1) : Int) := Kp.d
    have q202 : (rd t197 x35_1) < (l0.length : Int) := Kp.d
    obtain ⟨ad202, e202, hx202_0⟩ := Kd.at_int HR0.out (rd t197 x35_1) p202 q202
    cases e202
    replace hx202_0 := (HB.out.cell (World.block_lt_of_cell? w _ hx202_0)).trans hx202_0
    replace p202 := eq_true p202
    replace q202 := eq_true q202
    have p203 : 0 ≤ ((rd t194 x41_2) : Int) := Kp.d
    have q203 : (rd t194 x41_2) < (l1.length : Int) := Kp.d
    obtain ⟨ad203, e203, hx203_0⟩ := Kd.at_int HR1.out (rd t194 x41_2) p203 q203
    cases e203
    replace hx203_0 := (HB.out.cell (World.block_lt_of_cell? w _ hx203_0)).trans hx203_0
    replace p203 := eq_true p203
    replace q203 := eq_true q203
    obtain ⟨Ao40, co40, eo40⟩ := Kd.R_slice HO_11.out
    subst eo40
    have p204 : 0 ≤ ((rd t194 x41_2) : Int) := Kp.d
    have q204 : (rd t194 x41_2) < (x11_2.length : Int) := Kp.d
    obtain ⟨ad204, e204, hx204_0⟩ := Kd.at_bool (Kd.R_reads' HO_11.out).2.2 (rd t194 x41_2) p204 q204
    (try rw [← Nbq29.out] at hx204_0)
    cases e204
    replace p204 := eq_true p204
    replace q204 := eq_true q204
    go_wp2
    repeat (go_quiet (fail); try go_wp2)
    go_roundg k2
    case measure => have := HK1.out; have := HK2.out; omega
    case rel => exact ⟨(x11_2), (x12_2), (wrap64 (x41_2 + 1)), (by first | rfl | (simp; done) | (simp [*]; done)), H', ⟨by have := HK1.out; have := HK2.out; omega⟩, ⟨Kp.kpR HO_11.out⟩, ⟨Kp.kpR HO_12.out⟩, ⟨Kp.kpR HO_13.out⟩, ⟨Kp.kpR HO_33.out⟩, ⟨Kp.kpR HO_39.out⟩, ⟨Kp.kpL HB.out⟩⟩
   rw [if_pos c33] at H
   have c33b0 : decide ((wrap64 ((rd l0 (rd t197 x35_1)) - (rd l1 (rd t194 x41_2)))) ≤ a3) = true := decide_eq_true c33
   clear c33
   obtain ⟨y205, hy205⟩ : ∃ y_ : List Bool, y_ = (x11_2.set ((rd t194 x41_2) : Int).toNat true) := ⟨_, rfl⟩
   replace H : (if x12_2.length < 8796093022208 then (impl_Matched.l0 k2 l0 l1 a2 a3 y205 (x12_2 ++ [(⟨(rd t197 x35_1), rd t194 x41_2⟩ : S37)]) t194 t197 (t197.length : Int) (wrap64 (x35_1 + 1))) else (none)) = some (r1, r2) := by first | (rw [hy205]; with_reducible exact H) | (have H2_ := (Option.bind_some _ _).symm.trans H; rw [hy205]; with_reducible exact H2_) | (have H2_ := (Option.bind_some _ _).symm.trans H; with_reducible exact H2_) | with_reducible exact H | (rw [hy205]; exact H) | exact H
   have Ny205 := Kp.a hy205
   clear hy205
   by_cases c35 : x12_2.length < 8796093022208
   rotate_left
   ·rw [if_neg c35] at H
    exact absurd H (by simp)
   rw [if_pos c35] at H
   have LMc35 := Kp.a c35
   clear c35
   obtain ⟨y206, hy206⟩ : ∃ y_ : List (S37), y_ = (x12_2 ++ [(⟨(rd t197 x35_1), rd t194 x41_2⟩ : S37)]) := ⟨_, rfl⟩
   replace H : (impl_Matched.l0 k2 l0 l1 a2 a3 y205 y206 t194 t197 (t197.length : Int) (wrap64 (x35_1 + 1))) = some (r1, r2) := by first | (rw [hy206]; with_reducible exact H) | (have H2_ := (Option.bind_some _ _).symm.trans H; rw [hy206]; with_reducible exact H2_) | (have H2_ := (Option.bind_some _ _).symm.trans H; with_reducible exact H2_) | with_reducible exact H | (rw [hy206]; exact H) | exact H
   have Ny206 := Kp.a hy206
   clear hy206
   have H' := Kp.a H
   clear H
   have p201 : 0 ≤ (x41_2 : Int) := Kp.d
   have q201 : x41_2 < (t194.length : Int) := Kp.d
   obtain ⟨ad201, e201, hx201_0⟩ := Kd.at_int (Kd.R_reads' HO_39.out).2.2 x41_2 p201 q201
   cases e201
   replace p201 := eq_true p201
   replace q201 := eq_true q201
   have p202 : 0 ≤ ((rd t197 x35_1) : Int) := Kp.d
   have q202 : (rd t197 x35_1) < (l0.length : Int) := Kp.d
   obtain ⟨ad202, e202, hx202_0⟩ := Kd.at_int HR0.out (rd t197 x35_1) p202 q202
   cases e202
   replace hx202_0 := (HB.out.cell (World.block_lt_of_cell? w _ hx202_0)).trans hx202_0
   replace p202 := eq_true p202
   replace q202 := eq_true q202
   have p203 : 0 ≤ ((rd t194 x41_2) : Int) := Kp.d
   have q203 : (rd t194 x41_2) < (l1.length : Int) := Kp.d
   obtain ⟨ad203, e203, hx203_0⟩ := Kd.at_int HR1.out (rd t194 x41_2) p203 q203
   cases e203
   replace hx203_0 := (HB.out.cell (World.block_lt_of_cell? w _ hx203_0)).trans hx203_0
   replace p203 := eq_true p203
   replace q203 := eq_true q203
   obtain ⟨Ao36, co36, eo36⟩ := Kd.R_slice HO_11.out
   subst eo36
   have p204 : 0 ≤ ((rd t194 x41_2) : Int) := Kp.d
   have q204 : (rd t194 x41_2) < (x11_2.length : Int) := Kp.d
   obtain ⟨ad204, e204, hx204_0⟩ := Kd.at_bool (Kd.R_reads' HO_11.out).2.2 (rd t194 x41_2) p204 q204
   (try rw [← Nbq29.out] at hx204_0)
   cases e204
   replace p204 := eq_true p204
   replace q204 := eq_true q204
   have p34 : 0 ≤ ((rd t194 x41_2) : Int) := Kp.d
   have q34 : ((rd t194 x41_2) : Int) < ((x11_2.length : Int) : Int) := Kp.d
   obtain ⟨go34, co34, eo34, gb34, gl34, cl34, HG34⟩ := Kd.R_form HO_11.out (by omega)
   (first | cases eo34 | (injection eo34 with ea_ en_ ec_; (first | subst ea_ | (injection ea_ with ea_; subst ea_)); subst ec_; clear en_))
   have GB34 := Kp.a gb34
   have GG34 := Kp.a HG34
   clear gb34 gl34 HG34
   (first | simp only [add_plain] at hx204_0 | skip)
   obtain ⟨hx34_0, hf34_0⟩ := Kd.R_celln false HO_11.out ((rd t194 x41_2) : Int) p34 q34
   replace p34 := eq_true p34
   replace q34 := eq_true q34
   have HP37 := Kd.R_putg HO_11.out ((rd t194 x41_2) : Int) true
   go_wp2_with (first | ((with_reducible refine gate_store (t := 4) (p := 71) rfl ?_); (try (rw [drewN_self wr]; generalize hq_ : World.drewN wr _ = wr; have n0_ := Kp.a (Kd.R_at hq_ HO_11.out); have n1_ := Kp.a (Kd.R_at hq_ HO_12.out); have n2_ := Kp.a (Kd.R_at hq_ HO_13.out); have n3_ := Kp.a (Kd.R_at hq_ HO_33.out); have n4_ := Kp.a (Kd.R_at hq_ HO_39.out); have n5_ := Kp.a (below_at hq_ HB.out); clear hq_ HO_11 HO_12 HO_13 HO_33 HO_39 HB; have HO_11 := n0_; have HO_12 := n1_; have HO_13 := n2_; have HO_33 := n3_; have HO_39 := n4_; have HB := n5_; clear n0_ n1_ n2_ n3_ n4_ n5_; (try (have HP37 := Kd.R_putg HO_11.out ((rd t194 x41_2) : Int) true)); (try (obtain ⟨hx34_0, hf34_0⟩ := Kd.R_celln false HO_11.out ((rd t194 x41_2) : Int) (of_eq_true p34) (of_eq_true q34))))); refine store_event (t := 4) (p := 71) (v := ?vo_w38) (w1 := (wr.setCell ⟨go34, ((rd t194 x41_2) : Int).toNat, none⟩ (.bool true))) ?hg ?ho ?hn ?hr ?_; (case ho => rfl); (case hg => rfl); (case hn => rfl); (case hr => first | (go_simp; done) | (go_simp; rfl)); intro w38 hw; have hg : wr.grownBy w38 (some go34) := (by rw [hw]; exact HP37.2); have hp_ : Kd.R Kd.bool 4 w38 w.heap.size (fun _ => True) (.slice (some ⟨go34, 0, none⟩) x11_2.length co36) y205 := (by rw [hw, Ny205.out]; exact HP37.1); clear HP37; have n0_ := Kp.a (hp_); have n1_ := Kp.a (Kd.R_over' (v := (.slice (some ⟨go34, 0, none⟩) x11_2.length co36)) (Kp.kpR HO_12.out) (Kd.R_typed HO_11.out) (by decide) hg); have n2_ := Kp.a (Kd.R_over' (v := (.slice (some ⟨go34, 0, none⟩) x11_2.length co36)) (Kp.kpR HO_13.out) (Kd.R_typed HO_11.out) (by decide) hg); have n3_ := Kp.a (Kd.R_over' (v := (.slice (some ⟨go34, 0, none⟩) x11_2.length co36)) (Kp.kpR HO_33.out) (Kd.R_typed HO_11.out) (by decide) hg); have n4_ := Kp.a (Kd.R_over' (v := (.slice (some ⟨go34, 0, none⟩) x11_2.length co36)) (Kp.kpR HO_39.out) (Kd.R_typed HO_11.out) (by decide) hg); have n5_ := Kp.a ((by rw [hw]; exact below_set (HB.out) GB34.out : Below w.heap.size w w38)); clear HO_11; clear HO_12; clear HO_13; clear HO_33; clear HO_39; clear HB; have HO_11 := n0_; have HO_12 := n1_; have HO_13 := n2_; have HO_33 := n3_; have HO_39 := n4_; have HB := n5_; clear n0_ n1_ n2_ n3_ n4_ n5_; clear hg hw hp_) | ((with_reducible refine gate_builtin (b := .append) (xs := #[.tmp 72, .tmp 76]) rfl ?_); at_builtin; refine Kd.R_append k37 (w0 := w) w.heap.size rfl (.tmp 72) (.tmp 76) 23 37 (.agg #[(.int .i64 0), (.int .i64 0)]) 16 rfl Try.underlying23 info37 rfl (by decide) (by omega) u12 x12_2 (⟨(rd t197 x35_1), rd t194 x41_2⟩ : S37) [.int .i64 (rd t197 x35_1), .int .i64 (rd t194 x41_2)] (fun _ => True) (fun _ => False) rfl rfl ?aP (fun _ hk => hk.elim) ?aF ?aO ?aB ?aS ?aL ?_; (case aP => exact k37_mkM _ _ _ (⟨(rd t197 x35_1), rd t194 x41_2⟩ : S37)); (case aB => exact (Kp.kpL HB.out)); (case aF => exact (fun _ _ => trivial)); (case aO => exact (Kp.kpR HO_12.out)); (case aS => exact (below_size (Kp.kpL HB.out))); (case aL => have := LMc35.out; omega); intro v207 w39 ho hb hg hat; rw [← Ny206.out] at ho; have n0_ := Kp.a (Kd.R_over' (Kp.kpR HO_11.out) (Kd.R_typed (Kp.kpR HO_12.out)) (by decide) hg); have n1_ := Kp.a (Kd.R_over' (Kp.kpR HO_13.out) (Kd.R_typed (Kp.kpR HO_12.out)) (by decide) hg); have n2_ := Kp.a (Kd.R_over' (Kp.kpR HO_33.out) (Kd.R_typed (Kp.kpR HO_12.out)) (by decide) hg); have n3_ := Kp.a (Kd.R_over' (Kp.kpR HO_39.out) (Kd.R_typed (Kp.kpR HO_12.out)) (by decide) hg); have n4_ := Kp.a (hb); have n5_ := Kp.a (ho); clear HO_11; clear HO_13; clear HO_33; clear HO_39; clear HB; clear HO_12; have HO_11 := n0_; have HO_13 := n1_; have HO_33 := n2_; have HO_39 := n3_; have HB := n4_; have HO208 := n5_; clear n0_ n1_ n2_ n3_ n4_ n5_; clear ho hb hg hat))
   repeat (go_quiet (first | ((with_reducible refine gate_store (t := 4) (p := 71) rfl ?_); (try (rw [drewN_self wr]; generalize hq_ : World.drewN wr _ = wr; have n0_ := Kp.a (Kd.R_at hq_ HO_11.out); have n1_ := Kp.a (Kd.R_at hq_ HO_12.out); have n2_ := Kp.a (Kd.R_at hq_ HO_13.out); have n3_ := Kp.a (Kd.R_at hq_ HO_33.out); have n4_ := Kp.a (Kd.R_at hq_ HO_39.out); have n5_ := Kp.a (below_at hq_ HB.out); clear hq_ HO_11 HO_12 HO_13 HO_33 HO_39 HB; have HO_11 := n0_; have HO_12 := n1_; have HO_13 := n2_; have HO_33 := n3_; have HO_39 := n4_; have HB := n5_; clear n0_ n1_ n2_ n3_ n4_ n5_; (try (have HP37 := Kd.R_putg HO_11.out ((rd t194 x41_2) : Int) true)); (try (obtain ⟨hx34_0, hf34_0⟩ := Kd.R_celln false HO_11.out ((rd t194 x41_2) : Int) (of_eq_true p34) (of_eq_true q34))))); refine store_event (t := 4) (p := 71) (v := ?vo_w38) (w1 := (wr.setCell ⟨go34, ((rd t194 x41_2) : Int).toNat, none⟩ (.bool true))) ?hg ?ho ?hn ?hr ?_; (case ho => rfl); (case hg => rfl); (case hn => rfl); (case hr => first | (go_simp; done) | (go_simp; rfl)); intro w38 hw; have hg : wr.grownBy w38 (some go34) := (by rw [hw]; exact HP37.2); have hp_ : Kd.R Kd.bool 4 w38 w.heap.size (fun _ => True) (.slice (some ⟨go34, 0, none⟩) x11_2.length co36) y205 := (by rw [hw, Ny205.out]; exact HP37.1); clear HP37; have n0_ := Kp.a (hp_); have n1_ := Kp.a (Kd.R_over' (v := (.slice (some ⟨go34, 0, none⟩) x11_2.length co36)) (Kp.kpR HO_12.out) (Kd.R_typed HO_11.out) (by decide) hg); have n2_ := Kp.a (Kd.R_over' (v := (.slice (some ⟨go34, 0, none⟩) x11_2.length co36)) (Kp.kpR HO_13.out) (Kd.R_typed HO_11.out) (by decide) hg); have n3_ := Kp.a (Kd.R_over' (v := (.slice (some ⟨go34, 0, none⟩) x11_2.length co36)) (Kp.kpR HO_33.out) (Kd.R_typed HO_11.out) (by decide) hg); have n4_ := Kp.a (Kd.R_over' (v := (.slice (some ⟨go34, 0, none⟩) x11_2.length co36)) (Kp.kpR HO_39.out) (Kd.R_typed HO_11.out) (by decide) hg); have n5_ := Kp.a ((by rw [hw]; exact below_set (HB.out) GB34.out : Below w.heap.size w w38)); clear HO_11; clear HO_12; clear HO_13; clear HO_33; clear HO_39; clear HB; have HO_11 := n0_; have HO_12 := n1_; have HO_13 := n2_; have HO_33 := n3_; have HO_39 := n4_; have HB := n5_; clear n0_ n1_ n2_ n3_ n4_ n5_; clear hg hw hp_) | ((with_reducible refine gate_builtin (b := .append) (xs := #[.tmp 72, .tmp 76]) rfl ?_); at_builtin; refine Kd.R_append k37 (w0 := w) w.heap.size rfl (.tmp 72) (.tmp 76) 23 37 (.agg #[(.int .i64 0), (.int .i64 0)]) 16 rfl Try.underlying23 info37 rfl (by decide) (by omega) u12 x12_2 (⟨(rd t197 x35_1), rd t194 x41_2⟩ : S37) [.int .i64 (rd t197 x35_1), .int .i64 (rd t194 x41_2)] (fun _ => True) (fun _ => False) rfl rfl ?aP (fun _ hk => hk.elim) ?aF ?aO ?aB ?aS ?aL ?_; (case aP => exact k37_mkM _ _ _ (⟨(rd t197 x35_1), rd t194 x41_2⟩ : S37)); (case aB => exact (Kp.kpL HB.out)); (case aF => exact (fun _ _ => trivial)); (case aO => exact (Kp.kpR HO_12.out)); (case aS => exact (below_size (Kp.kpL HB.out))); (case aL => have := LMc35.out; omega); intro v207 w39 ho hb hg hat; rw [← Ny206.out] at ho; have n0_ := Kp.a (Kd.R_over' (Kp.kpR HO_11.out) (Kd.R_typed (Kp.kpR HO_12.out)) (by decide) hg); have n1_ := Kp.a (Kd.R_over' (Kp.kpR HO_13.out) (Kd.R_typed (Kp.kpR HO_12.out)) (by decide) hg); have n2_ := Kp.a (Kd.R_over' (Kp.kpR HO_33.out) (Kd.R_typed (Kp.kpR HO_12.out)) (by decide) hg); have n3_ := Kp.a (Kd.R_over' (Kp.kpR HO_39.out) (Kd.R_typed (Kp.kpR HO_12.out)) (by decide) hg); have n4_ := Kp.a (hb); have n5_ := Kp.a (ho); clear HO_11; clear HO_13; clear HO_33; clear HO_39; clear HB; clear HO_12; have HO_11 := n0_; have HO_13 := n1_; have HO_33 := n2_; have HO_39 := n3_; have HB := n4_; have HO208 := n5_; clear n0_ n1_ n2_ n3_ n4_ n5_; clear ho hb hg hat)); try go_wp2_with (first | ((with_reducible refine gate_store (t := 4) (p := 71) rfl ?_); (try (rw [drewN_self wr]; generalize hq_ : World.drewN wr _ = wr; have n0_ := Kp.a (Kd.R_at hq_ HO_11.out); have n1_ := Kp.a (Kd.R_at hq_ HO_12.out); have n2_ := Kp.a (Kd.R_at hq_ HO_13.out); have n3_ := Kp.a (Kd.R_at hq_ HO_33.out); have n4_ := Kp.a (Kd.R_at hq_ HO_39.out); have n5_ := Kp.a (below_at hq_ HB.out); clear hq_ HO_11 HO_12 HO_13 HO_33 HO_39 HB; have HO_11 := n0_; have HO_12 := n1_; have HO_13 := n2_; have HO_33 := n3_; have HO_39 := n4_; have HB := n5_; clear n0_ n1_ n2_ n3_ n4_ n5_; (try (have HP37 := Kd.R_putg HO_11.out ((rd t194 x41_2) : Int) true)); (try (obtain ⟨hx34_0, hf34_0⟩ := Kd.R_celln false HO_11.out ((rd t194 x41_2) : Int) (of_eq_true p34) (of_eq_true q34))))); refine store_event (t := 4) (p := 71) (v := ?vo_w38) (w1 := (wr.setCell ⟨go34, ((rd t194 x41_2) : Int).toNat, none⟩ (.bool true))) ?hg ?ho ?hn ?hr ?_; (case ho => rfl); (case hg => rfl); (case hn => rfl); (case hr => first | (go_simp; done) | (go_simp; rfl)); intro w38 hw; have hg : wr.grownBy w38 (some go34) := (by rw [hw]; exact HP37.2); have hp_ : Kd.R Kd.bool 4 w38 w.heap.size (fun _ => True) (.slice (some ⟨go34, 0, none⟩) x11_2.length co36) y205 := (by rw [hw, Ny205.out]; exact HP37.1); clear HP37; have n0_ := Kp.a (hp_); have n1_ := Kp.a (Kd.R_over' (v := (.slice (some ⟨go34, 0, none⟩) x11_2.length co36)) (Kp.kpR HO_12.out) (Kd.R_typed HO_11.out) (by decide) hg); have n2_ := Kp.a (Kd.R_over' (v := (.slice (some ⟨go34, 0, none⟩) x11_2.length co36)) (Kp.kpR HO_13.out) (Kd.R_typed HO_11.out) (by decide) hg); have n3_ := Kp.a (Kd.R_over' (v := (.slice (some ⟨go34, 0, none⟩) x11_2.length co36)) (Kp.kpR HO_33.out) (Kd.R_typed HO_11.out) (by decide) hg); have n4_ := Kp.a (Kd.R_over' (v := (.slice (some ⟨go34, 0, none⟩) x11_2.length co36)) (Kp.kpR HO_39.out) (Kd.R_typed HO_11.out) (by decide) hg); have n5_ := Kp.a ((by rw [hw]; exact below_set (HB.out) GB34.out : Below w.heap.size w w38)); clear HO_11; clear HO_12; clear HO_13; clear HO_33; clear HO_39; clear HB; have HO_11 := n0_; have HO_12 := n1_; have HO_13 := n2_; have HO_33 := n3_; have HO_39 := n4_; have HB := n5_; clear n0_ n1_ n2_ n3_ n4_ n5_; clear hg hw hp_) | ((with_reducible refine gate_builtin (b := .append) (xs := #[.tmp 72, .tmp 76]) rfl ?_); at_builtin; refine Kd.R_append k37 (w0 := w) w.heap.size rfl (.tmp 72) (.tmp 76) 23 37 (.agg #[(.int .i64 0), (.int .i64 0)]) 16 rfl Try.underlying23 info37 rfl (by decide) (by omega) u12 x12_2 (⟨(rd t197 x35_1), rd t194 x41_2⟩ : S37) [.int .i64 (rd t197 x35_1), .int .i64 (rd t194 x41_2)] (fun _ => True) (fun _ => False) rfl rfl ?aP (fun _ hk => hk.elim) ?aF ?aO ?aB ?aS ?aL ?_; (case aP => exact k37_mkM _ _ _ (⟨(rd t197 x35_1), rd t194 x41_2⟩ : S37)); (case aB => exact (Kp.kpL HB.out)); (case aF => exact (fun _ _ => trivial)); (case aO => exact (Kp.kpR HO_12.out)); (case aS => exact (below_size (Kp.kpL HB.out))); (case aL => have := LMc35.out; omega); intro v207 w39 ho hb hg hat; rw [← Ny206.out] at ho; have n0_ := Kp.a (Kd.R_over' (Kp.kpR HO_11.out) (Kd.R_typed (Kp.kpR HO_12.out)) (by decide) hg); have n1_ := Kp.a (Kd.R_over' (Kp.kpR HO_13.out) (Kd.R_typed (Kp.kpR HO_12.out)) (by decide) hg); have n2_ := Kp.a (Kd.R_over' (Kp.kpR HO_33.out) (Kd.R_typed (Kp.kpR HO_12.out)) (by decide) hg); have n3_ := Kp.a (Kd.R_over' (Kp.kpR HO_39.out) (Kd.R_typed (Kp.kpR HO_12.out)) (by decide) hg); have n4_ := Kp.a (hb); have n5_ := Kp.a (ho); clear HO_11; clear HO_13; clear HO_33; clear HO_39; clear HB; clear HO_12; have HO_11 := n0_; have HO_13 := n1_; have HO_33 := n2_; have HO_39 := n3_; have HB := n4_; have HO208 := n5_; clear n0_ n1_ n2_ n3_ n4_ n5_; clear ho hb hg hat)))
   go_roundg k2
   case measure => have := HK1.out; have := HK2.out; omega
   case rel => exact ⟨(y205), (y206), (wrap64 (x35_1 + 1)), (by first | rfl | (simp; done) | (simp [*]; done)), H', ⟨by have := HK1.out; have := HK2.out; omega⟩, ⟨Kp.kpR HO_11.out⟩, ⟨Kp.kpR HO208.out⟩, ⟨Kp.kpR HO_13.out⟩, ⟨Kp.kpR (Kd.R_mono HO_33.out (fun _ hk => hk.1))⟩, ⟨Kp.kpL HB.out⟩⟩
def laws_eqPair.f (a0_0 : Int) (a0_1 : Int) (a1_0 : Int) (a1_1 : Int) : Option (Bool) := if a0_0 = a1_0 then (if a0_1 = a1_1 then (some true) else (some false)) else (some false)
set_option maxHeartbeats 8000000 in
set_option maxRecDepth 100000 in
theorem laws_eqPair.calls (a0_0 : Int) (a0_1 : Int) (a1_0 : Int) (a1_1 : Int) (r : Bool) (w : World) (h : laws_eqPair.f a0_0 a0_1 a1_0 a1_1 = some r) :
  Calls Try.prog 22 #[.agg #[.int .i64 a0_0, .int .i64 a0_1], .agg #[.int .i64 a1_0, .int .i64 a1_1]] w fun e w' => e = .returned (.bool r) ∧ Below w.heap.size w w' := by
 have hu37 := Try.underlying37
 have HB := Kp.a (Below.refl w.heap.size w)
 have H : (if a0_0 = a1_0 then (if a0_1 = a1_1 then (some true) else (some false)) else (some false)) = some r := h
 clear h
 by_cases c3 : a0_0 = a1_0
 rotate_left
 ·rw [if_neg c3] at H
  have c3b0 : (a0_0 == a1_0) = false := beq_eq_false_iff_ne.mpr c3
  have c3b1 : (a0_0 != a1_0) = true := bne_iff_ne.mpr c3
  obtain rfl := Option.some.inj H
  go_enter Try.func22, Try.ntmps22
  go_wp2_with (first | ((with_reducible refine gate_dst (N := 2) rfl ?_); refine box_event ?hg (N := 2) ?hd (cs := #[.int .i64 a0_0, .int .i64 a0_1]) (t := 37) ?hr ?_; (case hd => rfl); (case hg => rfl); (case hr => first | (go_simp; done) | (go_simp; rfl)); intro gb209 hg w15 hbox hb; have n0_ := Kp.a (below_step (Kp.kpL HB.out) hb); have n1_ := Kp.a (hbox); have n2_ := Kp.a ((by rw [hg]; exact (below_size (Kp.kpL HB.out)) : w.heap.size ≤ gb209)); have n3_ := Kp.a ((by rw [hg]; exact (below_size (Kp.kpL HB.out)) : w.heap.size ≤ gb209)); clear HB; have HB := n0_; have BK209 := n1_; have GW209 := n2_; have GE209 := n3_; clear n0_ n1_ n2_ n3_; clear hb hbox hg) | ((with_reducible refine gate_dst (N := 3) rfl ?_); refine box_event ?hg (N := 3) ?hd (cs := #[.int .i64 a1_0, .int .i64 a1_1]) (t := 37) ?hr ?_; (case hd => rfl); (case hg => rfl); (case hr => first | (go_simp; done) | (go_simp; rfl)); intro gb210 hg w16 hbox hb; have n0_ := Kp.a (blk_below (g := gb209) (o := .cells #[.int .i64 a0_0, .int .i64 a0_1] 37 (0, 0)) (Kp.kpB BK209.out) hb); have n1_ := Kp.a (below_step (by repeat (first | (with_reducible first | exact HB.out | apply below_alloc | apply pw_below_drewN | apply below_drew1 | refine below_set ?_ GE209.out) | exact HB.out)) hb); have n2_ := Kp.a (hbox); have n3_ := Kp.a ((by rw [hg]; exact (below_size (by repeat (first | (with_reducible first | exact HB.out | apply below_alloc | apply pw_below_drewN | apply below_drew1 | refine below_set ?_ GE209.out) | exact HB.out))) : w.heap.size ≤ gb210)); have n4_ := Kp.a ((by rw [hg]; exact (below_size (by repeat (first | (with_reducible first | exact HB.out | apply below_alloc | apply pw_below_drewN | apply below_drew1 | refine below_set ?_ GE209.out) | exact HB.out))) : w.heap.size ≤ gb210)); have n5_ := Kp.a ((by rw [hg]; exact Nat.ne_of_lt (blk_lt (g := gb209) (o := .cells #[.int .i64 a0_0, .int .i64 a0_1] 37 (0, 0)) (Kp.kpB BK209.out)) : gb209 ≠ gb210)); have n6_ := Kp.a ((by rw [hg]; exact Nat.ne_of_gt (blk_lt (g := gb209) (o := .cells #[.int .i64 a0_0, .int .i64 a0_1] 37 (0, 0)) (Kp.kpB BK209.out)) : gb210 ≠ gb209)); clear BK209; clear HB; have BK209 := n0_; have HB := n1_; have BK210 := n2_; have GW210 := n3_; have GE210 := n4_; have NB209_210 := n5_; have NB210_209 := n6_; clear n0_ n1_ n2_ n3_ n4_ n5_ n6_; clear hb hbox hg; have hnb17 := NB209_210.out; have hnc17 := NB210_209.out; have hcz18_0 : w16.cell? ⟨gb209, 0, none⟩ = some (.int .i64 a0_0) := (blk_cell BK209.out 0).trans rfl; have hcz18_1 : w16.cell? ⟨gb209, 1, none⟩ = some (.int .i64 a0_1) := (blk_cell BK209.out 1).trans rfl; have hfz18_0 := blk_frozen BK209.out 0; have hfz18_1 := blk_frozen BK209.out 1; have hcz19_0 : w16.cell? ⟨gb210, 0, none⟩ = some (.int .i64 a1_0) := (blk_cell BK210.out 0).trans rfl; have hcz19_1 : w16.cell? ⟨gb210, 1, none⟩ = some (.int .i64 a1_1) := (blk_cell BK210.out 1).trans rfl; have hfz19_0 := blk_frozen BK210.out 0; have hfz19_1 := blk_frozen BK210.out 1))
  go_ret
  exact ⟨by first | rfl | (simp [errW_none, errW_some] <;> rfl) | (simp [*, errW_none, errW_some] <;> rfl), by repeat (first | (with_reducible first | exact HB.out | apply below_alloc | apply pw_below_drewN | apply below_drew1 | refine below_set ?_ GE209.out | refine below_set ?_ GE210.out) | exact HB.out)⟩
 rw [if_pos c3] at H
 have c3b0 : (a0_0 == a1_0) = true := beq_iff_eq.mpr c3
 have c3b1 : (a0_0 != a1_0) = false := bne_eq_false_iff_eq.mpr c3
 clear c3
 by_cases c4 : a0_1 = a1_1
 ·rw [if_pos c4] at H
  have c4b0 : (a0_1 == a1_1) = true := beq_iff_eq.mpr c4
  have c4b1 : (a0_1 != a1_1) = false := bne_eq_false_iff_eq.mpr c4
  clear c4
  obtain rfl := Option.some.inj H
  go_enter Try.func22, Try.ntmps22
  go_wp2_with (first | ((with_reducible refine gate_dst (N := 2) rfl ?_); refine box_event ?hg (N := 2) ?hd (cs := #[.int .i64 a0_0, .int .i64 a0_1]) (t := 37) ?hr ?_; (case hd => rfl); (case hg => rfl); (case hr => first | (go_simp; done) | (go_simp; rfl)); intro gb209 hg w5 hbox hb; have n0_ := Kp.a (below_step (Kp.kpL HB.out) hb); have n1_ := Kp.a (hbox); have n2_ := Kp.a ((by rw [hg]; exact (below_size (Kp.kpL HB.out)) : w.heap.size ≤ gb209)); have n3_ := Kp.a ((by rw [hg]; exact (below_size (Kp.kpL HB.out)) : w.heap.size ≤ gb209)); clear HB; have HB := n0_; have BK209 := n1_; have GW209 := n2_; have GE209 := n3_; clear n0_ n1_ n2_ n3_; clear hb hbox hg) | ((with_reducible refine gate_dst (N := 3) rfl ?_); refine box_event ?hg (N := 3) ?hd (cs := #[.int .i64 a1_0, .int .i64 a1_1]) (t := 37) ?hr ?_; (case hd => rfl); (case hg => rfl); (case hr => first | (go_simp; done) | (go_simp; rfl)); intro gb210 hg w6 hbox hb; have n0_ := Kp.a (blk_below (g := gb209) (o := .cells #[.int .i64 a0_0, .int .i64 a0_1] 37 (0, 0)) (Kp.kpB BK209.out) hb); have n1_ := Kp.a (below_step (by repeat (first | (with_reducible first | exact HB.out | apply below_alloc | apply pw_below_drewN | apply below_drew1 | refine below_set ?_ GE209.out) | exact HB.out)) hb); have n2_ := Kp.a (hbox); have n3_ := Kp.a ((by rw [hg]; exact (below_size (by repeat (first | (with_reducible first | exact HB.out | apply below_alloc | apply pw_below_drewN | apply below_drew1 | refine below_set ?_ GE209.out) | exact HB.out))) : w.heap.size ≤ gb210)); have n4_ := Kp.a ((by rw [hg]; exact (below_size (by repeat (first | (with_reducible first | exact HB.out | apply below_alloc | apply pw_below_drewN | apply below_drew1 | refine below_set ?_ GE209.out) | exact HB.out))) : w.heap.size ≤ gb210)); have n5_ := Kp.a ((by rw [hg]; exact Nat.ne_of_lt (blk_lt (g := gb209) (o := .cells #[.int .i64 a0_0, .int .i64 a0_1] 37 (0, 0)) (Kp.kpB BK209.out)) : gb209 ≠ gb210)); have n6_ := Kp.a ((by rw [hg]; exact Nat.ne_of_gt (blk_lt (g := gb209) (o := .cells #[.int .i64 a0_0, .int .i64 a0_1] 37 (0, 0)) (Kp.kpB BK209.out)) : gb210 ≠ gb209)); clear BK209; clear HB; have BK209 := n0_; have HB := n1_; have BK210 := n2_; have GW210 := n3_; have GE210 := n4_; have NB209_210 := n5_; have NB210_209 := n6_; clear n0_ n1_ n2_ n3_ n4_ n5_ n6_; clear hb hbox hg; have hnb7 := NB209_210.out; have hnc7 := NB210_209.out; have hcz8_0 : w6.cell? ⟨gb209, 0, none⟩ = some (.int .i64 a0_0) := (blk_cell BK209.out 0).trans rfl; have hcz8_1 : w6.cell? ⟨gb209, 1, none⟩ = some (.int .i64 a0_1) := (blk_cell BK209.out 1).trans rfl; have hfz8_0 := blk_frozen BK209.out 0; have hfz8_1 := blk_frozen BK209.out 1; have hcz9_0 : w6.cell? ⟨gb210, 0, none⟩ = some (.int .i64 a1_0) := (blk_cell BK210.out 0).trans rfl; have hcz9_1 : w6.cell? ⟨gb210, 1, none⟩ = some (.int .i64 a1_1) := (blk_cell BK210.out 1).trans rfl; have hfz9_0 := blk_frozen BK210.out 0; have hfz9_1 := blk_frozen BK210.out 1))
  go_ret
  exact ⟨by first | rfl | (simp [errW_none, errW_some] <;> rfl) | (simp [*, errW_none, errW_some] <;> rfl), by repeat (first | (with_reducible first | exact HB.out | apply below_alloc | apply pw_below_drewN | apply below_drew1 | refine below_set ?_ GE209.out | refine below_set ?_ GE210.out) | exact HB.out)⟩
 rw [if_neg c4] at H
 have c4b0 : (a0_1 == a1_1) = false := beq_eq_false_iff_ne.mpr c4
 have c4b1 : (a0_1 != a1_1) = true := bne_iff_ne.mpr c4
 obtain rfl := Option.some.inj H
 go_enter Try.func22, Try.ntmps22
 go_wp2_with (first | ((with_reducible refine gate_dst (N := 2) rfl ?_); refine box_event ?hg (N := 2) ?hd (cs := #[.int .i64 a0_0, .int .i64 a0_1]) (t := 37) ?hr ?_; (case hd => rfl); (case hg => rfl); (case hr => first | (go_simp; done) | (go_simp; rfl)); intro gb209 hg w10 hbox hb; have n0_ := Kp.a (below_step (Kp.kpL HB.out) hb); have n1_ := Kp.a (hbox); have n2_ := Kp.a ((by rw [hg]; exact (below_size (Kp.kpL HB.out)) : w.heap.size ≤ gb209)); have n3_ := Kp.a ((by rw [hg]; exact (below_size (Kp.kpL HB.out)) : w.heap.size ≤ gb209)); clear HB; have HB := n0_; have BK209 := n1_; have GW209 := n2_; have GE209 := n3_; clear n0_ n1_ n2_ n3_; clear hb hbox hg) | ((with_reducible refine gate_dst (N := 3) rfl ?_); refine box_event ?hg (N := 3) ?hd (cs := #[.int .i64 a1_0, .int .i64 a1_1]) (t := 37) ?hr ?_; (case hd => rfl); (case hg => rfl); (case hr => first | (go_simp; done) | (go_simp; rfl)); intro gb210 hg w11 hbox hb; have n0_ := Kp.a (blk_below (g := gb209) (o := .cells #[.int .i64 a0_0, .int .i64 a0_1] 37 (0, 0)) (Kp.kpB BK209.out) hb); have n1_ := Kp.a (below_step (by repeat (first | (with_reducible first | exact HB.out | apply below_alloc | apply pw_below_drewN | apply below_drew1 | refine below_set ?_ GE209.out) | exact HB.out)) hb); have n2_ := Kp.a (hbox); have n3_ := Kp.a ((by rw [hg]; exact (below_size (by repeat (first | (with_reducible first | exact HB.out | apply below_alloc | apply pw_below_drewN | apply below_drew1 | refine below_set ?_ GE209.out) | exact HB.out))) : w.heap.size ≤ gb210)); have n4_ := Kp.a ((by rw [hg]; exact (below_size (by repeat (first | (with_reducible first | exact HB.out | apply below_alloc | apply pw_below_drewN | apply below_drew1 | refine below_set ?_ GE209.out) | exact HB.out))) : w.heap.size ≤ gb210)); have n5_ := Kp.a ((by rw [hg]; exact Nat.ne_of_lt (blk_lt (g := gb209) (o := .cells #[.int .i64 a0_0, .int .i64 a0_1] 37 (0, 0)) (Kp.kpB BK209.out)) : gb209 ≠ gb210)); have n6_ := Kp.a ((by rw [hg]; exact Nat.ne_of_gt (blk_lt (g := gb209) (o := .cells #[.int .i64 a0_0, .int .i64 a0_1] 37 (0, 0)) (Kp.kpB BK209.out)) : gb210 ≠ gb209)); clear BK209; clear HB; have BK209 := n0_; have HB := n1_; have BK210 := n2_; have GW210 := n3_; have GE210 := n4_; have NB209_210 := n5_; have NB210_209 := n6_; clear n0_ n1_ n2_ n3_ n4_ n5_ n6_; clear hb hbox hg; have hnb12 := NB209_210.out; have hnc12 := NB210_209.out; have hcz13_0 : w11.cell? ⟨gb209, 0, none⟩ = some (.int .i64 a0_0) := (blk_cell BK209.out 0).trans rfl; have hcz13_1 : w11.cell? ⟨gb209, 1, none⟩ = some (.int .i64 a0_1) := (blk_cell BK209.out 1).trans rfl; have hfz13_0 := blk_frozen BK209.out 0; have hfz13_1 := blk_frozen BK209.out 1; have hcz14_0 : w11.cell? ⟨gb210, 0, none⟩ = some (.int .i64 a1_0) := (blk_cell BK210.out 0).trans rfl; have hcz14_1 : w11.cell? ⟨gb210, 1, none⟩ = some (.int .i64 a1_1) := (blk_cell BK210.out 1).trans rfl; have hfz14_0 := blk_frozen BK210.out 0; have hfz14_1 := blk_frozen BK210.out 1))
 go_ret
 exact ⟨by first | rfl | (simp [errW_none, errW_some] <;> rfl) | (simp [*, errW_none, errW_some] <;> rfl), by repeat (first | (with_reducible first | exact HB.out | apply below_alloc | apply pw_below_drewN | apply below_drew1 | refine below_set ?_ GE209.out | refine below_set ?_ GE210.out) | exact HB.out)⟩
end Go.Proofs.Ytkijhilmgljegaa.PM


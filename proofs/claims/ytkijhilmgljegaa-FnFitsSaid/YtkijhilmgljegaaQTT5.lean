import Derived.Test.YtkijhilmgljegaaQTT0
import Derived.Test.YtkijhilmgljegaaVTk
import Derived.Test.YtkijhilmgljegaaQTT4
import Derived.StillTailTactics
namespace Go.Proofs.Ytkijhilmgljegaa.PT
open Go.RowKit Go.Proofs.YtkijhilmgljegaaW.PrintWords Go.Proofs.YtkijhilmgljegaaW.PrintLast Go.Proofs.YtkijhilmgljegaaW.PrintMore
attribute [local go_sem] max2_int min2_int max_two min_two max_three min_three max_four min_four
set_option linter.unusedVariables false
set_option linter.unusedSimpArgs false
mutual
def impl_Matched.l0 : Nat → List Int → List Int → Int → Int → List Bool → List (S37) → List Int → List Int → Int → Int → Option ((List (S37)) × Int)
 | 0, _, _, _, _, _, _, _, _, _, _ => none
 | k + 1, x0, x1, x2, x3, x11, x12, x13, x33, x34, x35 => if x35 < x34 then (if 0 ≤ x35 then (if x35 < (x33.length : Int) then (impl_Matched.l1 k x0 x1 x2 x3 x11 x12 x13 (rd x33 x35) x33 x34 x35 x13 (x13.length : Int) 0) else (none)) else (none)) else (some (x12, 0))
def impl_Matched.l1 : Nat → List Int → List Int → Int → Int → List Bool → List (S37) → List Int → Int → List Int → Int → Int → List Int → Int → Int → Option ((List (S37)) × Int)
 | 0, _, _, _, _, _, _, _, _, _, _, _, _, _, _ => none
 | k + 1, x0, x1, x2, x3, x11, x12, x13, x15, x33, x34, x35, x39, x40, x41 => if x41 < x40 then (if 0 ≤ x41 then (if x41 < (x39.length : Int) then (if 0 ≤ x15 then (if x15 < (x0.length : Int) then (if 0 ≤ (rd x39 x41) then (if (rd x39 x41) < (x1.length : Int) then (if (rd x39 x41) < (x11.length : Int) then (if (rdOf false x11 (rd x39 x41) = true) then (impl_Matched.l1 k x0 x1 x2 x3 x11 x12 x13 x15 x33 x34 x35 x39 x40 (wrap64 (x41 + 1))) else (if (wrap64 ((rd x0 x15) - (rd x1 (rd x39 x41)))) ≥ x2 then (if (wrap64 ((rd x0 x15) - (rd x1 (rd x39 x41)))) ≤ x3 then (if x12.length < 8796093022208 then (impl_Matched.l0 k x0 x1 x2 x3 (x11.set ((rd x39 x41) : Int).toNat true) (x12 ++ [(⟨x15, rd x39 x41⟩ : S37)]) x13 x33 x34 (wrap64 (x35 + 1))) else (none)) else (impl_Matched.l1 k x0 x1 x2 x3 x11 x12 x13 x15 x33 x34 x35 x39 x40 (wrap64 (x41 + 1)))) else (impl_Matched.l1 k x0 x1 x2 x3 x11 x12 x13 x15 x33 x34 x35 x39 x40 (wrap64 (x41 + 1))))) else (none)) else (none)) else (none)) else (none)) else (none)) else (none)) else (none)) else (impl_Matched.l0 k x0 x1 x2 x3 x11 x12 x13 x33 x34 (wrap64 (x35 + 1)))
end
def impl_Matched.f (k : Nat) (l0 : List Int) (l1 : List Int) (a2 : Int) (a3 : Int) : Option ((List (S37)) × Int) := (impl_matesCode.f k l0 l1 a2 a3).bind fun t185 => (if t185 = 0 then (if 0 ≤ (l1.length : Int) then (if ((l1.length : Int) : Int).toNat ≤ 281474976710656 then ((impl_bySize.f l1).bind fun t189 => ((impl_bySize.f l0).bind fun t192 => (impl_Matched.l0 k l0 l1 a2 a3 (List.replicate ((l1.length : Int) : Int).toNat false) ([] : List (S37)) t189 t192 (t192.length : Int) 0))) else (none)) else (none)) else (some (([] : List (S37)), t185)))
set_option maxHeartbeats 8000000 in
set_option maxRecDepth 100000 in
theorem impl_Matched.calls (k : Nat) (A0 : Option Addr) (c0 : Nat) (l0 : List Int) (A1 : Option Addr) (c1 : Nat) (l1 : List Int) (a2 : Int) (a3 : Int) (r1 : List (S37)) (r2 : Int) (w : World) (hr0 : Kd.C (Kd.int .i64) w A0 l0.length l0) (hc0 : l0.length ≤ c0) (hr1 : Kd.C (Kd.int .i64) w A1 l1.length l1) (hc1 : l1.length ≤ c1) (h : impl_Matched.f k l0 l1 a2 a3 = some (r1, r2)) :
  Calls Try.prog 8 #[.slice A0 l0.length c0, .slice A1 l1.length c1, .int .i64 a2, .int .i64 a3] w fun e w' => ∃ v0_ : Value, e = .returned (.tuple #[v0_, .int .i64 r2]) ∧ Kd.R k37 37 w' w.heap.size (fun _ => True) v0_ r1 ∧ Below w.heap.size w w' := by
 have hu37 := Try.underlying37
 have HR0 := Kp.a hr0
 have HC0 := Kp.a hc0
 clear hr0 hc0
 have HR1 := Kp.a hr1
 have HC1 := Kp.a hc1
 clear hr1 hc1
 have HB := Kp.a (Below.refl w.heap.size w)
 have H : ((impl_matesCode.f k l0 l1 a2 a3).bind fun t185 => (if t185 = 0 then (if 0 ≤ (l1.length : Int) then (if ((l1.length : Int) : Int).toNat ≤ 281474976710656 then ((impl_bySize.f l1).bind fun t189 => ((impl_bySize.f l0).bind fun t192 => (impl_Matched.l0 k l0 l1 a2 a3 (List.replicate ((l1.length : Int) : Int).toNat false) ([] : List (S37)) t189 t192 (t192.length : Int) 0))) else (none)) else (none)) else (some (([] : List (S37)), t185)))) = some (r1, r2) := h
 clear h
 replace H := Option.bind_eq_some_iff.mp H
 obtain ⟨t185, A50, H⟩ := H
 replace H : (if t185 = 0 then (if 0 ≤ (l1.length : Int) then (if ((l1.length : Int) : Int).toNat ≤ 281474976710656 then ((impl_bySize.f l1).bind fun t189 => ((impl_bySize.f l0).bind fun t192 => (impl_Matched.l0 k l0 l1 a2 a3 (List.replicate ((l1.length : Int) : Int).toNat false) ([] : List (S37)) t189 t192 (t192.length : Int) 0))) else (none)) else (none)) else (some (([] : List (S37)), t185))) = some (r1, r2) := H
 have A5 := Kp.a A50
 clear A50
 by_cases c6 : t185 = 0
 rotate_left
 ·rw [if_neg c6] at H
  have c6b0 : (t185 == 0) = false := beq_eq_false_iff_ne.mpr c6
  have c6b1 : (t185 != 0) = true := bne_iff_ne.mpr c6
  simp only [Option.some.injEq, Prod.mk.injEq] at H
  obtain ⟨rfl, rfl⟩ := H
  go_enter Try.func8, Try.ntmps8
  go_wp2_with (first | (go_at_call 20; (with_reducible refine (impl_matesCode.calls k _ _ l0 _ _ l1 a2 a3 t185 _ ?side1 ?side2 ?side3 ?side4 A5.out).mono ?_); (case side1 => repeat (first | exact HR0.out | (with_reducible refine Kd.C_alloc ?_ _) | (with_reducible refine Kd.C_drewN ?_ _) | (with_reducible refine Kd.C_drew ?_))); (case side2 => exact HC0.out); (case side3 => repeat (first | exact HR1.out | (with_reducible refine Kd.C_alloc ?_ _) | (with_reducible refine Kd.C_drewN ?_ _) | (with_reducible refine Kd.C_drew ?_))); (case side4 => exact HC1.out); rintro e w42 ⟨rfl, hb⟩; have n0_ := Kp.a (below_step (Kp.kpL HB.out) hb); clear HB; have HB := n0_; clear n0_; (try clear hb); (try clear hb2); (try clear hk); (try clear hi)))
  repeat (go_quiet (first | (go_at_call 20; (with_reducible refine (impl_matesCode.calls k _ _ l0 _ _ l1 a2 a3 t185 _ ?side1 ?side2 ?side3 ?side4 A5.out).mono ?_); (case side1 => repeat (first | exact HR0.out | (with_reducible refine Kd.C_alloc ?_ _) | (with_reducible refine Kd.C_drewN ?_ _) | (with_reducible refine Kd.C_drew ?_))); (case side2 => exact HC0.out); (case side3 => repeat (first | exact HR1.out | (with_reducible refine Kd.C_alloc ?_ _) | (with_reducible refine Kd.C_drewN ?_ _) | (with_reducible refine Kd.C_drew ?_))); (case side4 => exact HC1.out); rintro e w42 ⟨rfl, hb⟩; have n0_ := Kp.a (below_step (Kp.kpL HB.out) hb); clear HB; have HB := n0_; clear n0_; (try clear hb); (try clear hb2); (try clear hk); (try clear hi))); try go_wp2_with (first | (go_at_call 20; (with_reducible refine (impl_matesCode.calls k _ _ l0 _ _ l1 a2 a3 t185 _ ?side1 ?side2 ?side3 ?side4 A5.out).mono ?_); (case side1 => repeat (first | exact HR0.out | (with_reducible refine Kd.C_alloc ?_ _) | (with_reducible refine Kd.C_drewN ?_ _) | (with_reducible refine Kd.C_drew ?_))); (case side2 => exact HC0.out); (case side3 => repeat (first | exact HR1.out | (with_reducible refine Kd.C_alloc ?_ _) | (with_reducible refine Kd.C_drewN ?_ _) | (with_reducible refine Kd.C_drew ?_))); (case side4 => exact HC1.out); rintro e w42 ⟨rfl, hb⟩; have n0_ := Kp.a (below_step (Kp.kpL HB.out) hb); clear HB; have HB := n0_; clear n0_; (try clear hb); (try clear hb2); (try clear hk); (try clear hi))))
  go_ret2
  exact ⟨_, by first | rfl | (simp [errW_none, errW_some] <;> rfl) | (simp [*, errW_none, errW_some] <;> rfl), by first | exact Kd.R_nil _ _ _ _ _ | exact Kd.N_nil _ _ _ _ _ | exact Kd.V_nil _ _ _ _ _ | exact Kd.Q_nil _ _ _ _ _ | exact Kd.S_nil _ _ _ _ _, Kp.kpL HB.out⟩
 rw [if_pos c6] at H
 have c6b0 : (t185 == 0) = true := beq_iff_eq.mpr c6
 have c6b1 : (t185 != 0) = false := bne_eq_false_iff_eq.mpr c6
 clear c6
 by_cases c7 : 0 ≤ (l1.length : Int)
 rotate_left
 ·rw [if_neg c7] at H
  exact absurd H (by simp)
 rw [if_pos c7] at H
 have c7b0 := eq_true c7
 have c7b1 : decide (0 ≤ (l1.length : Int)) = true := decide_eq_true c7
 clear c7
 by_cases c8 : ((l1.length : Int) : Int).toNat ≤ 281474976710656
 rotate_left
 ·rw [if_neg c8] at H
  exact absurd H (by simp)
 rw [if_pos c8] at H
 have c8b0 := eq_true c8
 have c8b1 : decide (((l1.length : Int) : Int).toNat ≤ 281474976710656) = true := decide_eq_true c8
 clear c8
 obtain ⟨y186, hy186⟩ : ∃ y_ : List Bool, y_ = (List.replicate ((l1.length : Int) : Int).toNat false) := ⟨_, rfl⟩
 replace H : ((impl_bySize.f l1).bind fun t189 => ((impl_bySize.f l0).bind fun t192 => (impl_Matched.l0 k l0 l1 a2 a3 y186 ([] : List (S37)) t189 t192 (t192.length : Int) 0))) = some (r1, r2) := by first | (rw [hy186]; with_reducible exact H) | (have H2_ := (Option.bind_some _ _).symm.trans H; rw [hy186]; with_reducible exact H2_) | (have H2_ := (Option.bind_some _ _).symm.trans H; with_reducible exact H2_) | with_reducible exact H | (rw [hy186]; exact H) | exact H
 have Ny186 := Kp.a hy186
 clear hy186
 replace H := Option.bind_eq_some_iff.mp H
 obtain ⟨t189, A90, H⟩ := H
 replace H : ((impl_bySize.f l0).bind fun t192 => (impl_Matched.l0 k l0 l1 a2 a3 y186 ([] : List (S37)) t189 t192 (t192.length : Int) 0)) = some (r1, r2) := H
 have A9 := Kp.a A90
 clear A90
 replace H := Option.bind_eq_some_iff.mp H
 obtain ⟨t192, A100, H⟩ := H
 replace H : (impl_Matched.l0 k l0 l1 a2 a3 y186 ([] : List (S37)) t189 t192 (t192.length : Int) 0) = some (r1, r2) := H
 have A10 := Kp.a A100
 clear A100
 have H' := Kp.a H
 clear H
 go_enter Try.func8, Try.ntmps8
 go_wp2_with (first | (go_at_call 20; (with_reducible refine (impl_matesCode.calls k _ _ l0 _ _ l1 a2 a3 t185 _ ?side1 ?side2 ?side3 ?side4 A5.out).mono ?_); (case side1 => repeat (first | exact HR0.out | (with_reducible refine Kd.C_alloc ?_ _) | (with_reducible refine Kd.C_drewN ?_ _) | (with_reducible refine Kd.C_drew ?_))); (case side2 => exact HC0.out); (case side3 => repeat (first | exact HR1.out | (with_reducible refine Kd.C_alloc ?_ _) | (with_reducible refine Kd.C_drewN ?_ _) | (with_reducible refine Kd.C_drew ?_))); (case side4 => exact HC1.out); rintro e w11 ⟨rfl, hb⟩; have n0_ := Kp.a (below_step (Kp.kpL HB.out) hb); clear HB; have HB := n0_; clear n0_; (try clear hb); (try clear hb2); (try clear hk); (try clear hi)) | ((with_reducible refine gate_dst (N := 29) rfl ?_); refine Kd.R_make Kd.bool _ 4 rfl (N := 29) rfl 35 _ _ rfl (l1.length : Int) rfl rfl Try.underlying35 (.bool false) 1 info4 rfl (by decide) (by omega) false (ok := fun _ => True) (okp := fun _ => True) rfl (fun _ hk => hk) trivial (Kp.d) (Nat.le_trans (Nat.mul_le_mul_right _ (Kp.d : (l1.length : Int).toNat ≤ 281474976710656)) (by omega)) (Below.refl _ _) (Nat.le_refl _) ?_; intro v187 w12 ho13 hb hg_ hnew_; clear hg_ hnew_; (first | rw [← Ny186.out] at ho13 | (simp only [Int.reduceToNat] at ho13; rw [← Ny186.out] at ho13)); have n0_ := Kp.a (Kd.R_lower ho13 (below_size (Kp.kpL HB.out))); have n1_ := Kp.a (below_step (Kp.kpL HB.out) hb); clear HB; have HO188 := n0_; have HB := n1_; clear n0_ n1_; clear hb ho13) | (go_at_call 21; (with_reducible refine (impl_bySize.calls _ _ l1 t189 _ ?side1 ?side2 A9.out).mono ?_); (case side1 => repeat (first | exact (Kd.C_below HR1.out HB.out) | (with_reducible refine Kd.C_alloc ?_ _) | (with_reducible refine Kd.C_drewN ?_ _) | (with_reducible refine Kd.C_drew ?_))); (case side2 => exact HC1.out); rintro e w14 ⟨v190, rfl, ho0, hb⟩; have n0_ := Kp.a (Kd.R_below (Kp.kpR HO188.out) hb); have n1_ := Kp.a (Kd.R_lower ho0 (below_size (Kp.kpL HB.out))); have n2_ := Kp.a (below_step (Kp.kpL HB.out) hb); clear HO188; clear HB; have HO188 := n0_; have HO191 := n1_; have HB := n2_; clear n0_ n1_ n2_; (try clear hb); (try clear hb2); (try clear hk); (try clear hi); (try clear ho0)) | (go_at_call 21; (with_reducible refine (impl_bySize.calls _ _ l0 t192 _ ?side1 ?side2 A10.out).mono ?_); (case side1 => repeat (first | exact (Kd.C_below HR0.out HB.out) | (with_reducible refine Kd.C_alloc ?_ _) | (with_reducible refine Kd.C_drewN ?_ _) | (with_reducible refine Kd.C_drew ?_))); (case side2 => exact HC0.out); rintro e w15 ⟨v193, rfl, ho0, hb⟩; have n0_ := Kp.a (Kd.R_below (Kp.kpR HO188.out) hb); have n1_ := Kp.a (Kd.R_elder' (Kp.kpR HO191.out) (Kd.R_base ho0) hb); have n2_ := Kp.a (Kd.R_lower (Kd.R_new' ho0 (Kd.R_lt (Kp.kpR HO191.out))) (below_size (Kp.kpL HB.out))); have n3_ := Kp.a (below_step (Kp.kpL HB.out) hb); clear HO188; clear HO191; clear HB; have HO188 := n0_; have HO191 := n1_; have HO194 := n2_; have HB := n3_; clear n0_ n1_ n2_ n3_; (try clear hb); (try clear hb2); (try clear hk); (try clear hi); (try clear ho0); obtain ⟨Ao16, co16, eo16⟩ := Kd.R_slice HO194.out; subst eo16))
 repeat (go_quiet (first | (go_at_call 20; (with_reducible refine (impl_matesCode.calls k _ _ l0 _ _ l1 a2 a3 t185 _ ?side1 ?side2 ?side3 ?side4 A5.out).mono ?_); (case side1 => repeat (first | exact HR0.out | (with_reducible refine Kd.C_alloc ?_ _) | (with_reducible refine Kd.C_drewN ?_ _) | (with_reducible refine Kd.C_drew ?_))); (case side2 => exact HC0.out); (case side3 => repeat (first | exact HR1.out | (with_reducible refine Kd.C_alloc ?_ _) | (with_reducible refine Kd.C_drewN ?_ _) | (with_reducible refine Kd.C_drew ?_))); (case side4 => exact HC1.out); rintro e w11 ⟨rfl, hb⟩; have n0_ := Kp.a (below_step (Kp.kpL HB.out) hb); clear HB; have HB := n0_; clear n0_; (try clear hb); (try clear hb2); (try clear hk); (try clear hi)) | ((with_reducible refine gate_dst (N := 29) rfl ?_); refine Kd.R_make Kd.bool _ 4 rfl (N := 29) rfl 35 _ _ rfl (l1.length : Int) rfl rfl Try.underlying35 (.bool false) 1 info4 rfl (by decide) (by omega) false (ok := fun _ => True) (okp := fun _ => True) rfl (fun _ hk => hk) trivial (Kp.d) (Nat.le_trans (Nat.mul_le_mul_right _ (Kp.d : (l1.length : Int).toNat ≤ 281474976710656)) (by omega)) (Below.refl _ _) (Nat.le_refl _) ?_; intro v187 w12 ho13 hb hg_ hnew_; clear hg_ hnew_; (first | rw [← Ny186.out] at ho13 | (simp only [Int.reduceToNat] at ho13; rw [← Ny186.out] at ho13)); have n0_ := Kp.a (Kd.R_lower ho13 (below_size (Kp.kpL HB.out))); have n1_ := Kp.a (below_step (Kp.kpL HB.out) hb); clear HB; have HO188 := n0_; have HB := n1_; clear n0_ n1_; clear hb ho13) | (go_at_call 21; (with_reducible refine (impl_bySize.calls _ _ l1 t189 _ ?side1 ?side2 A9.out).mono ?_); (case side1 => repeat (first | exact (Kd.C_below HR1.out HB.out) | (with_reducible refine Kd.C_alloc ?_ _) | (with_reducible refine Kd.C_drewN ?_ _) | (with_reducible refine Kd.C_drew ?_))); (case side2 => exact HC1.out); rintro e w14 ⟨v190, rfl, ho0, hb⟩; have n0_ := Kp.a (Kd.R_below (Kp.kpR HO188.out) hb); have n1_ := Kp.a (Kd.R_lower ho0 (below_size (Kp.kpL HB.out))); have n2_ := Kp.a (below_step (Kp.kpL HB.out) hb); clear HO188; clear HB; have HO188 := n0_; have HO191 := n1_; have HB := n2_; clear n0_ n1_ n2_; (try clear hb); (try clear hb2); (try clear hk); (try clear hi); (try clear ho0)) | (go_at_call 21; (with_reducible refine (impl_bySize.calls _ _ l0 t192 _ ?side1 ?side2 A10.out).mono ?_); (case side1 => repeat (first | exact (Kd.C_below HR0.out HB.out) | (with_reducible refine Kd.C_alloc ?_ _) | (with_reducible refine Kd.C_drewN ?_ _) | (with_reducible refine Kd.C_drew ?_))); (case side2 => exact HC0.out); rintro e w15 ⟨v193, rfl, ho0, hb⟩; have n0_ := Kp.a (Kd.R_below (Kp.kpR HO188.out) hb); have n1_ := Kp.a (Kd.R_elder' (Kp.kpR HO191.out) (Kd.R_base ho0) hb); have n2_ := Kp.a (Kd.R_lower (Kd.R_new' ho0 (Kd.R_lt (Kp.kpR HO191.out))) (below_size (Kp.kpL HB.out))); have n3_ := Kp.a (below_step (Kp.kpL HB.out) hb); clear HO188; clear HO191; clear HB; have HO188 := n0_; have HO191 := n1_; have HO194 := n2_; have HB := n3_; clear n0_ n1_ n2_ n3_; (try clear hb); (try clear hb2); (try clear hk); (try clear hi); (try clear ho0); obtain ⟨Ao16, co16, eo16⟩ := Kd.R_slice HO194.out; subst eo16)); try go_wp2_with (first | (go_at_call 20; (with_reducible refine (impl_matesCode.calls k _ _ l0 _ _ l1 a2 a3 t185 _ ?side1 ?side2 ?side3 ?side4 A5.out).mono ?_); (case side1 => repeat (first | exact HR0.out | (with_reducible refine Kd.C_alloc ?_ _) | (with_reducible refine Kd.C_drewN ?_ _) | (with_reducible refine Kd.C_drew ?_))); (case side2 => exact HC0.out); (case side3 => repeat (first | exact HR1.out | (with_reducible refine Kd.C_alloc ?_ _) | (with_reducible refine Kd.C_drewN ?_ _) | (with_reducible refine Kd.C_drew ?_))); (case side4 => exact HC1.out); rintro e w11 ⟨rfl, hb⟩; have n0_ := Kp.a (below_step (Kp.kpL HB.out) hb); clear HB; have HB := n0_; clear n0_; (try clear hb); (try clear hb2); (try clear hk); (try clear hi)) | ((with_reducible refine gate_dst (N := 29) rfl ?_); refine Kd.R_make Kd.bool _ 4 rfl (N := 29) rfl 35 _ _ rfl (l1.length : Int) rfl rfl Try.underlying35 (.bool false) 1 info4 rfl (by decide) (by omega) false (ok := fun _ => True) (okp := fun _ => True) rfl (fun _ hk => hk) trivial (Kp.d) (Nat.le_trans (Nat.mul_le_mul_right _ (Kp.d : (l1.length : Int).toNat ≤ 281474976710656)) (by omega)) (Below.refl _ _) (Nat.le_refl _) ?_; intro v187 w12 ho13 hb hg_ hnew_; clear hg_ hnew_; (first | rw [← Ny186.out] at ho13 | (simp only [Int.reduceToNat] at ho13; rw [← Ny186.out] at ho13)); have n0_ := Kp.a (Kd.R_lower ho13 (below_size (Kp.kpL HB.out))); have n1_ := Kp.a (below_step (Kp.kpL HB.out) hb); clear HB; have HO188 := n0_; have HB := n1_; clear n0_ n1_; clear hb ho13) | (go_at_call 21; (with_reducible refine (impl_bySize.calls _ _ l1 t189 _ ?side1 ?side2 A9.out).mono ?_); (case side1 => repeat (first | exact (Kd.C_below HR1.out HB.out) | (with_reducible refine Kd.C_alloc ?_ _) | (with_reducible refine Kd.C_drewN ?_ _) | (with_reducible refine Kd.C_drew ?_))); (case side2 => exact HC1.out); rintro e w14 ⟨v190, rfl, ho0, hb⟩; have n0_ := Kp.a (Kd.R_below (Kp.kpR HO188.out) hb); have n1_ := Kp.a (Kd.R_lower ho0 (below_size (Kp.kpL HB.out))); have n2_ := Kp.a (below_step (Kp.kpL HB.out) hb); clear HO188; clear HB; have HO188 := n0_; have HO191 := n1_; have HB := n2_; clear n0_ n1_ n2_; (try clear hb); (try clear hb2); (try clear hk); (try clear hi); (try clear ho0)) | (go_at_call 21; (with_reducible refine (impl_bySize.calls _ _ l0 t192 _ ?side1 ?side2 A10.out).mono ?_); (case side1 => repeat (first | exact (Kd.C_below HR0.out HB.out) | (with_reducible refine Kd.C_alloc ?_ _) | (with_reducible refine Kd.C_drewN ?_ _) | (with_reducible refine Kd.C_drew ?_))); (case side2 => exact HC0.out); rintro e w15 ⟨v193, rfl, ho0, hb⟩; have n0_ := Kp.a (Kd.R_below (Kp.kpR HO188.out) hb); have n1_ := Kp.a (Kd.R_elder' (Kp.kpR HO191.out) (Kd.R_base ho0) hb); have n2_ := Kp.a (Kd.R_lower (Kd.R_new' ho0 (Kd.R_lt (Kp.kpR HO191.out))) (below_size (Kp.kpL HB.out))); have n3_ := Kp.a (below_step (Kp.kpL HB.out) hb); clear HO188; clear HO191; clear HB; have HO188 := n0_; have HO191 := n1_; have HO194 := n2_; have HB := n3_; clear n0_ n1_ n2_ n3_; (try clear hb); (try clear hb2); (try clear hk); (try clear hi); (try clear ho0); obtain ⟨Ao16, co16, eo16⟩ := Kd.R_slice HO194.out; subst eo16)))
 go_loopg [12, 35] k (fun kq v12 v35 w' => ∃ (x11_1 : List Bool) (x12_1 : List (S37)) (x35_1 : Int), v35 = .int .i64 x35_1 ∧ Aside0 (impl_Matched.l0 kq l0 l1 a2 a3 x11_1 x12_1 t189 t192 (t192.length : Int) x35_1 = some (r1, r2)) ∧ Aside0 (kq ≤ k) ∧ Aside0 (Kd.R Kd.bool 4 w' w.heap.size (fun _ => True) v187 x11_1) ∧ Aside0 (Kd.R k37 37 w' w.heap.size (fun _ => True) v12 x12_1) ∧ Aside0 (Kd.R (Kd.int .i64) 3 w' w.heap.size (fun k_ => some k_ ≠ ((.slice Ao16 t192.length co16) : Value).ownBlock) v190 t189) ∧ Aside0 (Kd.R (Kd.int .i64) 3 w' w.heap.size (fun k_ => some k_ ≠ (v190 : Value).ownBlock) (.slice Ao16 t192.length co16) t192) ∧ Aside0 (Below w.heap.size w w'))
 case atStart => exact ⟨(y186), (([] : List (S37))), (0), (by first | rfl | (simp; done) | (simp [*]; done)), H', ⟨Nat.le_refl _⟩, ⟨Kp.kpR HO188.out⟩, ⟨by first | exact Kd.R_nil _ _ _ _ _ | exact Kd.N_nil _ _ _ _ _ | exact Kd.V_nil _ _ _ _ _ | exact Kd.Q_nil _ _ _ _ _ | exact Kd.S_nil _ _ _ _ _⟩, ⟨Kp.kpR (Kd.R_mono HO191.out (fun _ hk => hk.2))⟩, ⟨Kp.kpR (Kd.R_mono HO194.out (fun _ hk => hk.2))⟩, ⟨Kp.kpL HB.out⟩⟩
 clear H'
 try clear c1
 try clear p2
 try clear c6
 try clear c6b0
 try clear c6b1
 try clear c7
 try clear c7b0
 try clear c7b1
 try clear c8
 try clear c8b0
 try clear c8b1
 obtain ⟨x11_1, x12_1, x35_1, rfl, HA, HK1, HO_11, HO_12, HO_13, HO_33, HB⟩ := hrel
 cases gk with
 | zero => exact absurd HA.out (by simp [impl_Matched.l0])
 | succ k1 =>
  have H := HA.out
  clear HA
  simp only [impl_Matched.l0] at H
  by_cases c17 : x35_1 < (t192.length : Int)
  rotate_left
  ·rw [if_neg c17] at H
   have c17b0 : decide (x35_1 < (t192.length : Int)) = false := decide_eq_false c17
   clear c17
   simp only [Option.some.injEq, Prod.mk.injEq] at H
   obtain ⟨rfl, rfl⟩ := H
   go_wp2
   repeat (go_quiet (fail); try go_wp2)
   go_ret2
   exact ⟨_, by first | rfl | (simp [errW_none, errW_some] <;> rfl) | (simp [*, errW_none, errW_some] <;> rfl), Kp.kpR HO_12.out, Kp.kpL HB.out⟩
  rw [if_pos c17] at H
  have c17b0 : decide (x35_1 < (t192.length : Int)) = true := decide_eq_true c17
  clear c17
  by_cases c18 : 0 ≤ x35_1
  rotate_left
  ·rw [if_neg c18] at H
   exact absurd H (by simp)
  rw [if_pos c18] at H
  have c18b0 : decide (0 ≤ x35_1) = true := decide_eq_true c18
  clear c18
  by_cases c19 : x35_1 < (t192.length : Int)
  rotate_left
  ·rw [if_neg c19] at H
   exact absurd H (by simp)
  rw [if_pos c19] at H
  have c19b0 : decide (x35_1 < (t192.length : Int)) = true := decide_eq_true c19
  clear c19
  have H' := Kp.a H
  clear H
  have p195 : 0 ≤ (x35_1 : Int) := Kp.d
  have q195 : x35_1 < (t192.length : Int) := Kp.d
  obtain ⟨ad195, e195, hx195_0⟩ := Kd.at_int (Kd.R_reads' HO_33.out).2.2 x35_1 p195 q195
  cases e195
  replace p195 := eq_true p195
  replace q195 := eq_true q195
  obtain ⟨Ao20, co20, eo20⟩ := Kd.R_slice HO_13.out
  subst eo20
  go_wp2
  repeat (go_quiet (fail); try go_wp2)
  go_loopg [12, 41] k1 (fun kq v12 v41 w' => ∃ (x11_2 : List Bool) (x12_2 : List (S37)) (x41_2 : Int), v41 = .int .i64 x41_2 ∧ Aside0 (impl_Matched.l1 kq l0 l1 a2 a3 x11_2 x12_2 t189 (rd t192 x35_1) t192 (t192.length : Int) x35_1 t189 (t189.length : Int) x41_2 = some (r1, r2)) ∧ Aside0 (kq ≤ k1) ∧ Aside0 (Kd.R Kd.bool 4 w' w.heap.size (fun _ => True) v187 x11_2) ∧ Aside0 (Kd.R k37 37 w' w.heap.size (fun _ => True) v12 x12_2) ∧ Aside0 (Kd.R (Kd.int .i64) 3 w' w.heap.size (fun k_ => some k_ ≠ ((.slice (some ad195) t192.length co16) : Value).ownBlock) (.slice Ao20 t189.length co20) t189) ∧ Aside0 (Kd.R (Kd.int .i64) 3 w' w.heap.size (fun k_ => some k_ ≠ ((.slice Ao20 t189.length co20) : Value).ownBlock ∧ some k_ ≠ ((.slice Ao20 t189.length co20) : Value).ownBlock) (.slice (some ad195) t192.length co16) t192) ∧ Aside0 (Kd.R (Kd.int .i64) 3 w' w.heap.size (fun k_ => some k_ ≠ ((.slice (some ad195) t192.length co16) : Value).ownBlock) (.slice Ao20 t189.length co20) t189) ∧ Aside0 (Below w.heap.size w w'))
  case atStart => exact ⟨(x11_1), (x12_1), (0), (by first | rfl | (simp; done) | (simp [*]; done)), H', ⟨Nat.le_refl _⟩, ⟨Kp.kpR HO_11.out⟩, ⟨Kp.kpR HO_12.out⟩, ⟨Kp.kpR HO_13.out⟩, ⟨Kp.kpR (Kd.R_mono HO_33.out (fun _ hk => ⟨hk, hk⟩))⟩, ⟨Kp.kpR HO_13.out⟩, ⟨Kp.kpL HB.out⟩⟩
  clear H'
  try clear c1
  try clear p1
  try clear q1
  try clear hx1
  try clear p2
  try clear c6
  try clear c6b0
  try clear c6b1
  try clear c7
  try clear c7b0
  try clear c7b1
  try clear c8
  try clear c8b0
  try clear c8b1
  try clear c17
  try clear c17b0
  try clear c18
  try clear c18b0
  try clear c19
  try clear c19b0
  try clear p19
  try clear q19
  try clear hx19
  try clear hx195_0
  try clear p195
  try clear p2
  try clear q195
  obtain ⟨x11_2, x12_2, x41_2, rfl, HA, HK2, HO_11, HO_12, HO_13, HO_33, HO_39, HB⟩ := hrel
  cases gk with
  | zero => exact absurd HA.out (by simp [impl_Matched.l1])
  | succ k2 =>
   have H := HA.out
   clear HA
   simp only [impl_Matched.l1] at H
   by_cases c21 : x41_2 < (t189.length : Int)
   rotate_left
   ·rw [if_neg c21] at H
    have c21b0 : decide (x41_2 < (t189.length : Int)) = false := decide_eq_false c21
    clear c21
    have H' := Kp.a H
    clear H
    go_wp2
    repeat (go_quiet (fail); try go_wp2)
    go_roundg k2
    case measure => have := HK1.out; have := HK2.out; omega
    case rel => exact ⟨(x11_2), (x12_2), (wrap64 (x35_1 + 1)), (by first | rfl | (simp; done) | (simp [*]; done)), H', ⟨by have := HK1.out; have := HK2.out; omega⟩, ⟨Kp.kpR HO_11.out⟩, ⟨Kp.kpR HO_12.out⟩, ⟨Kp.kpR HO_13.out⟩, ⟨Kp.kpR (Kd.R_mono HO_33.out (fun _ hk => hk.1))⟩, ⟨Kp.kpL HB.out⟩⟩
   rw [if_pos c21] at H
   have c21b0 : decide (x41_2 < (t189.length : Int)) = true := decide_eq_true c21
   clear c21
   by_cases c22 : 0 ≤ x41_2
   rotate_left
   ·rw [if_neg c22] at H
    exact absurd H (by simp)
   rw [if_pos c22] at H
   have c22b0 : decide (0 ≤ x41_2) = true := decide_eq_true c22
   clear c22
   by_cases c23 : x41_2 < (t189.length : Int)
   rotate_left
   ·rw [if_neg c23] at H
    exact absurd H (by simp)
   rw [if_pos c23] at H
   have c23b0 : decide (x41_2 < (t189.length : Int)) = true := decide_eq_true c23
   clear c23
   by_cases c24 : 0 ≤ (rd t192 x35_1)
   rotate_left
   ·rw [if_neg c24] at H
    exact absurd H (by simp)
   rw [if_pos c24] at H
   have c24b0 : decide (0 ≤ (rd t192 x35_1)) = true := decide_eq_true c24
   clear c24
   by_cases c25 : (rd t192 x35_1) < (l0.length : Int)
   rotate_left
   ·rw [if_neg c25] at H
    exact absurd H (by simp)
   rw [if_pos c25] at H
   have c25b0 : decide ((rd t192 x35_1) < (l0.length : Int)) = true := decide_eq_true c25
   clear c25
   by_cases c26 : 0 ≤ (rd t189 x41_2)
   rotate_left
   ·rw [if_neg c26] at H
    exact absurd H (by simp)
   rw [if_pos c26] at H
   have c26b0 : decide (0 ≤ (rd t189 x41_2)) = true := decide_eq_true c26
   clear c26
   by_cases c27 : (rd t189 x41_2) < (l1.length : Int)
   rotate_left
   ·rw [if_neg c27] at H
    exact absurd H (by simp)
   rw [if_pos c27] at H
   have c27b0 : decide ((rd t189 x41_2) < (l1.length : Int)) = true := decide_eq_true c27
   clear c27
   by_cases c28 : (rd t189 x41_2) < (x11_2.length : Int)
   rotate_left
   ·rw [if_neg c28] at H
    exact absurd H (by simp)
   rw [if_pos c28] at H
   have c28b0 : decide ((rd t189 x41_2) < (x11_2.length : Int)) = true := decide_eq_true c28
   clear c28
   obtain ⟨bq29, hbq29⟩ : ∃ b_ : Bool, b_ = (rdOf false x11_2 (rd t189 x41_2)) := ⟨_, rfl⟩
   replace H : (if (bq29 = true) then (impl_Matched.l1 k2 l0 l1 a2 a3 x11_2 x12_2 t189 (rd t192 x35_1) t192 (t192.length : Int) x35_1 t189 (t189.length : Int) (wrap64 (x41_2 + 1))) else (if (wrap64 ((rd l0 (rd t192 x35_1)) - (rd l1 (rd t189 x41_2)))) ≥ a2 then (if (wrap64 ((rd l0 (rd t192 x35_1)) - (rd l1 (rd t189 x41_2)))) ≤ a3 then (if x12_2.length < 8796093022208 then (impl_Matched.l0 k2 l0 l1 a2 a3 (x11_2.set ((rd t189 x41_2) : Int).toNat true) (x12_2 ++ [(⟨(rd t192 x35_1), rd t189 x41_2⟩ : S37)]) t189 t192 (t192.length : Int) (wrap64 (x35_1 + 1))) else (none)) else (impl_Matched.l1 k2 l0 l1 a2 a3 x11_2 x12_2 t189 (rd t192 x35_1) t192 (t192.length : Int) x35_1 t189 (t189.length : Int) (wrap64 (x41_2 + 1)))) else (impl_Matched.l1 k2 l0 l1 a2 a3 x11_2 x12_2 t189 (rd t192 x35_1) t192 (t192.length : Int) x35_1 t189 (t189.length : Int) (wrap64 (x41_2 + 1))))) = some (r1, r2) := by rw [← hbq29] at H; exact H
   have Nbq29 := Kp.a hbq29
   clear hbq29
   by_cases c30 : (bq29 = true)
   ·subst c30
    have H1 : (impl_Matched.l1 k2 l0 l1 a2 a3 x11_2 x12_2 t189 (rd t192 x35_1) t192 (t192.length : Int) x35_1 t189 (t189.length : Int) (wrap64 (x41_2 + 1))) = some (r1, r2) := by rw [if_pos rfl] at H; exact H
    clear H
    have H := H1
    clear H1
    have H' := Kp.a H
    clear H
    have p196 : 0 ≤ (x41_2 : Int) := Kp.d
    have q196 : x41_2 < (t189.length : Int) := Kp.d
    obtain ⟨ad196, e196, hx196_0⟩ := Kd.at_int (Kd.R_reads' HO_39.out).2.2 x41_2 p196 q196
    cases e196
    replace p196 := eq_true p196
    replace q196 := eq_true q196
    have p197 : 0 ≤ ((rd t192 x35_1) : Int) := Kp.d
    have q197 : (rd t192 x35_1) < (l0.length : Int) := Kp.d
    obtain ⟨ad197, e197, hx197_0⟩ := Kd.at_int HR0.out (rd t192 x35_1) p197 q197
    cases e197
    replace hx197_0 := (HB.out.cell (World.block_lt_of_cell? w _ hx197_0)).trans hx197_0
    replace p197 := eq_true p197
    replace q197 := eq_true q197
    have p198 : 0 ≤ ((rd t189 x41_2) : Int) := Kp.d
    have q198 : (rd t189 x41_2) < (l1.length : Int) := Kp.d
    obtain ⟨ad198, e198, hx198_0⟩ := Kd.at_int HR1.out (rd t189 x41_2) p198 q198
    cases e198
    replace hx198_0 := (HB.out.cell (World.block_lt_of_cell? w _ hx198_0)).trans hx198_0
    replace p198 := eq_true p198
    replace q198 := eq_true q198
    obtain ⟨Ao31, co31, eo31⟩ := Kd.R_slice HO_11.out
    subst eo31
    have p199 : 0 ≤ ((rd t189 x41_2) : Int) := Kp.d
    have q199 : (rd t189 x41_2) < (x11_2.length : Int) := Kp.d
    obtain ⟨ad199, e199, hx199_0⟩ := Kd.at_bool (Kd.R_reads' HO_11.out).2.2 (rd t189 x41_2) p199 q199
    (try rw [← Nbq29.out] at hx199_0)
    cases e199
    replace p199 := eq_true p199
    replace q199 := eq_true q199
    go_wp2
    repeat (go_quiet (fail); try go_wp2)
    go_roundg k2
    case measure => have := HK1.out; have := HK2.out; omega
    case rel => exact ⟨(x11_2), (x12_2), (wrap64 (x41_2 + 1)), (by first | rfl | (simp; done) | (simp [*]; done)), H', ⟨by have := HK1.out; have := HK2.out; omega⟩, ⟨Kp.kpR HO_11.out⟩, ⟨Kp.kpR HO_12.out⟩, ⟨Kp.kpR HO_13.out⟩, ⟨Kp.kpR HO_33.out⟩, ⟨Kp.kpR HO_39.out⟩, ⟨Kp.kpL HB.out⟩⟩
   replace c30 := Bool.eq_false_iff.mpr c30
   subst c30
   have H1 : (if (wrap64 ((rd l0 (rd t192 x35_1)) - (rd l1 (rd t189 x41_2)))) ≥ a2 then (if (wrap64 ((rd l0 (rd t192 x35_1)) - (rd l1 (rd t189 x41_2)))) ≤ a3 then (if x12_2.length < 8796093022208 then (impl_Matched.l0 k2 l0 l1 a2 a3 (x11_2.set ((rd t189 x41_2) : Int).toNat true) (x12_2 ++ [(⟨(rd t192 x35_1), rd t189 x41_2⟩ : S37)]) t189 t192 (t192.length : Int) (wrap64 (x35_1 + 1))) else (none)) else (impl_Matched.l1 k2 l0 l1 a2 a3 x11_2 x12_2 t189 (rd t192 x35_1) t192 (t192.length : Int) x35_1 t189 (t189.length : Int) (wrap64 (x41_2 + 1)))) else (impl_Matched.l1 k2 l0 l1 a2 a3 x11_2 x12_2 t189 (rd t192 x35_1) t192 (t192.length : Int) x35_1 t189 (t189.length : Int) (wrap64 (x41_2 + 1)))) = some (r1, r2) := by rw [if_neg (show ¬ (false = true) by decide)] at H; exact H
   clear H
   have H := H1
   clear H1
   by_cases c32 : (wrap64 ((rd l0 (rd t192 x35_1)) - (rd l1 (rd t189 x41_2)))) ≥ a2
   rotate_left
   ·rw [if_neg c32] at H
    have c32b0 : decide (a2 ≤ (wrap64 ((rd l0 (rd t192 x35_1)) - (rd l1 (rd t189 x41_2))))) = false := decide_eq_false c32
    clear c32
    have H' := Kp.a H
    clear H
    have p196 : 0 ≤ (x41_2 : Int) := Kp.d
    have q196 : x41_2 < (t189.length : Int) := Kp.d
    obtain ⟨ad196, e196, hx196_0⟩ := Kd.at_int (Kd.R_reads' HO_39.out).2.2 x41_2 p196 q196
    cases e196
    replace p196 := eq_true p196
    replace q196 := eq_true q196
    have p197 : 0 ≤ ((rd t192 x35_1) : Int) := Kp.d
    have q197 : (rd t192 x35_1) < (l0.length : Int) := Kp.d
    obtain ⟨ad197, e197, hx197_0⟩ := Kd.at_int HR0.out (rd t192 x35_1) p197 q197
    cases e197
    replace hx197_0 := (HB.out.cell (World.block_lt_of_cell? w _ hx197_0)).trans hx197_0
    replace p197 := eq_true p197
    replace q197 := eq_true q197
    have p198 : 0 ≤ ((rd t189 x41_2) : Int) := Kp.d
    have q198 : (rd t189 x41_2) < (l1.length : Int) := Kp.d
    obtain ⟨ad198, e198, hx198_0⟩ := Kd.at_int HR1.out (rd t189 x41_2) p198 q198
    cases e198
    replace hx198_0 := (HB.out.cell (World.block_lt_of_cell? w _ hx198_0)).trans hx198_0
    replace p198 := eq_true p198
    replace q198 := eq_true q198
    obtain ⟨Ao41, co41, eo41⟩ := Kd.R_slice HO_11.out
    subst eo41
    have p199 : 0 ≤ ((rd t189 x41_2) : Int) := Kp.d
    have q199 : (rd t189 x41_2) < (x11_2.length : Int) := Kp.d
    obtain ⟨ad199, e199, hx199_0⟩ := Kd.at_bool (Kd.R_reads' HO_11.out).2.2 (rd t189 x41_2) p199 q199
    (try rw [← Nbq29.out] at hx199_0)
    cases e199
    replace p199 := eq_true p199
    replace q199 := eq_true q199
    go_wp2
    repeat (go_quiet (fail); try go_wp2)
    go_roundg k2
    case measure => have := HK1.out; have := HK2.out; omega
    case rel => exact ⟨(x11_2), (x12_2), (wrap64 (x41_2 + 1)), (by first | rfl | (simp; done) | (simp [*]; done)), H', ⟨by have := HK1.out; have := HK2.out; omega⟩, ⟨Kp.kpR HO_11.out⟩, ⟨Kp.kpR HO_12.out⟩, ⟨Kp.kpR HO_13.out⟩, ⟨Kp.kpR HO_33.out⟩, ⟨Kp.kpR HO_39.out⟩, ⟨Kp.kpL HB.out⟩⟩
   rw [if_pos c32] at H
   have c32b0 : decide (a2 ≤ (wrap64 ((rd l0 (rd t192 x35_1)) - (rd l1 (rd t189 x41_2))))) = true := decide_eq_true c32
   clear c32
   by_cases c33 : (wrap64 ((rd l0 (rd t192 x35_1)) - (rd l1 (rd t189 x41_2)))) ≤ a3
   rotate_left
   ·rw [if_neg c33] at H
    have c33b0 : decide ((wrap64 ((rd l0 (rd t192 x35_1)) - (rd l1 (rd t189 x41_2)))) ≤ a3) = false := decide_eq_false c33
    clear c33
    have H' := Kp.a H
    clear H
    have p196 : 0 ≤ (x41_2 : Int) := Kp.d
    have q196 : x41_2 < (t189.length : Int) := Kp.d
    obtain ⟨ad196, e196, hx196_0⟩ := Kd.at_int (Kd.R_reads' HO_39.out).2.2 x41_2 p196 q196
    cases e196
    replace p196 := eq_true p196
    replace q196 := eq_true q196
    have p197 : 0 ≤ ((rd t192 x35_1) : Int) := Kp.d
    have q197 : (rd t192 x35_1) < (l0.length : Int) := Kp.d
    obtain ⟨ad197, e197, hx197_0⟩ := Kd.at_int HR0.out (rd t192 x35_1) p197 q197
    cases e197
    replace hx197_0 := (HB.out.cell (World.block_lt_of_cell? w _ hx197_0)).trans hx197_0
    replace p197 := eq_true p197
    replace q197 := eq_true q197
    have p198 : 0 ≤ ((rd t189 x41_2) : Int) := Kp.d
    have q198 : (rd t189 x41_2) < (l1.length : Int) := Kp.d
    obtain ⟨ad198, e198, hx198_0⟩ := Kd.at_int HR1.out (rd t189 x41_2) p198 q198
    cases e198
    replace hx198_0 := (HB.out.cell (World.block_lt_of_cell? w _ hx198_0)).trans hx198_0
    replace p198 := eq_true p198
    replace q198 := eq_true q198
    obtain ⟨Ao40, co40, eo40⟩ := Kd.R_slice HO_11.out
    subst eo40
    have p199 : 0 ≤ ((rd t189 x41_2) : Int) := Kp.d
    have q199 : (rd t189 x41_2) < (x11_2.length : Int) := Kp.d
    obtain ⟨ad199, e199, hx199_0⟩ := Kd.at_bool (Kd.R_reads' HO_11.out).2.2 (rd t189 x41_2) p199 q199
    (try rw [← Nbq29.out] at hx199_0)
    cases e199
    replace p199 := eq_true p199
    replace q199 := eq_true q199
    go_wp2
    repeat (go_quiet (fail); try go_wp2)
    go_roundg k2
    case measure => have := HK1.out; have := HK2.out; omega
    case rel => exact ⟨(x11_2), (x12_2), (wrap64 (x41_2 + 1)), (by first | rfl | (simp; done) | (simp [*]; done)), H', ⟨by have := HK1.out; have := HK2.out; omega⟩, ⟨Kp.kpR HO_11.out⟩, ⟨Kp.kpR HO_12.out⟩, ⟨Kp.kpR HO_13.out⟩, ⟨Kp.kpR HO_33.out⟩, ⟨Kp.kpR HO_39.out⟩, ⟨Kp.kpL HB.out⟩⟩
   rw [if_pos c33] at H
   have c33b0 : decide ((wrap64 ((rd l0 (rd t192 x35_1)) - (rd l1 (rd t189 x41_2)))) ≤ a3) = true := decide_eq_true c33
   clear c33
   obtain ⟨y200, hy200⟩ : ∃ y_ : List Bool, y_ = (x11_2.set ((rd t189 x41_2) : Int).toNat true) := ⟨_, rfl⟩
   replace H : (if x12_2.length < 8796093022208 then (impl_Matched.l0 k2 l0 l1 a2 a3 y200 (x12_2 ++ [(⟨(rd t192 x35_1), rd t189 x41_2⟩ : S37)]) t189 t192 (t192.length : Int) (wrap64 (x35_1 + 1))) else (none)) = some (r1, r2) := by first | (rw [hy200]; with_reducible exact H) | (have H2_ := (Option.bind_some _ _).symm.trans H; rw [hy200]; with_reducible exact H2_) | (have H2_ := (Option.bind_some _ _).symm.trans H; with_reducible exact H2_) | with_reducible exact H | (rw [hy200]; exact H) | exact H
   have Ny200 := Kp.a hy200
   clear hy200
   by_cases c35 : x12_2.length < 8796093022208
   rotate_left
   ·rw [if_neg c35] at H
    exact absurd H (by simp)
   rw [if_pos c35] at H
   have LMc35 := Kp.a c35
   clear c35
   obtain ⟨y201, hy201⟩ : ∃ y_ : List (S37), y_ = (x12_2 ++ [(⟨(rd t192 x35_1), rd t189 x41_2⟩ : S37)]) := ⟨_, rfl⟩
   replace H : (impl_Matched.l0 k2 l0 l1 a2 a3 y200 y201 t189 t192 (t192.length : Int) (wrap64 (x35_1 + 1))) = some (r1, r2) := by first | (rw [hy201]; with_reducible exact H) | (have H2_ := (Option.bind_some _ _).symm.trans H; rw [hy201]; with_reducible exact H2_) | (have H2_ := (Option.bind_some _ _).symm.trans H; with_reducible exact H2_) | with_reducible exact H | (rw [hy201]; exact H) | exact H
   have Ny201 := Kp.a hy201
   clear hy201
   have H' := Kp.a H
   clear H
   have p196 : 0 ≤ (x41_2 : Int) := Kp.d
   have q196 : x41_2 < (t189.length : Int) := Kp.d
   obtain ⟨ad196, e196, hx196_0⟩ := Kd.at_int (Kd.R_reads' HO_39.out).2.2 x41_2 p196 q196
   cases e196
   replace p196 := eq_true p196
   replace q196 := eq_true q196
   have p197 : 0 ≤ ((rd t192 x35_1) : Int) := Kp.d
   have q197 : (rd t192 x35_1) < (l0.length : Int) := Kp.d
   obtain ⟨ad197, e197, hx197_0⟩ := Kd.at_int HR0.out (rd t192 x35_1) p197 q197
   cases e197
   replace hx197_0 := (HB.out.cell (World.block_lt_of_cell? w _ hx197_0)).trans hx197_0
   replace p197 := eq_true p197
   replace q197 := eq_true q197
   have p198 : 0 ≤ ((rd t189 x41_2) : Int) := Kp.d
   have q198 : (rd t189 x41_2) < (l1.length : Int) := Kp.d
   obtain ⟨ad198, e198, hx198_0⟩ := Kd.at_int HR1.out (rd t189 x41_2) p198 q198
   cases e198
   replace hx198_0 := (HB.out.cell (World.block_lt_of_cell? w _ hx198_0)).trans hx198_0
   replace p198 := eq_true p198
   replace q198 := eq_true q198
   obtain ⟨Ao36, co36, eo36⟩ := Kd.R_slice HO_11.out
   subst eo36
   have p199 : 0 ≤ ((rd t189 x41_2) : Int) := Kp.d
   have q199 : (rd t189 x41_2) < (x11_2.length : Int) := Kp.d
   obtain ⟨ad199, e199, hx199_0⟩ := Kd.at_bool (Kd.R_reads' HO_11.out).2.2 (rd t189 x41_2) p199 q199
   (try rw [← Nbq29.out] at hx199_0)
   cases e199
   replace p199 := eq_true p199
   replace q199 := eq_true q199
   have p34 : 0 ≤ ((rd t189 x41_2) : Int) := Kp.d
   have q34 : ((rd t189 x41_2) : Int) < ((x11_2.length : Int) : Int) := Kp.d
   obtain ⟨go34, co34, eo34, gb34, gl34, cl34, HG34⟩ := Kd.R_form HO_11.out (by omega)
   (first | cases eo34 | (injection eo34 with ea_ en_ ec_; (first | subst ea_ | (injection ea_ with ea_; subst ea_)); subst ec_; clear en_))
   have GB34 := Kp.a gb34
   have GG34 := Kp.a HG34
   clear gb34 gl34 HG34
   (first | simp only [add_plain] at hx199_0 | skip)
   obtain ⟨hx34_0, hf34_0⟩ := Kd.R_celln false HO_11.out ((rd t189 x41_2) : Int) p34 q34
   replace p34 := eq_true p34
   replace q34 := eq_true q34
   have HP37 := Kd.R_putg HO_11.out ((rd t189 x41_2) : Int) true
   go_wp2_with (first | ((with_reducible refine gate_store (t := 4) (p := 71) rfl ?_); (try (rw [drewN_self wr]; generalize hq_ : World.drewN wr _ = wr; have n0_ := Kp.a (Kd.R_at hq_ HO_11.out); have n1_ := Kp.a (Kd.R_at hq_ HO_12.out); have n2_ := Kp.a (Kd.R_at hq_ HO_13.out); have n3_ := Kp.a (Kd.R_at hq_ HO_33.out); have n4_ := Kp.a (Kd.R_at hq_ HO_39.out); have n5_ := Kp.a (below_at hq_ HB.out); clear hq_ HO_11 HO_12 HO_13 HO_33 HO_39 HB; have HO_11 := n0_; have HO_12 := n1_; have HO_13 := n2_; have HO_33 := n3_; have HO_39 := n4_; have HB := n5_; clear n0_ n1_ n2_ n3_ n4_ n5_; (try (have HP37 := Kd.R_putg HO_11.out ((rd t189 x41_2) : Int) true)); (try (obtain ⟨hx34_0, hf34_0⟩ := Kd.R_celln false HO_11.out ((rd t189 x41_2) : Int) (of_eq_true p34) (of_eq_true q34))))); refine store_event (t := 4) (p := 71) (v := ?vo_w38) (w1 := (wr.setCell ⟨go34, ((rd t189 x41_2) : Int).toNat, none⟩ (.bool true))) ?hg ?ho ?hn ?hr ?_; (case ho => rfl); (case hg => rfl); (case hn => rfl); (case hr => first | (go_simp; done) | (go_simp; rfl)); intro w38 hw; have hg : wr.grownBy w38 (some go34) := (by rw [hw]; exact HP37.2); have hp_ : Kd.R Kd.bool 4 w38 w.heap.size (fun _ => True) (.slice (some ⟨go34, 0, none⟩) x11_2.length co36) y200 := (by rw [hw, Ny200.out]; exact HP37.1); clear HP37; have n0_ := Kp.a (hp_); have n1_ := Kp.a (Kd.R_over' (v := (.slice (some ⟨go34, 0, none⟩) x11_2.length co36)) (Kp.kpR HO_12.out) (Kd.R_typed HO_11.out) (by decide) hg); have n2_ := Kp.a (Kd.R_over' (v := (.slice (some ⟨go34, 0, none⟩) x11_2.length co36)) (Kp.kpR HO_13.out) (Kd.R_typed HO_11.out) (by decide) hg); have n3_ := Kp.a (Kd.R_over' (v := (.slice (some ⟨go34, 0, none⟩) x11_2.length co36)) (Kp.kpR HO_33.out) (Kd.R_typed HO_11.out) (by decide) hg); have n4_ := Kp.a (Kd.R_over' (v := (.slice (some ⟨go34, 0, none⟩) x11_2.length co36)) (Kp.kpR HO_39.out) (Kd.R_typed HO_11.out) (by decide) hg); have n5_ := Kp.a ((by rw [hw]; exact below_set (HB.out) GB34.out : Below w.heap.size w w38)); clear HO_11; clear HO_12; clear HO_13; clear HO_33; clear HO_39; clear HB; have HO_11 := n0_; have HO_12 := n1_; have HO_13 := n2_; have HO_33 := n3_; have HO_39 := n4_; have HB := n5_; clear n0_ n1_ n2_ n3_ n4_ n5_; clear hg hw hp_) | ((with_reducible refine gate_builtin (b := .append) (xs := #[.tmp 72, .tmp 76]) rfl ?_); at_builtin; refine Kd.R_append k37 (w0 := w) w.heap.size rfl (.tmp 72) (.tmp 76) 23 37 (.agg #[(.int .i64 0), (.int .i64 0)]) 16 rfl Try.underlying23 info37 rfl (by decide) (by omega) u12 x12_2 (⟨(rd t192 x35_1), rd t189 x41_2⟩ : S37) [.int .i64 (rd t192 x35_1), .int .i64 (rd t189 x41_2)] (fun _ => True) (fun _ => False) rfl rfl ?aP (fun _ hk => hk.elim) ?aF ?aO ?aB ?aS ?aL ?_; (case aP => exact k37_mkM _ _ _ (⟨(rd t192 x35_1), rd t189 x41_2⟩ : S37)); (case aB => exact (Kp.kpL HB.out)); (case aF => exact (fun _ _ => trivial)); (case aO => exact (Kp.kpR HO_12.out)); (case aS => exact (below_size (Kp.kpL HB.out))); (case aL => have := LMc35.out; omega); intro v202 w39 ho hb hg hat; rw [← Ny201.out] at ho; have n0_ := Kp.a (Kd.R_over' (Kp.kpR HO_11.out) (Kd.R_typed (Kp.kpR HO_12.out)) (by decide) hg); have n1_ := Kp.a (Kd.R_over' (Kp.kpR HO_13.out) (Kd.R_typed (Kp.kpR HO_12.out)) (by decide) hg); have n2_ := Kp.a (Kd.R_over' (Kp.kpR HO_33.out) (Kd.R_typed (Kp.kpR HO_12.out)) (by decide) hg); have n3_ := Kp.a (Kd.R_over' (Kp.kpR HO_39.out) (Kd.R_typed (Kp.kpR HO_12.out)) (by decide) hg); have n4_ := Kp.a (hb); have n5_ := Kp.a (ho); clear HO_11; clear HO_13; clear HO_33; clear HO_39; clear HB; clear HO_12; have HO_11 := n0_; have HO_13 := n1_; have HO_33 := n2_; have HO_39 := n3_; have HB := n4_; have HO203 := n5_; clear n0_ n1_ n2_ n3_ n4_ n5_; clear ho hb hg hat))
   repeat (go_quiet (first | ((with_reducible refine gate_store (t := 4) (p := 71) rfl ?_); (try (rw [drewN_self wr]; generalize hq_ : World.drewN wr _ = wr; have n0_ := Kp.a (Kd.R_at hq_ HO_11.out); have n1_ := Kp.a (Kd.R_at hq_ HO_12.out); have n2_ := Kp.a (Kd.R_at hq_ HO_13.out); have n3_ := Kp.a (Kd.R_at hq_ HO_33.out); have n4_ := Kp.a (Kd.R_at hq_ HO_39.out); have n5_ := Kp.a (below_at hq_ HB.out); clear hq_ HO_11 HO_12 HO_13 HO_33 HO_39 HB; have HO_11 := n0_; have HO_12 := n1_; have HO_13 := n2_; have HO_33 := n3_; have HO_39 := n4_; have HB := n5_; clear n0_ n1_ n2_ n3_ n4_ n5_; (try (have HP37 := Kd.R_putg HO_11.out ((rd t189 x41_2) : Int) true)); (try (obtain ⟨hx34_0, hf34_0⟩ := Kd.R_celln false HO_11.out ((rd t189 x41_2) : Int) (of_eq_true p34) (of_eq_true q34))))); refine store_event (t := 4) (p := 71) (v := ?vo_w38) (w1 := (wr.setCell ⟨go34, ((rd t189 x41_2) : Int).toNat, none⟩ (.bool true))) ?hg ?ho ?hn ?hr ?_; (case ho => rfl); (case hg => rfl); (case hn => rfl); (case hr => first | (go_simp; done) | (go_simp; rfl)); intro w38 hw; have hg : wr.grownBy w38 (some go34) := (by rw [hw]; exact HP37.2); have hp_ : Kd.R Kd.bool 4 w38 w.heap.size (fun _ => True) (.slice (some ⟨go34, 0, none⟩) x11_2.length co36) y200 := (by rw [hw, Ny200.out]; exact HP37.1); clear HP37; have n0_ := Kp.a (hp_); have n1_ := Kp.a (Kd.R_over' (v := (.slice (some ⟨go34, 0, none⟩) x11_2.length co36)) (Kp.kpR HO_12.out) (Kd.R_typed HO_11.out) (by decide) hg); have n2_ := Kp.a (Kd.R_over' (v := (.slice (some ⟨go34, 0, none⟩) x11_2.length co36)) (Kp.kpR HO_13.out) (Kd.R_typed HO_11.out) (by decide) hg); have n3_ := Kp.a (Kd.R_over' (v := (.slice (some ⟨go34, 0, none⟩) x11_2.length co36)) (Kp.kpR HO_33.out) (Kd.R_typed HO_11.out) (by decide) hg); have n4_ := Kp.a (Kd.R_over' (v := (.slice (some ⟨go34, 0, none⟩) x11_2.length co36)) (Kp.kpR HO_39.out) (Kd.R_typed HO_11.out) (by decide) hg); have n5_ := Kp.a ((by rw [hw]; exact below_set (HB.out) GB34.out : Below w.heap.size w w38)); clear HO_11; clear HO_12; clear HO_13; clear HO_33; clear HO_39; clear HB; have HO_11 := n0_; have HO_12 := n1_; have HO_13 := n2_; have HO_33 := n3_; have HO_39 := n4_; have HB := n5_; clear n0_ n1_ n2_ n3_ n4_ n5_; clear hg hw hp_) | ((with_reducible refine gate_builtin (b := .append) (xs := #[.tmp 72, .tmp 76]) rfl ?_); at_builtin; refine Kd.R_append k37 (w0 := w) w.heap.size rfl (.tmp 72) (.tmp 76) 23 37 (.agg #[(.int .i64 0), (.int .i64 0)]) 16 rfl Try.underlying23 info37 rfl (by decide) (by omega) u12 x12_2 (⟨(rd t192 x35_1), rd t189 x41_2⟩ : S37) [.int .i64 (rd t192 x35_1), .int .i64 (rd t189 x41_2)] (fun _ => True) (fun _ => False) rfl rfl ?aP (fun _ hk => hk.elim) ?aF ?aO ?aB ?aS ?aL ?_; (case aP => exact k37_mkM _ _ _ (⟨(rd t192 x35_1), rd t189 x41_2⟩ : S37)); (case aB => exact (Kp.kpL HB.out)); (case aF => exact (fun _ _ => trivial)); (case aO => exact (Kp.kpR HO_12.out)); (case aS => exact (below_size (Kp.kpL HB.out))); (case aL => have := LMc35.out; omega); intro v202 w39 ho hb hg hat; rw [← Ny201.out] at ho; have n0_ := Kp.a (Kd.R_over' (Kp.kpR HO_11.out) (Kd.R_typed (Kp.kpR HO_12.out)) (by decide) hg); have n1_ := Kp.a (Kd.R_over' (Kp.kpR HO_13.out) (Kd.R_typed (Kp.kpR HO_12.out)) (by decide) hg); have n2_ := Kp.a (Kd.R_over' (Kp.kpR HO_33.out) (Kd.R_typed (Kp.kpR HO_12.out)) (by decide) hg); have n3_ := Kp.a (Kd.R_over' (Kp.kpR HO_39.out) (Kd.R_typed (Kp.kpR HO_12.out)) (by decide) hg); have n4_ := Kp.a (hb); have n5_ := Kp.a (ho); clear HO_11; clear HO_13; clear HO_33; clear HO_39; clear HB; clear HO_12; have HO_11 := n0_; have HO_13 := n1_; have HO_33 := n2_; have HO_39 := n3_; have HB := n4_; have HO203 := n5_; clear n0_ n1_ n2_ n3_ n4_ n5_; clear ho hb hg hat)); try go_wp2_with (first | ((with_reducible refine gate_store (t := 4) (p := 71) rfl ?_); (try (rw [drewN_self wr]; generalize hq_ : World.drewN wr _ = wr; have n0_ := Kp.a (Kd.R_at hq_ HO_11.out); have n1_ := Kp.a (Kd.R_at hq_ HO_12.out); have n2_ := Kp.a (Kd.R_at hq_ HO_13.out); have n3_ := Kp.a (Kd.R_at hq_ HO_33.out); have n4_ := Kp.a (Kd.R_at hq_ HO_39.out); have n5_ := Kp.a (below_at hq_ HB.out); clear hq_ HO_11 HO_12 HO_13 HO_33 HO_39 HB; have HO_11 := n0_; have HO_12 := n1_; have HO_13 := n2_; have HO_33 := n3_; have HO_39 := n4_; have HB := n5_; clear n0_ n1_ n2_ n3_ n4_ n5_; (try (have HP37 := Kd.R_putg HO_11.out ((rd t189 x41_2) : Int) true)); (try (obtain ⟨hx34_0, hf34_0⟩ := Kd.R_celln false HO_11.out ((rd t189 x41_2) : Int) (of_eq_true p34) (of_eq_true q34))))); refine store_event (t := 4) (p := 71) (v := ?vo_w38) (w1 := (wr.setCell ⟨go34, ((rd t189 x41_2) : Int).toNat, none⟩ (.bool true))) ?hg ?ho ?hn ?hr ?_; (case ho => rfl); (case hg => rfl); (case hn => rfl); (case hr => first | (go_simp; done) | (go_simp; rfl)); intro w38 hw; have hg : wr.grownBy w38 (some go34) := (by rw [hw]; exact HP37.2); have hp_ : Kd.R Kd.bool 4 w38 w.heap.size (fun _ => True) (.slice (some ⟨go34, 0, none⟩) x11_2.length co36) y200 := (by rw [hw, Ny200.out]; exact HP37.1); clear HP37; have n0_ := Kp.a (hp_); have n1_ := Kp.a (Kd.R_over' (v := (.slice (some ⟨go34, 0, none⟩) x11_2.length co36)) (Kp.kpR HO_12.out) (Kd.R_typed HO_11.out) (by decide) hg); have n2_ := Kp.a (Kd.R_over' (v := (.slice (some ⟨go34, 0, none⟩) x11_2.length co36)) (Kp.kpR HO_13.out) (Kd.R_typed HO_11.out) (by decide) hg); have n3_ := Kp.a (Kd.R_over' (v := (.slice (some ⟨go34, 0, none⟩) x11_2.length co36)) (Kp.kpR HO_33.out) (Kd.R_typed HO_11.out) (by decide) hg); have n4_ := Kp.a (Kd.R_over' (v := (.slice (some ⟨go34, 0, none⟩) x11_2.length co36)) (Kp.kpR HO_39.out) (Kd.R_typed HO_11.out) (by decide) hg); have n5_ := Kp.a ((by rw [hw]; exact below_set (HB.out) GB34.out : Below w.heap.size w w38)); clear HO_11; clear HO_12; clear HO_13; clear HO_33; clear HO_39; clear HB; have HO_11 := n0_; have HO_12 := n1_; have HO_13 := n2_; have HO_33 := n3_; have HO_39 := n4_; have HB := n5_; clear n0_ n1_ n2_ n3_ n4_ n5_; clear hg hw hp_) | ((with_reducible refine gate_builtin (b := .append) (xs := #[.tmp 72, .tmp 76]) rfl ?_); at_builtin; refine Kd.R_append k37 (w0 := w) w.heap.size rfl (.tmp 72) (.tmp 76) 23 37 (.agg #[(.int .i64 0), (.int .i64 0)]) 16 rfl Try.underlying23 info37 rfl (by decide) (by omega) u12 x12_2 (⟨(rd t192 x35_1), rd t189 x41_2⟩ : S37) [.int .i64 (rd t192 x35_1), .int .i64 (rd t189 x41_2)] (fun _ => True) (fun _ => False) rfl rfl ?aP (fun _ hk => hk.elim) ?aF ?aO ?aB ?aS ?aL ?_; (case aP => exact k37_mkM _ _ _ (⟨(rd t192 x35_1), rd t189 x41_2⟩ : S37)); (case aB => exact (Kp.kpL HB.out)); (case aF => exact (fun _ _ => trivial)); (case aO => exact (Kp.kpR HO_12.out)); (case aS => exact (below_size (Kp.kpL HB.out))); (case aL => have := LMc35.out; omega); intro v202 w39 ho hb hg hat; rw [← Ny201.out] at ho; have n0_ := Kp.a (Kd.R_over' (Kp.kpR HO_11.out) (Kd.R_typed (Kp.kpR HO_12.out)) (by decide) hg); have n1_ := Kp.a (Kd.R_over' (Kp.kpR HO_13.out) (Kd.R_typed (Kp.kpR HO_12.out)) (by decide) hg); have n2_ := Kp.a (Kd.R_over' (Kp.kpR HO_33.out) (Kd.R_typed (Kp.kpR HO_12.out)) (by decide) hg); have n3_ := Kp.a (Kd.R_over' (Kp.kpR HO_39.out) (Kd.R_typed (Kp.kpR HO_12.out)) (by decide) hg); have n4_ := Kp.a (hb); have n5_ := Kp.a (ho); clear HO_11; clear HO_13; clear HO_33; clear HO_39; clear HB; clear HO_12; have HO_11 := n0_; have HO_13 := n1_; have HO_33 := n2_; have HO_39 := n3_; have HB := n4_; have HO203 := n5_; clear n0_ n1_ n2_ n3_ n4_ n5_; clear ho hb hg hat)))
   go_roundg k2
   case measure => have := HK1.out; have := HK2.out; omega
   case rel => exact ⟨(y200), (y201), (wrap64 (x35_1 + 1)), (by first | rfl | (simp; done) | (simp [*]; done)), H', ⟨by have := HK1.out; have := HK2.out; omega⟩, ⟨Kp.kpR HO_11.out⟩, ⟨Kp.kpR HO203.out⟩, ⟨Kp.kpR HO_13.out⟩, ⟨Kp.kpR (Kd.R_mono HO_33.out (fun _ hk => hk.1))⟩, ⟨Kp.kpL HB.out⟩⟩
def IsS54 (w0 W : World) (g : Nat) (f0 : List Int) (f1 : Int) (f2 : Int) : Prop := ∃ A0 c0, W.heap[g]? = some (.cells #[.slice A0 f0.length c0, .int .i64 f1, .int .i64 f2] 54 (0, 0)) ∧ w0.heap.size ≤ g ∧ Kd.C (Kd.int .u8) w0 A0 f0.length f0
theorem IsS54.grown {w0 W : World} {g : Nat} {f0 : List Int} {f1 : Int} {f2 : Int} {W1 : World} {row : Option Nat} (h : IsS54 w0 W g f0 f1 f2) (hw : W.grownBy W1 row) (hne : some g ≠ row) : IsS54 w0 W1 g f0 f1 f2 := by
 obtain ⟨A0, c0, hb, hg, hr0⟩ := h
 exact ⟨A0, c0, blk_grown hb hw hne, hg, hr0⟩
theorem IsS54.own_neN {w0 W : World} {g : Nat} {f0 : List Int} {f1 : Int} {f2 : Int} {α : Type} {d : Kd α} {e : Nat} {base : Nat} {ok : Nat → Prop} {v : Value} {xs : List α} (h : IsS54 w0 W g f0 f1 f2) (ho : Kd.N d e W base ok v xs) (ht : e ≠ 54) : some g ≠ v.ownBlock := by
 obtain ⟨A0, c0, hb, hg, hr0⟩ := h
 exact Kd.N_ne ho hb ht
theorem IsS54.fresh {w0 W : World} {g : Nat} {f0 : List Int} {f1 : Int} {f2 : Int} (h : IsS54 w0 W g f0 f1 f2) : ∀ k, W.heap.size ≤ k → k ≠ g := by
 obtain ⟨A0, c0, hb, hg, hr0⟩ := h
 exact Kd.freshB hb
theorem IsS54.kept {w0 W : World} {g : Nat} {f0 : List Int} {f1 : Int} {f2 : Int} {W1 : World} {S : Nat → Prop} (h : IsS54 w0 W g f0 f1 f2) (hk : Kept W W1 S) (hne : ¬ S g) : IsS54 w0 W1 g f0 f1 f2 := by
 obtain ⟨A0, c0, hb, hg, hr0⟩ := h
 exact ⟨A0, c0, blk_kept hb hk hne, hg, hr0⟩
theorem IsS54.below {w0 W : World} {g : Nat} {f0 : List Int} {f1 : Int} {f2 : Int} {W1 : World} (h : IsS54 w0 W g f0 f1 f2) (hw : Below W.heap.size W W1) : IsS54 w0 W1 g f0 f1 f2 := h.grown (grown_of_below hw none) (by simp)
theorem IsS54.alloc {w0 W : World} {g : Nat} {f0 : List Int} {f1 : Int} {f2 : Int} (h : IsS54 w0 W g f0 f1 f2) (o : Obj) : IsS54 w0 (W.alloc o) g f0 f1 f2 := h.below (below_alloc (Below.refl _ _) o)
theorem IsS54.drewN {w0 W : World} {g : Nat} {f0 : List Int} {f1 : Int} {f2 : Int} (h : IsS54 w0 W g f0 f1 f2) (m : Nat) : IsS54 w0 (W.drewN m) g f0 f1 f2 := h
theorem IsS54.drew {w0 W : World} {g : Nat} {f0 : List Int} {f1 : Int} {f2 : Int} (h : IsS54 w0 W g f0 f1 f2) : IsS54 w0 W.drew g f0 f1 f2 := h
theorem IsS54.at_ {w0 W : World} {g : Nat} {f0 : List Int} {f1 : Int} {f2 : Int} {w' : World} {m : Nat} (hq : W.drewN m = w') (h : IsS54 w0 W g f0 f1 f2) : IsS54 w0 w' g f0 f1 f2 := by subst hq; exact IsS54.drewN h m
theorem IsS54.apart {w0 W : World} {g : Nat} {f0 : List Int} {f1 : Int} {f2 : Int} {α : Type} {d : Kd α} {e : Nat} {base : Nat} {ok : Nat → Prop} {v : Value} {xs : List α} (h : IsS54 w0 W g f0 f1 f2) (ho : d.R e W base ok v xs) (ht : ∀ q, q ∈ e :: d.E → q ≠ 54) : d.R e W base (fun k => ok k ∧ k ≠ g) v xs := by
 obtain ⟨A0, c0, hb, hg, hr0⟩ := h
 exact Kd.R_types ho hb ht
theorem IsS54.own_ne {w0 W : World} {g : Nat} {f0 : List Int} {f1 : Int} {f2 : Int} {α : Type} {d : Kd α} {e : Nat} {base : Nat} {ok : Nat → Prop} {v : Value} {xs : List α} (h : IsS54 w0 W g f0 f1 f2) (ho : d.R e W base ok v xs) (ht : e ≠ 54) : some g ≠ v.ownBlock := by
 obtain ⟨A0, c0, hb, hg, hr0⟩ := h
 exact Kd.R_ne ho hb ht
theorem IsS54.apartQ {w0 W : World} {g : Nat} {f0 : List Int} {f1 : Int} {f2 : Int} {α : Type} {d : Kd α} {e : Nat} {base : Nat} {ok : Nat → Prop} {v : Value} {xs : List α} (h : IsS54 w0 W g f0 f1 f2) (ho : d.Q e W base ok v xs) (ht : ∀ q, q ∈ e :: d.E → q ≠ 54) : d.Q e W base (fun k => ok k ∧ k ≠ g) v xs := by
 obtain ⟨A0, c0, hb, hg, hr0⟩ := h
 exact Kd.Q_types ho hb ht
theorem IsS54.own_neQ {w0 W : World} {g : Nat} {f0 : List Int} {f1 : Int} {f2 : Int} {α : Type} {d : Kd α} {e : Nat} {base : Nat} {ok : Nat → Prop} {v : Value} {xs : List α} (h : IsS54 w0 W g f0 f1 f2) (ho : d.Q e W base ok v xs) (ht : e ≠ 54) : some g ≠ v.ownBlock := by
 obtain ⟨A0, c0, hb, hg, hr0⟩ := h
 exact Kd.Q_ne ho hb ht
theorem IsS54.apartS {w0 W : World} {g : Nat} {f0 : List Int} {f1 : Int} {f2 : Int} {α : Type} {d : Kd α} {e : Nat} {base : Nat} {ok : Nat → Prop} {v : Value} {xs : List α} (h : IsS54 w0 W g f0 f1 f2) (ho : d.S e W base ok v xs) (ht : ∀ q, q ∈ e :: d.E → q ≠ 54) : d.S e W base (fun k => ok k ∧ k ≠ g) v xs := by
 obtain ⟨A0, c0, hb, hg, hr0⟩ := h
 exact Kd.S_types ho hb ht
theorem IsS54.own_neS {w0 W : World} {g : Nat} {f0 : List Int} {f1 : Int} {f2 : Int} {α : Type} {d : Kd α} {e : Nat} {base : Nat} {ok : Nat → Prop} {v : Value} {xs : List α} (h : IsS54 w0 W g f0 f1 f2) (ho : d.S e W base ok v xs) (ht : e ≠ 54) : some g ≠ v.ownBlock := by
 obtain ⟨A0, c0, hb, hg, hr0⟩ := h
 exact Kd.S_ne ho hb ht
theorem IsS54.lt {w0 W : World} {g : Nat} {f0 : List Int} {f1 : Int} {f2 : Int} (h : IsS54 w0 W g f0 f1 f2) : g < W.heap.size := by
 obtain ⟨A0, c0, hb, hg, hr0⟩ := h
 exact blk_lt hb
theorem IsS54.ge {w0 W : World} {g : Nat} {f0 : List Int} {f1 : Int} {f2 : Int} (h : IsS54 w0 W g f0 f1 f2) : w0.heap.size ≤ g := by
 obtain ⟨A0, c0, hb, hg, hr0⟩ := h
 exact hg
theorem IsS54.ne_blk {w0 W : World} {g : Nat} {f0 : List Int} {f1 : Int} {f2 : Int} {a : Nat} {cs : Array Value} {t : TypeId} {fr : Nat × Nat} (h : IsS54 w0 W g f0 f1 f2) (hb2 : W.heap[a]? = some (.cells cs t fr)) (ht : t ≠ 54) : g ≠ a := by
 obtain ⟨A0, c0, hb, hg, hr0⟩ := h
 rintro rfl
 rw [hb] at hb2
 injection hb2 with hb2
 injection hb2 with _ ht2
 exact ht ht2.symm
theorem IsS54.far {w0 W : World} {g : Nat} {f0 : List Int} {f1 : Int} {f2 : Int} {p : Addr} (h : IsS54 w0 W g f0 f1 f2) (hne : g ≠ p.block) (u : Value) : IsS54 w0 (W.setCell p u) g f0 f1 f2 := by
 obtain ⟨A0, c0, hb, hg, hr0⟩ := h
 exact ⟨A0, c0, blk_far hb hne u, hg, hr0⟩
theorem cellS54_0 {W : World} {g : Nat} {A0 : Option Addr} {c0 : Nat} {f0 : List Int} {f1 : Int} {f2 : Int} (h : W.heap[g]? = some (.cells #[.slice A0 f0.length c0, .int .i64 f1, .int .i64 f2] 54 (0, 0))) : W.cell? ⟨g, 0, none⟩ = some (.slice A0 f0.length c0) := (blk_cell h 0).trans rfl
theorem cellS54_1 {W : World} {g : Nat} {A0 : Option Addr} {c0 : Nat} {f0 : List Int} {f1 : Int} {f2 : Int} (h : W.heap[g]? = some (.cells #[.slice A0 f0.length c0, .int .i64 f1, .int .i64 f2] 54 (0, 0))) : W.cell? ⟨g, 1, none⟩ = some (.int .i64 f1) := (blk_cell h 1).trans rfl
theorem IsS54.set_1 {w0 W : World} {g : Nat} {f0 : List Int} {f1 : Int} {f2 : Int} (h : IsS54 w0 W g f0 f1 f2) (x : Int) : IsS54 w0 (W.setCell ⟨g, 1, none⟩ (.int .i64 x)) g f0 x f2 := by
 obtain ⟨A0, c0, hb, hg, hr0⟩ := h
 exact ⟨A0, c0, by simpa using blk_set hb 1 (.int .i64 x), hg, hr0⟩
theorem cellS54_2 {W : World} {g : Nat} {A0 : Option Addr} {c0 : Nat} {f0 : List Int} {f1 : Int} {f2 : Int} (h : W.heap[g]? = some (.cells #[.slice A0 f0.length c0, .int .i64 f1, .int .i64 f2] 54 (0, 0))) : W.cell? ⟨g, 2, none⟩ = some (.int .i64 f2) := (blk_cell h 2).trans rfl
theorem IsS54.set_2 {w0 W : World} {g : Nat} {f0 : List Int} {f1 : Int} {f2 : Int} (h : IsS54 w0 W g f0 f1 f2) (x : Int) : IsS54 w0 (W.setCell ⟨g, 2, none⟩ (.int .i64 x)) g f0 f1 x := by
 obtain ⟨A0, c0, hb, hg, hr0⟩ := h
 exact ⟨A0, c0, by simpa using blk_set hb 2 (.int .i64 x), hg, hr0⟩
theorem IsS54.new (w0 W : World) (A0 : Option Addr) (c0 : Nat) (f0 : List Int) (f1 : Int) (f2 : Int) (hB : Below w0.heap.size w0 W) (hr0 : Kd.C (Kd.int .u8) w0 A0 f0.length f0) : IsS54 w0 (W.alloc (.cells #[.slice A0 f0.length c0, .int .i64 f1, .int .i64 f2] 54)) W.heap.size f0 f1 f2 := ⟨A0, c0, by simpa using heap_alloc_new W _, hB.size, hr0⟩
def spec_l00Source.f (l0 : List Int) : Option (List Int × Int × Int) := some (l0, 0, (l0.length : Int) % 1000)
set_option maxHeartbeats 8000000 in
set_option maxRecDepth 100000 in
theorem spec_l00Source.calls (A0 : Option Addr) (c0 : Nat) (l0 : List Int) (r1 : List Int) (r2 : Int) (r3 : Int) (w0 w : World) (hB : Below w0.heap.size w0 w) (hr0 : Kd.C (Kd.int .u8) w0 A0 l0.length l0) (hc0 : l0.length ≤ c0) (h : spec_l00Source.f l0 = some (r1, r2, r3)) :
  Calls Try.prog 23 #[.slice A0 l0.length c0] w fun e w' => ∃ g_ : Nat, e = .returned (.pointer (some ⟨g_, 0, none⟩)) ∧ IsS54 w0 w' g_ r1 r2 r3 ∧ Below w0.heap.size w0 w' ∧ Below w.heap.size w w' := by
 have hu54 := Try.underlying54
 have HR0 := Kp.a hr0
 have HC0 := Kp.a hc0
 clear hr0 hc0
 have HBW := Kp.a (Below.refl w.heap.size w)
 have HW0 := Kp.a hB.size
 have HB := Kp.a hB
 clear hB
 have H : (some (l0, 0, (l0.length : Int) % 1000)) = some (r1, r2, r3) := h
 clear h
 simp only [Option.some.injEq, Prod.mk.injEq] at H
 obtain ⟨rfl, rfl, rfl⟩ := H
 go_enter Try.func23, Try.ntmps23
 go_wp2_with (first | ((with_reducible refine gate_dst (N := 8) rfl ?_); refine box_event ?hg (N := 8) ?hd (cs := #[.slice A0 l0.length c0, .int .i64 0, .int .i64 ((l0.length : Int) % 1000)]) (t := 54) ?hr ?_; (case hd => rfl); (case hg => rfl); (case hr => first | (go_simp; done) | (go_simp; rfl)); intro gb204 hg w2 hbox hb; have n0_ := Kp.a (below_step HBW.out hb); have n1_ := Kp.a (below_step (Kp.kpL HB.out) hb); have n2_ := Kp.a (hbox); have n3_ := Kp.a ((by rw [hg]; exact (below_size (by repeat (first | (with_reducible first | exact HBW.out | apply below_alloc | apply pw_below_drewN | apply below_drew1) | exact HBW.out))) : w.heap.size ≤ gb204)); have n4_ := Kp.a ((Nat.le_trans HW0.out (by rw [hg]; exact (below_size (by repeat (first | (with_reducible first | exact HBW.out | apply below_alloc | apply pw_below_drewN | apply below_drew1) | exact HBW.out))) : w.heap.size ≤ gb204) : w0.heap.size ≤ gb204)); clear HBW; clear HB; have HBW := n0_; have HB := n1_; have BK204 := n2_; have GW204 := n3_; have GE204 := n4_; clear n0_ n1_ n2_ n3_ n4_; clear hb hbox hg))
 go_ret
 exact ⟨_, rfl, (show IsS54 w0 _ gb204 l0 0 ((l0.length : Int) % 1000) from ⟨_, _, Kp.kpB BK204.out, GE204.out, HR0.out⟩), by repeat (first | (with_reducible first | exact HB.out | apply below_alloc | apply pw_below_drewN | apply below_drew1 | refine below_set ?_ GE204.out) | exact HB.out), by repeat (first | (with_reducible first | exact HBW.out | apply below_alloc | apply pw_below_drewN | apply below_drew1 | refine below_set ?_ GW204.out) | exact HBW.out)⟩
def spec_l00Src_byte.f (f0 : List Int) (f1 : Int) (f2 : Int) : Option (Int × Int × Int) :=
 if 0 ≤ f1 ∧ f1 ≤ 4611686018427387904 ∧ 0 ≤ f2 ∧ f2 < 2147483648 then
  if f1 < f0.length then
   if 0 ≤ rd f0 f1 ∧ rd f0 f1 ≤ 255 then some (rd f0 f1, f1 + 1, (f2 * 31 + rd f0 f1 + 7) % 2147483648) else none
  else if f1 + 1 > 3000 then some (0, f1 + 1, f2)
  else some ((f2 * 1103515245 + 12345) % 2147483648 / 65536 % 256, f1 + 1, (f2 * 1103515245 + 12345) % 2147483648)
 else none
set_option maxHeartbeats 8000000 in
set_option maxRecDepth 100000 in
theorem spec_l00Src_byte.calls (g : Nat) (s0_0 : List Int) (s0_1 : Int) (s0_2 : Int) (r1 : Int) (r2 : Int) (r3 : Int) (w0 w : World) (hI : IsS54 w0 w g s0_0 s0_1 s0_2) (hB : Below w0.heap.size w0 w) (h : spec_l00Src_byte.f s0_0 s0_1 s0_2 = some (r1, r2, r3)) :
  Calls Try.prog 39 #[.pointer (some ⟨g, 0, none⟩)] w fun e w' => e = .returned (.int .i64 r1) ∧ IsS54 w0 w' g s0_0 r2 r3 ∧ Below w0.heap.size w0 w' ∧ KeepBut w w' g none := by
 have HI := Kp.a hI
 have HB := Kp.a hB
 have HK := Kp.a (KeepBut.refl w g none)
 obtain ⟨A0, c0, hb, hg, hr0⟩ := hI
 unfold spec_l00Src_byte.f at h
 by_cases h0 : 0 ≤ s0_1 ∧ s0_1 ≤ 4611686018427387904 ∧ 0 ≤ s0_2 ∧ s0_2 < 2147483648
 case neg => rw [if_neg h0] at h; exact absurd h (by simp)
 rw [if_pos h0] at h
 obtain ⟨ha0, ha1, ha2, ha3⟩ := h0
 have q0 : w.cell? ⟨g, 0, none⟩ = some (.slice A0 s0_0.length c0) := (blk_cell hb 0).trans rfl
 have q1 : w.cell? ⟨g, 1, none⟩ = some (.int .i64 s0_1) := (blk_cell hb 1).trans rfl
 have q2 : w.cell? ⟨g, 2, none⟩ = some (.int .i64 s0_2) := (blk_cell hb 2).trans rfl
 have z1 := blk_frozen hb 1
 have z2 := blk_frozen hb 2
 by_cases h1 : s0_1 < s0_0.length
 rotate_left
 ·rw [if_neg h1] at h
  have H := Kp.a h
  clear hb hr0 h hB
  by_cases h2 : s0_1 + 1 > 3000
  all_goals
   go_enter Try.func39, Try.ntmps39
   go_wp2
   go_quiet (fail)
   go_wp2
  ·go_ret
   have H := H.out
   rw [if_pos h2] at H
   simp only [Option.some.injEq, Prod.mk.injEq] at H
   obtain ⟨rfl, rfl, rfl⟩ := H
   refine ⟨rfl, ?_, ?_, ?_⟩
   ·repeat (first | (with_reducible first | exact HI.out | apply IsS54.drewN | apply IsS54.drew | apply IsS54.set_1 | apply IsS54.set_2) | exact HI.out)
   ·repeat (first | (with_reducible first | exact HB.out | apply pw_below_drewN | apply below_drew1 | refine below_set ?_ hg) | exact HB.out)
   repeat (first | (with_reducible first | exact HK.out | apply KeepBut.set_ | apply keep_drewN | apply keep_drew) | exact HK.out)
  go_ret
  have H := H.out
  rw [if_neg (by omega)] at H
  simp only [Option.some.injEq, Prod.mk.injEq] at H
  obtain ⟨rfl, rfl, rfl⟩ := H
  refine ⟨?_, ?_, ?_, ?_⟩
  ·rfl
  ·repeat (first | (with_reducible first | exact HI.out | apply IsS54.drewN | apply IsS54.drew | apply IsS54.set_1 | apply IsS54.set_2) | exact HI.out)
  ·repeat (first | (with_reducible first | exact HB.out | apply pw_below_drewN | apply below_drew1 | refine below_set ?_ hg) | exact HB.out)
  repeat (first | (with_reducible first | exact HK.out | apply KeepBut.set_ | apply keep_drewN | apply keep_drew) | exact HK.out)
 rw [if_pos h1] at h
 by_cases h2 : 0 ≤ rd s0_0 s0_1 ∧ rd s0_0 s0_1 ≤ 255
 case neg => rw [if_neg h2] at h; exact absurd h (by simp)
 rw [if_pos h2] at h
 obtain ⟨ad, c, e, _, hK, hc0⟩ := Kd.C_get hr0 0 _ ha0 h1
 obtain rfl := e
 obtain rfl := hK
 have hc0' : w0.cell? (ad.add s0_1.toNat) = some (.int .u8 (rd s0_0 s0_1)) := by
  have := hc0 0 _ rfl
  rwa [show s0_1.toNat * (Kd.int .u8).sz + 0 = s0_1.toNat from Nat.mul_one _] at this
 have hc1 := pw_cell_below hB hc0'
 have hne : ∀ i, (⟨g, i, none⟩ : Addr) ≠ ad.add s0_1.toNat := by
  intro i hi
  have := World.block_lt_of_cell? _ _ hc0'
  rw [← hi] at this
  simp only at this
  omega
 have hc2 : ∀ u, (w.setCell ⟨g, 1, none⟩ u).cell? (ad.add s0_1.toNat) = some (.int .u8 (rd s0_0 s0_1)) := fun u => (World.cell?_setCell_other _ _ _ _ (hne 1)).trans hc1
 have hc3 : ∀ u n v, (((w.setCell ⟨g, 1, none⟩ u).drewN n).setCell ⟨g, 2, none⟩ v).cell? (ad.add s0_1.toNat) = some (.int .u8 (rd s0_0 s0_1)) := fun u n v => (World.cell?_setCell_other _ _ _ _ (hne 2)).trans (hc2 u)
 obtain ⟨h2, h3⟩ := h2
 have H := Kp.a h
 clear hb hc0 hr0 hc0' h hB hne
 generalize rd s0_0 s0_1 = b at *
 go_enter Try.func39, Try.ntmps39
 go_wp2
 go_quiet (fail)
 go_wp2
 have e1 : IntKind.i64.wrap s0_1 = s0_1 := IntWalk.i64_in _ (by omega)
 have e2 : IntKind.i64.wrap (s0_2 * 31) = s0_2 * 31 := IntWalk.i64_in _ (by omega)
 have e3 : IntKind.i64.wrap (s0_2 * 31 + b) = s0_2 * 31 + b := IntWalk.i64_in _ (by omega)
 have e4 : IntKind.i64.wrap (s0_2 * 31 + b + 7) = s0_2 * 31 + b + 7 := IntWalk.i64_in _ (by omega)
 have e5 : IntKind.i64.wrap b = b := IntWalk.i64_in _ (by omega)
 refine wp_region_still_tail 23 (by kernel_rfl) (by kernel_rfl) ?_
 change wpStill _ _ (World.drew _) (fun a' => wpList _ _ _ _ a' (World.drew _)) _ _
 simp only [List.take_succ_cons, List.take_zero, List.drop_succ_cons, List.drop_zero]
 repeat still_step
 refine wpStill_nil ?_
 go_wp2
 go_quiet (fail)
 go_wp2
 go_ret
 have H := H.out
 simp only [Option.some.injEq, Prod.mk.injEq] at H
 obtain ⟨rfl, rfl, rfl⟩ := H
 have e6 : (s0_2 * 31 + b + 7).tmod 2147483648 = (s0_2 * 31 + b + 7) % 2147483648 := Int.tmod_eq_emod_of_nonneg (by omega)
 rw [e6]
 refine ⟨rfl, ?_, ?_, ?_⟩
 ·repeat (first | (with_reducible first | exact HI.out | apply IsS54.drewN | apply IsS54.drew | apply IsS54.set_1 | apply IsS54.set_2) | exact HI.out)
 ·repeat (first | (with_reducible first | exact HB.out | apply pw_below_drewN | apply below_drew1 | refine below_set ?_ hg) | exact HB.out)
 repeat (first | (with_reducible first | exact HK.out | apply KeepBut.set_ | apply keep_drewN | apply keep_drew) | exact HK.out)
def spec_l00Src_next.f (s0_0 : List Int) (s0_1 : Int) (s0_2 : Int) (a1 : Int) : Option (Int × Int × Int) := if a1 ≤ 1 then (some (0, s0_1, s0_2)) else (if a1 ≤ 256 then ((spec_l00Src_byte.f s0_0 s0_1 s0_2).bind fun bt205 => (if a1 = 0 then (none) else (some (Int.tmod bt205.1 a1, bt205.2.1, bt205.2.2)))) else ((spec_l00Src_byte.f s0_0 s0_1 s0_2).bind fun bt208 => ((spec_l00Src_byte.f s0_0 bt208.2.1 bt208.2.2).bind fun bt211 => ((spec_l00Src_byte.f s0_0 bt211.2.1 bt211.2.2).bind fun bt214 => (if a1 = 0 then (none) else (some (Int.tmod (wrap64 ((wrap64 ((wrap64 (bt208.1 * 65536)) + (wrap64 (bt211.1 * 256)))) + bt214.1)) a1, bt214.2.1, bt214.2.2)))))))
set_option maxHeartbeats 8000000 in
set_option maxRecDepth 100000 in
theorem spec_l00Src_next.calls (g : Nat) (s0_0 : List Int) (s0_1 : Int) (s0_2 : Int) (a1 : Int) (r1 : Int) (r2 : Int) (r3 : Int) (w0 w : World) (hI : IsS54 w0 w g s0_0 s0_1 s0_2) (hB : Below w0.heap.size w0 w) (h : spec_l00Src_next.f s0_0 s0_1 s0_2 a1 = some (r1, r2, r3)) :
  Calls Try.prog 31 #[.pointer (some ⟨g, 0, none⟩), .int .i64 a1] w fun e w' => e = .returned (.int .i64 r1) ∧ IsS54 w0 w' g s0_0 r2 r3 ∧ Below w0.heap.size w0 w' ∧ KeepBut w w' g none := by
 have HI0 := Kp.a hI
 have HK := Kp.a (KeepBut.refl w g none)
 have HL := Kp.a hB.size
 clear hI
 have HW0 := Kp.a hB.size
 have HB := Kp.a hB
 clear hB
 have H : (if a1 ≤ 1 then (some (0, s0_1, s0_2)) else (if a1 ≤ 256 then ((spec_l00Src_byte.f s0_0 s0_1 s0_2).bind fun bt205 => (if a1 = 0 then (none) else (some (Int.tmod bt205.1 a1, bt205.2.1, bt205.2.2)))) else ((spec_l00Src_byte.f s0_0 s0_1 s0_2).bind fun bt208 => ((spec_l00Src_byte.f s0_0 bt208.2.1 bt208.2.2).bind fun bt211 => ((spec_l00Src_byte.f s0_0 bt211.2.1 bt211.2.2).bind fun bt214 => (if a1 = 0 then (none) else (some (Int.tmod (wrap64 ((wrap64 ((wrap64 (bt208.1 * 65536)) + (wrap64 (bt211.1 * 256)))) + bt214.1)) a1, bt214.2.1, bt214.2.2)))))))) = some (r1, r2, r3) := h
 clear h
 by_cases c3 : a1 ≤ 1
 ·rw [if_pos c3] at H
  have c3b0 : decide (a1 ≤ 1) = true := decide_eq_true c3
  clear c3
  simp only [Option.some.injEq, Prod.mk.injEq] at H
  obtain ⟨rfl, rfl, rfl⟩ := H
  go_enter Try.func31, Try.ntmps31
  go_wp2
  go_ret
  exact ⟨by first | rfl | (simp [errW_none, errW_some] <;> rfl) | (simp [*, errW_none, errW_some] <;> rfl), by repeat (first | (with_reducible first | exact HI0.out | apply IsS54.alloc | apply IsS54.drewN | apply IsS54.drew | apply IsS54.set_1 | apply IsS54.set_2) | exact HI0.out), by repeat (first | (with_reducible first | exact HB.out | apply below_alloc | apply pw_below_drewN | apply below_drew1 | refine below_set ?_ (IsS54.ge HI0.out)) | exact HB.out), by repeat (first | (with_reducible first | exact HK.out | apply KeepBut.set_ | apply keep_drewN | apply keep_drew | apply keep_alloc) | exact HK.out)⟩
 rw [if_neg c3] at H
 have c3b0 : decide (a1 ≤ 1) = false := decide_eq_false c3
 clear c3
 by_cases c4 : a1 ≤ 256
 ·rw [if_pos c4] at H
  have c4b0 : decide (a1 ≤ 256) = true := decide_eq_true c4
  clear c4
  replace H := Option.bind_eq_some_iff.mp H
  obtain ⟨⟨t205, t206, t207⟩, A50, H⟩ := H
  replace H : (if a1 = 0 then (none) else (some (Int.tmod t205 a1, t206, t207))) = some (r1, r2, r3) := H
  have A5 := Kp.a A50
  clear A50
  by_cases c6 : a1 = 0
  ·rw [if_pos c6] at H
   exact absurd H (by simp)
  rw [if_neg c6] at H
  have c6b0 : (a1 == 0) = false := beq_eq_false_iff_ne.mpr c6
  have c6b1 : (a1 != 0) = true := bne_iff_ne.mpr c6
  simp only [Option.some.injEq, Prod.mk.injEq] at H
  obtain ⟨rfl, rfl, rfl⟩ := H
  go_enter Try.func31, Try.ntmps31
  go_wp2_with (first | ((with_reducible refine gate_callee (f := 39) rfl ?_); refine goesL_ (some 13) rfl rfl Try.func39 (by kernel_rfl) rfl #[.pointer (some ⟨g, 0, none⟩)] rfl (by (try simp only [List.map_toArray, List.map_cons, List.map_nil]); first | done | rfl | (simp only [List.length_drop, List.length_take]; rfl)) ?_; (with_reducible refine (spec_l00Src_byte.calls g s0_0 s0_1 s0_2 t205 t206 t207 w0 _ ?side1 ?side2 A5.out).mono ?_); (case side1 => repeat (first | (with_reducible first | exact HI0.out | apply IsS54.alloc | apply IsS54.drewN | apply IsS54.drew | apply IsS54.set_1 | apply IsS54.set_2) | exact HI0.out)); (case side2 => repeat (first | (with_reducible first | exact HB.out | apply below_alloc | apply pw_below_drewN | apply below_drew1 | refine below_set ?_ (IsS54.ge HI0.out)) | exact HB.out)); rintro e w7 ⟨rfl, hi, hb, hk⟩; refine ⟨_, rfl, ?_⟩; have n0_ := Kp.a (KeepBut.trans (by repeat (first | (with_reducible first | exact HK.out | apply KeepBut.set_ | apply keep_drewN | apply keep_drew | apply keep_alloc) | exact HK.out)) hk (.inl rfl)); have n1_ := Kp.a (hb); have n2_ := Kp.a (hi); clear HK; clear HB; clear HI0; have HK := n0_; have HB := n1_; have HI0 := n2_; clear n0_ n1_ n2_; (try clear hb); (try clear hb2); (try clear hk); (try clear hi)))
  go_ret
  exact ⟨by first | rfl | (simp [errW_none, errW_some] <;> rfl) | (simp [*, errW_none, errW_some] <;> rfl), by repeat (first | (with_reducible first | exact HI0.out | apply IsS54.alloc | apply IsS54.drewN | apply IsS54.drew | apply IsS54.set_1 | apply IsS54.set_2) | exact HI0.out), by repeat (first | (with_reducible first | exact HB.out | apply below_alloc | apply pw_below_drewN | apply below_drew1 | refine below_set ?_ (IsS54.ge HI0.out)) | exact HB.out), by repeat (first | (with_reducible first | exact HK.out | apply KeepBut.set_ | apply keep_drewN | apply keep_drew | apply keep_alloc) | exact HK.out)⟩
 rw [if_neg c4] at H
 have c4b0 : decide (a1 ≤ 256) = false := decide_eq_false c4
 clear c4
 replace H := Option.bind_eq_some_iff.mp H
 obtain ⟨⟨t208, t209, t210⟩, A80, H⟩ := H
 replace H : ((spec_l00Src_byte.f s0_0 t209 t210).bind fun bt211 => ((spec_l00Src_byte.f s0_0 bt211.2.1 bt211.2.2).bind fun bt214 => (if a1 = 0 then (none) else (some (Int.tmod (wrap64 ((wrap64 ((wrap64 (t208 * 65536)) + (wrap64 (bt211.1 * 256)))) + bt214.1)) a1, bt214.2.1, bt214.2.2))))) = some (r1, r2, r3) := H
 have A8 := Kp.a A80
 clear A80
 replace H := Option.bind_eq_some_iff.mp H
 obtain ⟨⟨t211, t212, t213⟩, A90, H⟩ := H
 replace H : ((spec_l00Src_byte.f s0_0 t212 t213).bind fun bt214 => (if a1 = 0 then (none) else (some (Int.tmod (wrap64 ((wrap64 ((wrap64 (t208 * 65536)) + (wrap64 (t211 * 256)))) + bt214.1)) a1, bt214.2.1, bt214.2.2)))) = some (r1, r2, r3) := H
 have A9 := Kp.a A90
 clear A90
 replace H := Option.bind_eq_some_iff.mp H
 obtain ⟨⟨t214, t215, t216⟩, A100, H⟩ := H
 replace H : (if a1 = 0 then (none) else (some (Int.tmod (wrap64 ((wrap64 ((wrap64 (t208 * 65536)) + (wrap64 (t211 * 256)))) + t214)) a1, t215, t216))) = some (r1, r2, r3) := H
 have A10 := Kp.a A100
 clear A100
 by_cases c11 : a1 = 0
 ·rw [if_pos c11] at H
  exact absurd H (by simp)
 rw [if_neg c11] at H
 have c11b0 : (a1 == 0) = false := beq_eq_false_iff_ne.mpr c11
 have c11b1 : (a1 != 0) = true := bne_iff_ne.mpr c11
 simp only [Option.some.injEq, Prod.mk.injEq] at H
 obtain ⟨rfl, rfl, rfl⟩ := H
 go_enter Try.func31, Try.ntmps31
 go_wp2_with (first | ((with_reducible refine gate_callee (f := 39) rfl ?_); refine goesL_ (some 17) rfl rfl Try.func39 (by kernel_rfl) rfl #[.pointer (some ⟨g, 0, none⟩)] rfl (by (try simp only [List.map_toArray, List.map_cons, List.map_nil]); first | done | rfl | (simp only [List.length_drop, List.length_take]; rfl)) ?_; (with_reducible refine (spec_l00Src_byte.calls g s0_0 s0_1 s0_2 t208 t209 t210 w0 _ ?side1 ?side2 A8.out).mono ?_); (case side1 => repeat (first | (with_reducible first | exact HI0.out | apply IsS54.alloc | apply IsS54.drewN | apply IsS54.drew | apply IsS54.set_1 | apply IsS54.set_2) | exact HI0.out)); (case side2 => repeat (first | (with_reducible first | exact HB.out | apply below_alloc | apply pw_below_drewN | apply below_drew1 | refine below_set ?_ (IsS54.ge HI0.out)) | exact HB.out)); rintro e w12 ⟨rfl, hi, hb, hk⟩; refine ⟨_, rfl, ?_⟩; have n0_ := Kp.a (KeepBut.trans (by repeat (first | (with_reducible first | exact HK.out | apply KeepBut.set_ | apply keep_drewN | apply keep_drew | apply keep_alloc) | exact HK.out)) hk (.inl rfl)); have n1_ := Kp.a (hb); have n2_ := Kp.a (hi); clear HK; clear HB; clear HI0; have HK := n0_; have HB := n1_; have HI0 := n2_; clear n0_ n1_ n2_; (try clear hb); (try clear hb2); (try clear hk); (try clear hi)) | ((with_reducible refine gate_callee (f := 39) rfl ?_); refine goesL_ (some 19) rfl rfl Try.func39 (by kernel_rfl) rfl #[.pointer (some ⟨g, 0, none⟩)] rfl (by (try simp only [List.map_toArray, List.map_cons, List.map_nil]); first | done | rfl | (simp only [List.length_drop, List.length_take]; rfl)) ?_; (with_reducible refine (spec_l00Src_byte.calls g s0_0 t209 t210 t211 t212 t213 w0 _ ?side1 ?side2 A9.out).mono ?_); (case side1 => repeat (first | (with_reducible first | exact HI0.out | apply IsS54.alloc | apply IsS54.drewN | apply IsS54.drew | apply IsS54.set_1 | apply IsS54.set_2) | exact HI0.out)); (case side2 => repeat (first | (with_reducible first | exact HB.out | apply below_alloc | apply pw_below_drewN | apply below_drew1 | refine below_set ?_ (IsS54.ge HI0.out)) | exact HB.out)); rintro e w13 ⟨rfl, hi, hb, hk⟩; refine ⟨_, rfl, ?_⟩; have n0_ := Kp.a (KeepBut.trans (by repeat (first | (with_reducible first | exact HK.out | apply KeepBut.set_ | apply keep_drewN | apply keep_drew | apply keep_alloc) | exact HK.out)) hk (.inl rfl)); have n1_ := Kp.a (hb); have n2_ := Kp.a (hi); clear HK; clear HB; clear HI0; have HK := n0_; have HB := n1_; have HI0 := n2_; clear n0_ n1_ n2_; (try clear hb); (try clear hb2); (try clear hk); (try clear hi)) | ((with_reducible refine gate_callee (f := 39) rfl ?_); refine goesL_ (some 21) rfl rfl Try.func39 (by kernel_rfl) rfl #[.pointer (some ⟨g, 0, none⟩)] rfl (by (try simp only [List.map_toArray, List.map_cons, List.map_nil]); first | done | rfl | (simp only [List.length_drop, List.length_take]; rfl)) ?_; (with_reducible refine (spec_l00Src_byte.calls g s0_0 t212 t213 t214 t215 t216 w0 _ ?side1 ?side2 A10.out).mono ?_); (case side1 => repeat (first | (with_reducible first | exact HI0.out | apply IsS54.alloc | apply IsS54.drewN | apply IsS54.drew | apply IsS54.set_1 | apply IsS54.set_2) | exact HI0.out)); (case side2 => repeat (first | (with_reducible first | exact HB.out | apply below_alloc | apply pw_below_drewN | apply below_drew1 | refine below_set ?_ (IsS54.ge HI0.out)) | exact HB.out)); rintro e w14 ⟨rfl, hi, hb, hk⟩; refine ⟨_, rfl, ?_⟩; have n0_ := Kp.a (KeepBut.trans (by repeat (first | (with_reducible first | exact HK.out | apply KeepBut.set_ | apply keep_drewN | apply keep_drew | apply keep_alloc) | exact HK.out)) hk (.inl rfl)); have n1_ := Kp.a (hb); have n2_ := Kp.a (hi); clear HK; clear HB; clear HI0; have HK := n0_; have HB := n1_; have HI0 := n2_; clear n0_ n1_ n2_; (try clear hb); (try clear hb2); (try clear hk); (try clear hi)))
 go_ret
 exact ⟨by first | rfl | (simp [errW_none, errW_some] <;> rfl) | (simp [*, errW_none, errW_some] <;> rfl), by repeat (first | (with_reducible first | exact HI0.out | apply IsS54.alloc | apply IsS54.drewN | apply IsS54.drew | apply IsS54.set_1 | apply IsS54.set_2) | exact HI0.out), by repeat (first | (with_reducible first | exact HB.out | apply below_alloc | apply pw_below_drewN | apply below_drew1 | refine below_set ?_ (IsS54.ge HI0.out)) | exact HB.out), by repeat (first | (with_reducible first | exact HK.out | apply KeepBut.set_ | apply keep_drewN | apply keep_drew | apply keep_alloc) | exact HK.out)⟩
def spec_l00Src_size.f (s0_0 : List Int) (s0_1 : Int) (s0_2 : Int) (a1 : Int) : Option (Int × Int × Int) := some (mn (wrap64 (1 + (wrap64 ((s0_0.length : Int) / 12)))) a1, s0_1, s0_2)
set_option maxHeartbeats 8000000 in
set_option maxRecDepth 100000 in
theorem spec_l00Src_size.calls (g : Nat) (s0_0 : List Int) (s0_1 : Int) (s0_2 : Int) (a1 : Int) (r1 : Int) (r2 : Int) (r3 : Int) (w0 w : World) (hI : IsS54 w0 w g s0_0 s0_1 s0_2) (hB : Below w0.heap.size w0 w) (h : spec_l00Src_size.f s0_0 s0_1 s0_2 a1 = some (r1, r2, r3)) :
  Calls Try.prog 38 #[.pointer (some ⟨g, 0, none⟩), .int .i64 a1] w fun e w' => e = .returned (.int .i64 r1) ∧ IsS54 w0 w' g s0_0 r2 r3 ∧ Below w0.heap.size w0 w' ∧ KeepBut w w' g none := by
 have HI0 := Kp.a hI
 have HK := Kp.a (KeepBut.refl w g none)
 have HL := Kp.a hB.size
 clear hI
 have HW0 := Kp.a hB.size
 have HB := Kp.a hB
 clear hB
 have H : (some (mn (wrap64 (1 + (wrap64 ((s0_0.length : Int) / 12)))) a1, s0_1, s0_2)) = some (r1, r2, r3) := h
 clear h
 obtain ⟨ji3, hji3⟩ : ∃ j_ : Int, (mn (wrap64 (1 + (wrap64 ((s0_0.length : Int) / 12)))) a1) = j_ := ⟨_, rfl⟩
 replace H : (some (ji3, s0_1, s0_2)) = some (r1, r2, r3) := by first | (rw [hji3] at H; exact H) | (simp only [hji3] at H ⊢; exact H)
 have hji3_ : (if a1 < (wrap64 (1 + (wrap64 ((s0_0.length : Int) / 12)))) then a1 else (wrap64 (1 + (wrap64 ((s0_0.length : Int) / 12))))) = ji3 := hji3
 simp only [Option.some.injEq, Prod.mk.injEq] at H
 obtain ⟨rfl, rfl, rfl⟩ := H
 obtain ⟨ASz4_0, cSz4_0, HGz4, hgz4, HSz4_0⟩ := HI0.out
 have hcz4_0 := cellS54_0 HGz4
 have hcz4_1 := cellS54_1 HGz4
 have hcz4_2 := cellS54_2 HGz4
 have hfz4_1 := blk_frozen HGz4 1
 have hfz4_2 := blk_frozen HGz4 2
 clear HGz4 hgz4
 go_enter Try.func38, Try.ntmps38
 go_wp2
 go_ret
 exact ⟨by first | rfl | (simp [errW_none, errW_some] <;> rfl) | (simp only [← hji3]; first | rfl | (simp [errW_none, errW_some] <;> rfl)) | (simp [*, errW_none, errW_some] <;> rfl), by repeat (first | (with_reducible first | exact HI0.out | apply IsS54.alloc | apply IsS54.drewN | apply IsS54.drew | apply IsS54.set_1 | apply IsS54.set_2) | exact HI0.out), by repeat (first | (with_reducible first | exact HB.out | apply below_alloc | apply pw_below_drewN | apply below_drew1 | refine below_set ?_ (IsS54.ge HI0.out)) | exact HB.out), by repeat (first | (with_reducible first | exact HK.out | apply KeepBut.set_ | apply keep_drewN | apply keep_drew | apply keep_alloc) | exact HK.out)⟩
end Go.Proofs.Ytkijhilmgljegaa.PT


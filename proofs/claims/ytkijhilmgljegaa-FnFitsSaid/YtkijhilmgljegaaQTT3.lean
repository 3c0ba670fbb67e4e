import Derived.Test.YtkijhilmgljegaaQTT0
import Derived.Test.YtkijhilmgljegaaVTk
import Derived.Test.YtkijhilmgljegaaQTT2
namespace Go.Proofs.Ytkijhilmgljegaa.PT
open Go.RowKit Go.Proofs.YtkijhilmgljegaaW.PrintWords Go.Proofs.YtkijhilmgljegaaW.PrintLast Go.Proofs.YtkijhilmgljegaaW.PrintMore
attribute [local go_sem] max2_int min2_int max_two min_two max_three min_three max_four min_four
set_option linter.unusedVariables false
set_option linter.unusedSimpArgs false
mutual
def spec_Matched.l0 : Nat → List Int → List Int → Int → Int → List Int → List Int → List Bool → List (S37) → Int → Option ((List (S37)) × Int)
 | 0, _, _, _, _, _, _, _, _, _ => none
 | k + 1, x0, x1, x2, x3, x11, x12, x13, x14, x15 => if x15 < (x11.length : Int) then (spec_Matched.l1 k x0 x1 x2 x3 x11 x12 x13 x14 x15 0) else (some (x14, 0))
def spec_Matched.l1 : Nat → List Int → List Int → Int → Int → List Int → List Int → List Bool → List (S37) → Int → Int → Option ((List (S37)) × Int)
 | 0, _, _, _, _, _, _, _, _, _, _ => none
 | k + 1, x0, x1, x2, x3, x11, x12, x13, x14, x15, x16 => if x16 < (x12.length : Int) then (if 0 ≤ x15 then (if x15 < (x11.length : Int) then (if 0 ≤ (rd x11 x15) then (if (rd x11 x15) < (x0.length : Int) then (if 0 ≤ x16 then (if 0 ≤ (rd x12 x16) then (if (rd x12 x16) < (x1.length : Int) then (if (rd x12 x16) < (x13.length : Int) then (if (rdOf false x13 (rd x12 x16) = true) then (spec_Matched.l1 k x0 x1 x2 x3 x11 x12 x13 x14 x15 (wrap64 (x16 + 1))) else (if (wrap64 ((rd x0 (rd x11 x15)) - (rd x1 (rd x12 x16)))) ≥ x2 then (if (wrap64 ((rd x0 (rd x11 x15)) - (rd x1 (rd x12 x16)))) ≤ x3 then (if x14.length < 8796093022208 then (spec_Matched.l0 k x0 x1 x2 x3 x11 x12 (x13.set ((rd x12 x16) : Int).toNat true) (x14 ++ [(⟨rd x11 x15, rd x12 x16⟩ : S37)]) (wrap64 (x15 + 1))) else (none)) else (spec_Matched.l1 k x0 x1 x2 x3 x11 x12 x13 x14 x15 (wrap64 (x16 + 1)))) else (spec_Matched.l1 k x0 x1 x2 x3 x11 x12 x13 x14 x15 (wrap64 (x16 + 1))))) else (none)) else (none)) else (none)) else (none)) else (none)) else (none)) else (none)) else (none)) else (spec_Matched.l0 k x0 x1 x2 x3 x11 x12 x13 x14 (wrap64 (x15 + 1)))
end
def spec_Matched.f (k : Nat) (l0 : List Int) (l1 : List Int) (a2 : Int) (a3 : Int) : Option ((List (S37)) × Int) := (spec_l08Code.f k l0 l1 a2 a3).bind fun t149 => (if t149 = 0 then ((spec_l08Order.f k l0).bind fun t153 => ((spec_l08Order.f k l1).bind fun t156 => (if 0 ≤ (l1.length : Int) then (if ((l1.length : Int) : Int).toNat ≤ 281474976710656 then (spec_Matched.l0 k l0 l1 a2 a3 t153 t156 (List.replicate ((l1.length : Int) : Int).toNat false) (([] : List (S37))) 0) else (none)) else (none)))) else (some ((([] : List (S37))), t149)))
def spec_Matched.T14 : Bool × List (List Nat × List Nat) := (true, [([], []), ([], []), ([], []), ([1, 2], [1, 2]), ([3], [3]), ([0, 4], [0, 4]), ([5], [5]), ([], []), ([], []), ([], []), ([8, 9], [8, 9]), ([10], [10]), ([7, 11], [7, 11]), ([12], [12]), ([6, 13], [6, 13]), ([14, 0, 1, 2, 3, 4, 5, 6, 7, 8, 9, 10, 11, 12, 13, 14], [14])])
def spec_Matched.B14 : List Nat := [0, 0, 0, 6, 14, 31, 63, 0, 0, 0, 768, 1792, 3968, 8064, 16383, 32767]
theorem spec_Matched.tab14 : rtab .any (opsOf Try.f6 14) = spec_Matched.T14 := by kernel_rfl
theorem spec_Matched.bits14 : waitsOk spec_Matched.T14.2 spec_Matched.B14 = true := by kernel_rfl
def spec_Matched.T17 : Bool × List (List Nat × List Nat) := (true, [([], []), ([], []), ([], []), ([1, 2], [1, 2]), ([3], [3]), ([], []), ([], []), ([5, 6], [5, 6]), ([7], [7]), ([4, 8], [4, 8]), ([9], [9]), ([0, 10], [0, 10]), ([11, 11, 0, 1, 2, 3, 4, 5, 6, 7, 8, 9, 10, 11], [0, 11])])
def spec_Matched.B17 : List Nat := [0, 0, 0, 6, 14, 0, 0, 96, 224, 510, 1022, 2047, 4095]
theorem spec_Matched.tab17 : rtab .any (opsOf Try.f6 17) = spec_Matched.T17 := by kernel_rfl
theorem spec_Matched.bits17 : waitsOk spec_Matched.T17.2 spec_Matched.B17 = true := by kernel_rfl
set_option maxHeartbeats 8000000 in
set_option maxRecDepth 100000 in
theorem spec_Matched.calls (k : Nat) (A0 : Option Addr) (c0 : Nat) (l0 : List Int) (A1 : Option Addr) (c1 : Nat) (l1 : List Int) (a2 : Int) (a3 : Int) (r1 : List (S37)) (r2 : Int) (w : World) (hr0 : Kd.C (Kd.int .i64) w A0 l0.length l0) (hc0 : l0.length ≤ c0) (hr1 : Kd.C (Kd.int .i64) w A1 l1.length l1) (hc1 : l1.length ≤ c1) (h : spec_Matched.f k l0 l1 a2 a3 = some (r1, r2)) :
  Calls Try.prog 6 #[.slice A0 l0.length c0, .slice A1 l1.length c1, .int .i64 a2, .int .i64 a3] w fun e w' => ∃ v0_ : Value, e = .returned (.tuple #[v0_, .int .i64 r2]) ∧ Kd.R k37 37 w' w.heap.size (fun _ => True) v0_ r1 ∧ Below w.heap.size w w' := by
 have hu37 := Try.underlying37
 have HR0 := Kp.a hr0
 have HC0 := Kp.a hc0
 clear hr0 hc0
 have HR1 := Kp.a hr1
 have HC1 := Kp.a hc1
 clear hr1 hc1
 have HB := Kp.a (Below.refl w.heap.size w)
 have H : ((spec_l08Code.f k l0 l1 a2 a3).bind fun t149 => (if t149 = 0 then ((spec_l08Order.f k l0).bind fun t153 => ((spec_l08Order.f k l1).bind fun t156 => (if 0 ≤ (l1.length : Int) then (if ((l1.length : Int) : Int).toNat ≤ 281474976710656 then (spec_Matched.l0 k l0 l1 a2 a3 t153 t156 (List.replicate ((l1.length : Int) : Int).toNat false) (([] : List (S37))) 0) else (none)) else (none)))) else (some ((([] : List (S37))), t149)))) = some (r1, r2) := h
 clear h
 replace H := Option.bind_eq_some_iff.mp H
 obtain ⟨t149, A50, H⟩ := H
 replace H : (if t149 = 0 then ((spec_l08Order.f k l0).bind fun t153 => ((spec_l08Order.f k l1).bind fun t156 => (if 0 ≤ (l1.length : Int) then (if ((l1.length : Int) : Int).toNat ≤ 281474976710656 then (spec_Matched.l0 k l0 l1 a2 a3 t153 t156 (List.replicate ((l1.length : Int) : Int).toNat false) (([] : List (S37))) 0) else (none)) else (none)))) else (some ((([] : List (S37))), t149))) = some (r1, r2) := H
 have A5 := Kp.a A50
 clear A50
 by_cases c6 : t149 = 0
 rotate_left
 ·rw [if_neg c6] at H
  have c6b0 : (t149 == 0) = false := beq_eq_false_iff_ne.mpr c6
  have c6b1 : (t149 != 0) = true := bne_iff_ne.mpr c6
  obtain ⟨y150, hy150⟩ : ∃ y_ : List (S37), y_ = (([] : List (S37))) := ⟨_, rfl⟩
  replace H : (some (y150, t149)) = some (r1, r2) := by first | (rw [hy150]; with_reducible exact H) | (have H2_ := (Option.bind_some _ _).symm.trans H; rw [hy150]; with_reducible exact H2_) | (have H2_ := (Option.bind_some _ _).symm.trans H; with_reducible exact H2_) | with_reducible exact H | (rw [hy150]; exact H) | exact H
  have Ny150 := Kp.a hy150
  clear hy150
  simp only [Option.some.injEq, Prod.mk.injEq] at H
  obtain ⟨rfl, rfl⟩ := H
  go_enter Try.func6, Try.ntmps6
  go_wp2_with (first | ((with_reducible refine gate_callee (f := 18) rfl ?_); refine goesL_ (some 22) rfl rfl Try.func18 (by kernel_rfl) rfl #[.slice A0 l0.length c0, .slice A1 l1.length c1, .int .i64 a2, .int .i64 a3] rfl (by (try simp only [List.map_toArray, List.map_cons, List.map_nil]); first | done | rfl | (simp only [List.length_drop, List.length_take]; rfl)) ?_; (with_reducible refine (spec_l08Code.calls k _ _ l0 _ _ l1 a2 a3 t149 _ ?side1 ?side2 ?side3 ?side4 A5.out).mono ?_); (case side1 => repeat (first | exact HR0.out | (with_reducible refine Kd.C_alloc ?_ _) | (with_reducible refine Kd.C_drewN ?_ _) | (with_reducible refine Kd.C_drew ?_))); (case side2 => exact HC0.out); (case side3 => repeat (first | exact HR1.out | (with_reducible refine Kd.C_alloc ?_ _) | (with_reducible refine Kd.C_drewN ?_ _) | (with_reducible refine Kd.C_drew ?_))); (case side4 => exact HC1.out); rintro e w' ⟨rfl, ⟨nd, rfl⟩⟩; refine ⟨_, rfl, ?_⟩) | ((with_reducible refine gate_dst (N := 25) rfl ?_); refine Kd.R_lit k37 _ 37 ?hg (N := 25) ?hd (xs := ([] : List (S37))) (inner := []) (ok := fun _ => True) (okp := fun _ => True) ?hr ?hp (fun _ hk => hk) trivial (Below.refl _ _) (Nat.le_refl _) (by simp) ?_; (case hd => rfl); (case hg => rfl); (case hr => first | (go_simp; done) | (go_simp; rfl)); (case hp => exact (Reps.none _ _)); intro v151 w52 ho53 hb hg_ hnew_; clear hg_ hnew_; (first | rw [← Ny150.out] at ho53 | (simp only [Int.reduceToNat] at ho53; rw [← Ny150.out] at ho53)); have n0_ := Kp.a (Kd.R_lower ho53 (below_size (Kp.kpL HB.out))); have n1_ := Kp.a (below_step (Kp.kpL HB.out) hb); clear HB; have HO152 := n0_; have HB := n1_; clear n0_ n1_; clear hb ho53))
  go_ret2
  exact ⟨_, by first | rfl | (simp [errW_none, errW_some] <;> rfl) | (simp [*, errW_none, errW_some] <;> rfl), Kp.kpR HO152.out, Kp.kpL HB.out⟩
 rw [if_pos c6] at H
 have c6b0 : (t149 == 0) = true := beq_iff_eq.mpr c6
 have c6b1 : (t149 != 0) = false := bne_eq_false_iff_eq.mpr c6
 clear c6
 replace H := Option.bind_eq_some_iff.mp H
 obtain ⟨t153, A70, H⟩ := H
 replace H : ((spec_l08Order.f k l1).bind fun t156 => (if 0 ≤ (l1.length : Int) then (if ((l1.length : Int) : Int).toNat ≤ 281474976710656 then (spec_Matched.l0 k l0 l1 a2 a3 t153 t156 (List.replicate ((l1.length : Int) : Int).toNat false) (([] : List (S37))) 0) else (none)) else (none))) = some (r1, r2) := H
 have A7 := Kp.a A70
 clear A70
 replace H := Option.bind_eq_some_iff.mp H
 obtain ⟨t156, A80, H⟩ := H
 replace H : (if 0 ≤ (l1.length : Int) then (if ((l1.length : Int) : Int).toNat ≤ 281474976710656 then (spec_Matched.l0 k l0 l1 a2 a3 t153 t156 (List.replicate ((l1.length : Int) : Int).toNat false) (([] : List (S37))) 0) else (none)) else (none)) = some (r1, r2) := H
 have A8 := Kp.a A80
 clear A80
 by_cases c9 : 0 ≤ (l1.length : Int)
 rotate_left
 ·rw [if_neg c9] at H
  exact absurd H (by simp)
 rw [if_pos c9] at H
 have c9b0 := eq_true c9
 have c9b1 : decide (0 ≤ (l1.length : Int)) = true := decide_eq_true c9
 clear c9
 by_cases c10 : ((l1.length : Int) : Int).toNat ≤ 281474976710656
 rotate_left
 ·rw [if_neg c10] at H
  exact absurd H (by simp)
 rw [if_pos c10] at H
 have c10b0 := eq_true c10
 have c10b1 : decide (((l1.length : Int) : Int).toNat ≤ 281474976710656) = true := decide_eq_true c10
 clear c10
 obtain ⟨y159, hy159⟩ : ∃ y_ : List Bool, y_ = (List.replicate ((l1.length : Int) : Int).toNat false) := ⟨_, rfl⟩
 replace H : (spec_Matched.l0 k l0 l1 a2 a3 t153 t156 y159 (([] : List (S37))) 0) = some (r1, r2) := by first | (rw [hy159]; with_reducible exact H) | (have H2_ := (Option.bind_some _ _).symm.trans H; rw [hy159]; with_reducible exact H2_) | (have H2_ := (Option.bind_some _ _).symm.trans H; with_reducible exact H2_) | with_reducible exact H | (rw [hy159]; exact H) | exact H
 have Ny159 := Kp.a hy159
 clear hy159
 obtain ⟨y162, hy162⟩ : ∃ y_ : List (S37), y_ = (([] : List (S37))) := ⟨_, rfl⟩
 replace H : (spec_Matched.l0 k l0 l1 a2 a3 t153 t156 y159 y162 0) = some (r1, r2) := by first | (rw [hy162]; with_reducible exact H) | (have H2_ := (Option.bind_some _ _).symm.trans H; rw [hy162]; with_reducible exact H2_) | (have H2_ := (Option.bind_some _ _).symm.trans H; with_reducible exact H2_) | with_reducible exact H | (rw [hy162]; exact H) | exact H
 have Ny162 := Kp.a hy162
 clear hy162
 have H' := Kp.a H
 clear H
 go_enter Try.func6, Try.ntmps6
 go_wp2_with (first | ((with_reducible refine gate_callee (f := 18) rfl ?_); refine goesL_ (some 22) rfl rfl Try.func18 (by kernel_rfl) rfl #[.slice A0 l0.length c0, .slice A1 l1.length c1, .int .i64 a2, .int .i64 a3] rfl (by (try simp only [List.map_toArray, List.map_cons, List.map_nil]); first | done | rfl | (simp only [List.length_drop, List.length_take]; rfl)) ?_; (with_reducible refine (spec_l08Code.calls k _ _ l0 _ _ l1 a2 a3 t149 _ ?side1 ?side2 ?side3 ?side4 A5.out).mono ?_); (case side1 => repeat (first | exact HR0.out | (with_reducible refine Kd.C_alloc ?_ _) | (with_reducible refine Kd.C_drewN ?_ _) | (with_reducible refine Kd.C_drew ?_))); (case side2 => exact HC0.out); (case side3 => repeat (first | exact HR1.out | (with_reducible refine Kd.C_alloc ?_ _) | (with_reducible refine Kd.C_drewN ?_ _) | (with_reducible refine Kd.C_drew ?_))); (case side4 => exact HC1.out); rintro e w' ⟨rfl, ⟨nd, rfl⟩⟩; refine ⟨_, rfl, ?_⟩) | ((with_reducible refine gate_callee (f := 19) rfl ?_); refine goesL_ (some 28) rfl rfl Try.func19 (by kernel_rfl) rfl #[.slice A0 l0.length c0] rfl (by (try simp only [List.map_toArray, List.map_cons, List.map_nil]); first | done | rfl | (simp only [List.length_drop, List.length_take]; rfl)) ?_; (with_reducible refine (spec_l08Order.calls k _ _ l0 t153 _ ?side1 ?side2 A7.out).mono ?_); (case side1 => repeat (first | exact HR0.out | (with_reducible refine Kd.C_alloc ?_ _) | (with_reducible refine Kd.C_drewN ?_ _) | (with_reducible refine Kd.C_drew ?_))); (case side2 => exact HC0.out); rintro e w11 ⟨v154, rfl, ho0, hb⟩; refine ⟨_, rfl, ?_⟩; have n0_ := Kp.a (Kd.R_lower ho0 (below_size (Kp.kpL HB.out))); have n1_ := Kp.a (below_step (Kp.kpL HB.out) hb); clear HB; have HO155 := n0_; have HB := n1_; clear n0_ n1_; (try clear hb); (try clear hb2); (try clear hk); (try clear hi); (try clear ho0)) | ((with_reducible refine gate_callee (f := 19) rfl ?_); refine goesL_ (some 30) rfl rfl Try.func19 (by kernel_rfl) rfl #[.slice A1 l1.length c1] rfl (by (try simp only [List.map_toArray, List.map_cons, List.map_nil]); first | done | rfl | (simp only [List.length_drop, List.length_take]; rfl)) ?_; (with_reducible refine (spec_l08Order.calls k _ _ l1 t156 _ ?side1 ?side2 A8.out).mono ?_); (case side1 => repeat (first | exact (Kd.C_below HR1.out HB.out) | (with_reducible refine Kd.C_alloc ?_ _) | (with_reducible refine Kd.C_drewN ?_ _) | (with_reducible refine Kd.C_drew ?_))); (case side2 => exact HC1.out); rintro e w12 ⟨v157, rfl, ho0, hb⟩; refine ⟨_, rfl, ?_⟩; have n0_ := Kp.a (Kd.R_elder' (Kp.kpR HO155.out) (Kd.R_base ho0) hb); have n1_ := Kp.a (Kd.R_lower (Kd.R_new' ho0 (Kd.R_lt (Kp.kpR HO155.out))) (below_size (Kp.kpL HB.out))); have n2_ := Kp.a (below_step (Kp.kpL HB.out) hb); clear HO155; clear HB; have HO155 := n0_; have HO158 := n1_; have HB := n2_; clear n0_ n1_ n2_; (try clear hb); (try clear hb2); (try clear hk); (try clear hi); (try clear ho0)) | ((with_reducible refine gate_dst (N := 33) rfl ?_); refine Kd.R_make Kd.bool _ 4 rfl (N := 33) rfl 35 _ _ rfl (l1.length : Int) rfl rfl Try.underlying35 (.bool false) 1 info4 rfl (by decide) (by omega) false (ok := fun _ => True) (okp := fun _ => True) rfl (fun _ hk => hk) trivial (Kp.d) (Nat.le_trans (Nat.mul_le_mul_right _ (Kp.d : (l1.length : Int).toNat ≤ 281474976710656)) (by omega)) (Below.refl _ _) (Nat.le_refl _) ?_; intro v160 w13 ho14 hb hg_ hnew_; clear hg_ hnew_; (first | rw [← Ny159.out] at ho14 | (simp only [Int.reduceToNat] at ho14; rw [← Ny159.out] at ho14)); have n0_ := Kp.a (Kd.R_below (Kp.kpR HO155.out) hb); have n1_ := Kp.a (Kd.R_below (Kp.kpR HO158.out) hb); have n2_ := Kp.a (Kd.R_lower ho14 (below_size (Kp.kpL HB.out))); have n3_ := Kp.a (below_step (Kp.kpL HB.out) hb); clear HO155; clear HO158; clear HB; have HO155 := n0_; have HO158 := n1_; have HO161 := n2_; have HB := n3_; clear n0_ n1_ n2_ n3_; clear hb ho14) | ((with_reducible refine gate_dst (N := 34) rfl ?_); refine Kd.R_lit k37 _ 37 ?hg (N := 34) ?hd (xs := ([] : List (S37))) (inner := []) (ok := fun _ => True) (okp := fun _ => True) ?hr ?hp (fun _ hk => hk) trivial (Below.refl _ _) (Nat.le_refl _) (by simp) ?_; (case hd => rfl); (case hg => rfl); (case hr => first | (go_simp; done) | (go_simp; rfl)); (case hp => exact (Reps.none _ _)); intro v163 w15 ho16 hb hg_ hnew_; clear hg_ hnew_; (first | rw [← Ny162.out] at ho16 | (simp only [Int.reduceToNat] at ho16; rw [← Ny162.out] at ho16)); have n0_ := Kp.a (Kd.R_below (Kp.kpR HO155.out) hb); have n1_ := Kp.a (Kd.R_below (Kp.kpR HO158.out) hb); have n2_ := Kp.a (Kd.R_below (Kp.kpR HO161.out) hb); have n3_ := Kp.a (Kd.R_lower ho16 (below_size (Kp.kpL HB.out))); have n4_ := Kp.a (below_step (Kp.kpL HB.out) hb); clear HO155; clear HO158; clear HO161; clear HB; have HO155 := n0_; have HO158 := n1_; have HO161 := n2_; have HO164 := n3_; have HB := n4_; clear n0_ n1_ n2_ n3_ n4_; clear hb ho16))
 go_loopg [14, 15] k (fun kq v14 v15 w' => ∃ (x13_1 : List Bool) (x14_1 : List (S37)) (x15_1 : Int), v15 = .int .i64 x15_1 ∧ Aside0 (spec_Matched.l0 kq l0 l1 a2 a3 t153 t156 x13_1 x14_1 x15_1 = some (r1, r2)) ∧ Aside0 (kq ≤ k) ∧ Aside0 (Kd.R (Kd.int .i64) 3 w' w.heap.size (fun k_ => some k_ ≠ (v157 : Value).ownBlock) v154 t153) ∧ Aside0 (Kd.R (Kd.int .i64) 3 w' w.heap.size (fun k_ => some k_ ≠ (v154 : Value).ownBlock) v157 t156) ∧ Aside0 (Kd.R Kd.bool 4 w' w.heap.size (fun _ => True) v160 x13_1) ∧ Aside0 (Kd.R k37 37 w' w.heap.size (fun _ => True) v14 x14_1) ∧ Aside0 (Below w.heap.size w w'))
 case atStart => exact ⟨(y159), (y162), (0), (by first | rfl | (simp; done) | (simp [*]; done)), H', ⟨Nat.le_refl _⟩, ⟨Kp.kpR (Kd.R_mono HO155.out (fun _ hk => hk.2))⟩, ⟨Kp.kpR (Kd.R_mono HO158.out (fun _ hk => hk.2))⟩, ⟨Kp.kpR HO161.out⟩, ⟨Kp.kpR HO164.out⟩, ⟨Kp.kpL HB.out⟩⟩
 clear H'
 try clear c1
 try clear p2
 try clear c6
 try clear c6b0
 try clear c6b1
 try clear c9
 try clear c9b0
 try clear c9b1
 try clear c10
 try clear c10b0
 try clear c10b1
 obtain ⟨x13_1, x14_1, x15_1, rfl, HA, HK1, HO_11, HO_12, HO_13, HO_14, HB⟩ := hrel
 cases gk with
 | zero => exact absurd HA.out (by simp [spec_Matched.l0])
 | succ k1 =>
  have H := HA.out
  clear HA
  simp only [spec_Matched.l0] at H
  by_cases c17 : x15_1 < (t153.length : Int)
  rotate_left
  ·rw [if_neg c17] at H
   have c17b0 : decide (x15_1 < (t153.length : Int)) = false := decide_eq_false c17
   clear c17
   simp only [Option.some.injEq, Prod.mk.injEq] at H
   obtain ⟨rfl, rfl⟩ := H
   obtain ⟨Ao51, co51, eo51⟩ := Kd.R_slice HO_11.out
   subst eo51
   go_wp2
   go_ret2
   exact ⟨_, by first | rfl | (simp [errW_none, errW_some] <;> rfl) | (simp [*, errW_none, errW_some] <;> rfl), Kp.kpR HO_14.out, Kp.kpL HB.out⟩
  rw [if_pos c17] at H
  have c17b0 : decide (x15_1 < (t153.length : Int)) = true := decide_eq_true c17
  clear c17
  have H' := Kp.a H
  clear H
  obtain ⟨Ao18, co18, eo18⟩ := Kd.R_slice HO_11.out
  subst eo18
  go_wp2
  go_loopg [14, 16] k1 (fun kq v14 v16 w' => ∃ (x13_2 : List Bool) (x14_2 : List (S37)) (x16_2 : Int), v16 = .int .i64 x16_2 ∧ Aside0 (spec_Matched.l1 kq l0 l1 a2 a3 t153 t156 x13_2 x14_2 x15_1 x16_2 = some (r1, r2)) ∧ Aside0 (kq ≤ k1) ∧ Aside0 (Kd.R (Kd.int .i64) 3 w' w.heap.size (fun k_ => some k_ ≠ (v157 : Value).ownBlock) (.slice Ao18 t153.length co18) t153) ∧ Aside0 (Kd.R (Kd.int .i64) 3 w' w.heap.size (fun k_ => some k_ ≠ ((.slice Ao18 t153.length co18) : Value).ownBlock) v157 t156) ∧ Aside0 (Kd.R Kd.bool 4 w' w.heap.size (fun _ => True) v160 x13_2) ∧ Aside0 (Kd.R k37 37 w' w.heap.size (fun _ => True) v14 x14_2) ∧ Aside0 (Below w.heap.size w w'))
  case atStart => exact ⟨(x13_1), (x14_1), (0), (by first | rfl | (simp; done) | (simp [*]; done)), H', ⟨Nat.le_refl _⟩, ⟨Kp.kpR HO_11.out⟩, ⟨Kp.kpR HO_12.out⟩, ⟨Kp.kpR HO_13.out⟩, ⟨Kp.kpR HO_14.out⟩, ⟨Kp.kpL HB.out⟩⟩
  clear H'
  try clear c1
  try clear p2
  try clear c6
  try clear c6b0
  try clear c6b1
  try clear c9
  try clear c9b0
  try clear c9b1
  try clear c10
  try clear c10b0
  try clear c10b1
  try clear c17
  try clear c17b0
  try clear c18
  try clear p2
  obtain ⟨x13_2, x14_2, x16_2, rfl, HA, HK2, HO_11, HO_12, HO_13, HO_14, HB⟩ := hrel
  cases gk with
  | zero => exact absurd HA.out (by simp [spec_Matched.l1])
  | succ k2 =>
   have H := HA.out
   clear HA
   simp only [spec_Matched.l1] at H
   by_cases c19 : x16_2 < (t156.length : Int)
   rotate_left
   ·rw [if_neg c19] at H
    have c19b0 : decide (x16_2 < (t156.length : Int)) = false := decide_eq_false c19
    clear c19
    have H' := Kp.a H
    clear H
    obtain ⟨Ao50, co50, eo50⟩ := Kd.R_slice HO_12.out
    subst eo50
    go_wp2
    go_roundg k2
    case measure => have := HK1.out; have := HK2.out; omega
    case rel => exact ⟨(x13_2), (x14_2), (wrap64 (x15_1 + 1)), (by first | rfl | (simp; done) | (simp [*]; done)), H', ⟨by have := HK1.out; have := HK2.out; omega⟩, ⟨Kp.kpR HO_11.out⟩, ⟨Kp.kpR HO_12.out⟩, ⟨Kp.kpR HO_13.out⟩, ⟨Kp.kpR HO_14.out⟩, ⟨Kp.kpL HB.out⟩⟩
   rw [if_pos c19] at H
   have c19b0 : decide (x16_2 < (t156.length : Int)) = true := decide_eq_true c19
   clear c19
   by_cases c20 : 0 ≤ x15_1
   rotate_left
   ·rw [if_neg c20] at H
    exact absurd H (by simp)
   rw [if_pos c20] at H
   have c20b0 : decide (0 ≤ x15_1) = true := decide_eq_true c20
   clear c20
   by_cases c21 : x15_1 < (t153.length : Int)
   rotate_left
   ·rw [if_neg c21] at H
    exact absurd H (by simp)
   rw [if_pos c21] at H
   have c21b0 : decide (x15_1 < (t153.length : Int)) = true := decide_eq_true c21
   clear c21
   by_cases c22 : 0 ≤ (rd t153 x15_1)
   rotate_left
   ·rw [if_neg c22] at H
    exact absurd H (by simp)
   rw [if_pos c22] at H
   have c22b0 : decide (0 ≤ (rd t153 x15_1)) = true := decide_eq_true c22
   clear c22
   by_cases c23 : (rd t153 x15_1) < (l0.length : Int)
   rotate_left
   ·rw [if_neg c23] at H
    exact absurd H (by simp)
   rw [if_pos c23] at H
   have c23b0 : decide ((rd t153 x15_1) < (l0.length : Int)) = true := decide_eq_true c23
   clear c23
   by_cases c24 : 0 ≤ x16_2
   rotate_left
   ·rw [if_neg c24] at H
    exact absurd H (by simp)
   rw [if_pos c24] at H
   have c24b0 : decide (0 ≤ x16_2) = true := decide_eq_true c24
   clear c24
   by_cases c25 : 0 ≤ (rd t156 x16_2)
   rotate_left
   ·rw [if_neg c25] at H
    exact absurd H (by simp)
   rw [if_pos c25] at H
   have c25b0 : decide (0 ≤ (rd t156 x16_2)) = true := decide_eq_true c25
   clear c25
   by_cases c26 : (rd t156 x16_2) < (l1.length : Int)
   rotate_left
   ·rw [if_neg c26] at H
    exact absurd H (by simp)
   rw [if_pos c26] at H
   have c26b0 : decide ((rd t156 x16_2) < (l1.length : Int)) = true := decide_eq_true c26
   clear c26
   by_cases c27 : (rd t156 x16_2) < (x13_2.length : Int)
   rotate_left
   ·rw [if_neg c27] at H
    exact absurd H (by simp)
   rw [if_pos c27] at H
   have c27b0 : decide ((rd t156 x16_2) < (x13_2.length : Int)) = true := decide_eq_true c27
   clear c27
   obtain ⟨bq28, hbq28⟩ : ∃ b_ : Bool, b_ = (rdOf false x13_2 (rd t156 x16_2)) := ⟨_, rfl⟩
   replace H : (if (bq28 = true) then (spec_Matched.l1 k2 l0 l1 a2 a3 t153 t156 x13_2 x14_2 x15_1 (wrap64 (x16_2 + 1))) else (if (wrap64 ((rd l0 (rd t153 x15_1)) - (rd l1 (rd t156 x16_2)))) ≥ a2 then (if (wrap64 ((rd l0 (rd t153 x15_1)) - (rd l1 (rd t156 x16_2)))) ≤ a3 then (if x14_2.length < 8796093022208 then (spec_Matched.l0 k2 l0 l1 a2 a3 t153 t156 (x13_2.set ((rd t156 x16_2) : Int).toNat true) (x14_2 ++ [(⟨rd t153 x15_1, rd t156 x16_2⟩ : S37)]) (wrap64 (x15_1 + 1))) else (none)) else (spec_Matched.l1 k2 l0 l1 a2 a3 t153 t156 x13_2 x14_2 x15_1 (wrap64 (x16_2 + 1)))) else (spec_Matched.l1 k2 l0 l1 a2 a3 t153 t156 x13_2 x14_2 x15_1 (wrap64 (x16_2 + 1))))) = some (r1, r2) := by rw [← hbq28] at H; exact H
   have Nbq28 := Kp.a hbq28
   clear hbq28
   by_cases c29 : (bq28 = true)
   ·subst c29
    have H1 : (spec_Matched.l1 k2 l0 l1 a2 a3 t153 t156 x13_2 x14_2 x15_1 (wrap64 (x16_2 + 1))) = some (r1, r2) := by rw [if_pos rfl] at H; exact H
    clear H
    have H := H1
    clear H1
    have H' := Kp.a H
    clear H
    obtain ⟨Ao30, co30, eo30⟩ := Kd.R_slice HO_12.out
    subst eo30
    try go_wp2
    have n0_ := Kp.a (Kd.R_drew HO_11.out)
    have n1_ := Kp.a (Kd.R_drew HO_12.out)
    have n2_ := Kp.a (Kd.R_drew HO_13.out)
    have n3_ := Kp.a (Kd.R_drew HO_14.out)
    have n4_ := Kp.a (below_drew1 HB.out)
    clear HO_11
    clear HO_12
    clear HO_13
    clear HO_14
    clear HB
    have HO_11 := n0_
    have HO_12 := n1_
    have HO_13 := n2_
    have HO_14 := n3_
    have HB := n4_
    clear n0_ n1_ n2_ n3_ n4_
    have p165 : 0 ≤ (x15_1 : Int) := Kp.d
    have q165 : x15_1 < (t153.length : Int) := Kp.d
    obtain ⟨ad165, e165, hx165_0⟩ := Kd.at_int (Kd.R_reads' HO_11.out).2.2 x15_1 p165 q165
    cases e165
    replace p165 := eq_true p165
    replace q165 := eq_true q165
    have p166 : 0 ≤ ((rd t153 x15_1) : Int) := Kp.d
    have q166 : (rd t153 x15_1) < (l0.length : Int) := Kp.d
    obtain ⟨ad166, e166, hx166_0⟩ := Kd.at_int HR0.out (rd t153 x15_1) p166 q166
    have hw166_0 := hx166_0
    cases e166
    replace hx166_0 := (HB.out.cell (World.block_lt_of_cell? w _ hx166_0)).trans hx166_0
    replace p166 := eq_true p166
    replace q166 := eq_true q166
    have p167 : 0 ≤ (x16_2 : Int) := Kp.d
    have q167 : x16_2 < (t156.length : Int) := Kp.d
    obtain ⟨ad167, e167, hx167_0⟩ := Kd.at_int (Kd.R_reads' HO_12.out).2.2 x16_2 p167 q167
    cases e167
    replace p167 := eq_true p167
    replace q167 := eq_true q167
    have p168 : 0 ≤ ((rd t156 x16_2) : Int) := Kp.d
    have q168 : (rd t156 x16_2) < (l1.length : Int) := Kp.d
    obtain ⟨ad168, e168, hx168_0⟩ := Kd.at_int HR1.out (rd t156 x16_2) p168 q168
    have hw168_0 := hx168_0
    cases e168
    replace hx168_0 := (HB.out.cell (World.block_lt_of_cell? w _ hx168_0)).trans hx168_0
    replace p168 := eq_true p168
    replace q168 := eq_true q168
    refine start_ (n := 16) (S := fun w' => w'.cell? (ad165.add (x15_1).toNat) = some (.int .i64 (rd t153 x15_1)) ∧ w'.cell? (ad166.add ((rd t153 x15_1)).toNat) = some (.int .i64 (rd l0 (rd t153 x15_1))) ∧ w'.cell? (ad167.add (x16_2).toNat) = some (.int .i64 (rd t156 x16_2)) ∧ w'.cell? (ad168.add ((rd t156 x16_2)).toNat) = some (.int .i64 (rd l1 (rd t156 x16_2)))) (ds := []) #[false, false, false, false, false, false, false, false, false, false, false, false, false, false, false, false] (by kernel_rfl) rfl rfl ⟨hx165_0, ((HB.out.cell (World.block_lt_of_cell? w _ hw166_0)).trans hw166_0), hx167_0, ((HB.out.cell (World.block_lt_of_cell? w _ hw168_0)).trans hw168_0)⟩ (fun hHeld => ?_); refine with_tabW spec_Matched.tab14 spec_Matched.bits14 (fun HT_ HW_ => ?_)
    generalize wr.drew = w31 at HO_11 HO_12 HO_13 HO_14 HB hx165_0 hx166_0 hx167_0 hx168_0 hHeld ⊢
    refine pure_ (i := 0) (N := some 47) (v := ?_) (a' := ?_) #[true, false, false, false, false, false, false, false, false, false, false, false, false, false, false, false] rfl rfl (any_of HT_.out (by kernel_rfl)) (fun _ _ _ h => h) (Or.inl ⟨by rfl, ?_⟩) ?_ ?_
    rotate_left
    ·intro w'
     go_simp
     with_reducible rfl
    rotate_left
    ·simp only [Act.put, Kp.s0, Kp.s1, Kp.s2, i64_w, i32_w]
     rfl
    refine pure_ (i := 1) (N := some 48) (v := ?_) (a' := ?_) #[true, true, false, false, false, false, false, false, false, false, false, false, false, false, false, false] rfl rfl (any_of HT_.out (by kernel_rfl)) (fun _ _ _ h => h) (Or.inl ⟨by rfl, ?_⟩) ?_ ?_
    rotate_left
    ·intro w'
     go_simp
     with_reducible rfl
    rotate_left
    ·simp only [Act.put, Kp.s0, Kp.s1, Kp.s2, i64_w, i32_w]
     rfl
    refine pure_ (i := 2) (N := some 49) (v := ?_) (a' := ?_) #[true, true, true, false, false, false, false, false, false, false, false, false, false, false, false, false] rfl rfl (any_of HT_.out (by kernel_rfl)) (fun _ _ _ h => h) (Or.inl ⟨by rfl, ?_⟩) ?_ ?_
    rotate_left
    ·intro w'
     go_simp
     with_reducible rfl
    rotate_left
    ·simp only [Act.put, Kp.s0, Kp.s1, Kp.s2, i64_w, i32_w]
     rfl
    refine pure_ (i := 3) (N := some 50) (v := ?_) (a' := ?_) #[true, true, true, true, false, false, false, false, false, false, false, false, false, false, false, false] rfl rfl (any_of HT_.out (by kernel_rfl)) (fun _ _ _ h => h) (Or.inl ⟨by rfl, ?_⟩) ?_ ?_
    rotate_left
    ·intro w'
     go_simp
     with_reducible rfl
    rotate_left
    ·simp only [Act.put, Kp.s0, Kp.s1, Kp.s2, i64_w, i32_w]
     rfl
    refine pure_ (i := 7) (N := some 54) (v := ?_) (a' := ?_) #[true, true, true, true, false, false, false, true, false, false, false, false, false, false, false, false] rfl rfl (any_of HT_.out (by kernel_rfl)) (fun _ _ _ h => h) (Or.inl ⟨by rfl, ?_⟩) ?_ ?_
    rotate_left
    ·intro w'
     go_simp
     with_reducible rfl
    rotate_left
    ·simp only [Act.put, Kp.s0, Kp.s1, Kp.s2, i64_w, i32_w]
     rfl
    refine pure_ (i := 8) (N := some 55) (v := ?_) (a' := ?_) #[true, true, true, true, false, false, false, true, true, false, false, false, false, false, false, false] rfl rfl (any_of HT_.out (by kernel_rfl)) (fun _ _ _ h => h) (Or.inl ⟨by rfl, ?_⟩) ?_ ?_
    rotate_left
    ·intro w'
     go_simp
     with_reducible rfl
    rotate_left
    ·simp only [Act.put, Kp.s0, Kp.s1, Kp.s2, i64_w, i32_w]
     rfl
    refine pure_ (i := 9) (N := some 56) (v := ?_) (a' := ?_) #[true, true, true, true, false, false, false, true, true, true, false, false, false, false, false, false] rfl rfl (any_of HT_.out (by kernel_rfl)) (fun _ _ _ h => h) (Or.inl ⟨by rfl, ?_⟩) ?_ ?_
    rotate_left
    ·intro w'
     go_simp
     with_reducible rfl
    rotate_left
    ·simp only [Act.put, Kp.s0, Kp.s1, Kp.s2, i64_w, i32_w]
     rfl
    refine pure_ (i := 10) (N := some 57) (v := ?_) (a' := ?_) #[true, true, true, true, false, false, false, true, true, true, true, false, false, false, false, false] rfl rfl (any_of HT_.out (by kernel_rfl)) (fun _ _ _ h => h) (Or.inl ⟨by rfl, ?_⟩) ?_ ?_
    rotate_left
    ·intro w'
     go_simp
     with_reducible rfl
    rotate_left
    ·simp only [Act.put, Kp.s0, Kp.s1, Kp.s2, i64_w, i32_w]
     rfl
    refine take_ (i := 4) (N := some 51) (v := ?_) (a' := ?_) #[true, true, true, true, true, false, false, true, true, true, true, false, false, false, false, false] rfl rfl (take_ofW HT_.out HW_.out (by kernel_rfl)) (fun _ _ _ h => h) (Or.inl ⟨by rfl, ?_⟩) hHeld ?_ ?_
    rotate_left
    ·rintro w' ⟨s0, s1, s2, s3⟩
     go_simp
     with_reducible rfl
    rotate_left
    ·simp only [Act.put, Kp.s0, Kp.s1, Kp.s2, i64_w, i32_w]
     rfl
    refine pure_ (i := 5) (N := some 52) (v := ?_) (a' := ?_) #[true, true, true, true, true, true, false, true, true, true, true, false, false, false, false, false] rfl rfl (any_of HT_.out (by kernel_rfl)) (fun _ _ _ h => h) (Or.inl ⟨by rfl, ?_⟩) ?_ ?_
    rotate_left
    ·intro w'
     go_simp
     with_reducible rfl
    rotate_left
    ·simp only [Act.put, Kp.s0, Kp.s1, Kp.s2, i64_w, i32_w]
     rfl
    refine take_ (i := 6) (N := some 53) (v := ?_) (a' := ?_) #[true, true, true, true, true, true, true, true, true, true, true, false, false, false, false, false] rfl rfl (take_ofW HT_.out HW_.out (by kernel_rfl)) (fun _ _ _ h => h) (Or.inl ⟨by rfl, ?_⟩) hHeld ?_ ?_
    rotate_left
    ·rintro w' ⟨s0, s1, s2, s3⟩
     go_simp
     with_reducible rfl
    rotate_left
    ·simp only [Act.put, Kp.s0, Kp.s1, Kp.s2, i64_w, i32_w]
     rfl
    refine take_ (i := 11) (N := some 58) (v := ?_) (a' := ?_) #[true, true, true, true, true, true, true, true, true, true, true, true, false, false, false, false] rfl rfl (take_ofW HT_.out HW_.out (by kernel_rfl)) (fun _ _ _ h => h) (Or.inl ⟨by rfl, ?_⟩) hHeld ?_ ?_
    rotate_left
    ·rintro w' ⟨s0, s1, s2, s3⟩
     go_simp
     with_reducible rfl
    rotate_left
    ·simp only [Act.put, Kp.s0, Kp.s1, Kp.s2, i64_w, i32_w]
     rfl
    refine pure_ (i := 12) (N := some 59) (v := ?_) (a' := ?_) #[true, true, true, true, true, true, true, true, true, true, true, true, true, false, false, false] rfl rfl (any_of HT_.out (by kernel_rfl)) (fun _ _ _ h => h) (Or.inl ⟨by rfl, ?_⟩) ?_ ?_
    rotate_left
    ·intro w'
     go_simp
     with_reducible rfl
    rotate_left
    ·simp only [Act.put, Kp.s0, Kp.s1, Kp.s2, i64_w, i32_w]
     rfl
    refine take_ (i := 13) (N := some 60) (v := ?_) (a' := ?_) #[true, true, true, true, true, true, true, true, true, true, true, true, true, true, false, false] rfl rfl (take_ofW HT_.out HW_.out (by kernel_rfl)) (fun _ _ _ h => h) (Or.inl ⟨by rfl, ?_⟩) hHeld ?_ ?_
    rotate_left
    ·rintro w' ⟨s0, s1, s2, s3⟩
     go_simp
     with_reducible rfl
    rotate_left
    ·simp only [Act.put, Kp.s0, Kp.s1, Kp.s2, i64_w, i32_w]
     rfl
    refine pure_ (i := 14) (N := some 61) (v := ?_) (a' := ?_) #[true, true, true, true, true, true, true, true, true, true, true, true, true, true, true, false] rfl rfl (any_of HT_.out (by kernel_rfl)) (fun _ _ _ h => h) (Or.inl ⟨by rfl, ?_⟩) ?_ ?_
    rotate_left
    ·intro w'
     go_simp
     with_reducible rfl
    rotate_left
    ·simp only [Act.put, Kp.s0, Kp.s1, Kp.s2, i64_w, i32_w]
     rfl
    refine pure_ (i := 15) (N := some 17) (v := ?_) (a' := ?_) #[true, true, true, true, true, true, true, true, true, true, true, true, true, true, true, true] rfl rfl (any_of HT_.out (by kernel_rfl)) (fun _ _ _ h => h) (Or.inl ⟨by rfl, ?_⟩) ?_ ?_
    rotate_left
    ·intro w'
     go_simp
     with_reducible rfl
    rotate_left
    ·simp only [Act.put, Kp.s0, Kp.s1, Kp.s2, i64_w, i32_w]
     rfl
    refine done_ (done_of HT_.out (by kernel_rfl)) ?_
    have p169 : 0 ≤ (x16_2 : Int) := Kp.d
    have q169 : x16_2 < (t156.length : Int) := Kp.d
    obtain ⟨ad169, e169, hx169_0⟩ := Kd.at_int (Kd.R_reads' HO_12.out).2.2 x16_2 p169 q169
    obtain rfl : ad167 = ad169 := (by injection e169)
    replace p169 := eq_true p169
    replace q169 := eq_true q169
    obtain ⟨Ao32, co32, eo32⟩ := Kd.R_slice HO_13.out
    subst eo32
    have p170 : 0 ≤ ((rd t156 x16_2) : Int) := Kp.d
    have q170 : (rd t156 x16_2) < (x13_2.length : Int) := Kp.d
    obtain ⟨ad170, e170, hx170_0⟩ := Kd.at_bool (Kd.R_reads' HO_13.out).2.2 (rd t156 x16_2) p170 q170
    (try rw [← Nbq28.out] at hx170_0)
    cases e170
    replace p170 := eq_true p170
    replace q170 := eq_true q170
    try go_wp2
    go_roundg k2
    case measure => have := HK1.out; have := HK2.out; omega
    case rel => exact ⟨(x13_2), (x14_2), (wrap64 (x16_2 + 1)), (by first | rfl | (simp; done) | (simp [*]; done)), H', ⟨by have := HK1.out; have := HK2.out; omega⟩, ⟨Kp.kpR HO_11.out⟩, ⟨Kp.kpR HO_12.out⟩, ⟨Kp.kpR HO_13.out⟩, ⟨Kp.kpR HO_14.out⟩, ⟨Kp.kpL HB.out⟩⟩
   replace c29 := Bool.eq_false_iff.mpr c29
   subst c29
   have H1 : (if (wrap64 ((rd l0 (rd t153 x15_1)) - (rd l1 (rd t156 x16_2)))) ≥ a2 then (if (wrap64 ((rd l0 (rd t153 x15_1)) - (rd l1 (rd t156 x16_2)))) ≤ a3 then (if x14_2.length < 8796093022208 then (spec_Matched.l0 k2 l0 l1 a2 a3 t153 t156 (x13_2.set ((rd t156 x16_2) : Int).toNat true) (x14_2 ++ [(⟨rd t153 x15_1, rd t156 x16_2⟩ : S37)]) (wrap64 (x15_1 + 1))) else (none)) else (spec_Matched.l1 k2 l0 l1 a2 a3 t153 t156 x13_2 x14_2 x15_1 (wrap64 (x16_2 + 1)))) else (spec_Matched.l1 k2 l0 l1 a2 a3 t153 t156 x13_2 x14_2 x15_1 (wrap64 (x16_2 + 1)))) = some (r1, r2) := by rw [if_neg (show ¬ (false = true) by decide)] at H; exact H
   clear H
   have H := H1
   clear H1
   by_cases c33 : (wrap64 ((rd l0 (rd t153 x15_1)) - (rd l1 (rd t156 x16_2)))) ≥ a2
   rotate_left
   ·rw [if_neg c33] at H
    have c33b0 : decide (a2 ≤ (wrap64 ((rd l0 (rd t153 x15_1)) - (rd l1 (rd t156 x16_2))))) = false := decide_eq_false c33
    clear c33
    have H' := Kp.a H
    clear H
    obtain ⟨Ao47, co47, eo47⟩ := Kd.R_slice HO_12.out
    subst eo47
    try go_wp2
    have n0_ := Kp.a (Kd.R_drew HO_11.out)
    have n1_ := Kp.a (Kd.R_drew HO_12.out)
    have n2_ := Kp.a (Kd.R_drew HO_13.out)
    have n3_ := Kp.a (Kd.R_drew HO_14.out)
    have n4_ := Kp.a (below_drew1 HB.out)
    clear HO_11
    clear HO_12
    clear HO_13
    clear HO_14
    clear HB
    have HO_11 := n0_
    have HO_12 := n1_
    have HO_13 := n2_
    have HO_14 := n3_
    have HB := n4_
    clear n0_ n1_ n2_ n3_ n4_
    have p165 : 0 ≤ (x15_1 : Int) := Kp.d
    have q165 : x15_1 < (t153.length : Int) := Kp.d
    obtain ⟨ad165, e165, hx165_0⟩ := Kd.at_int (Kd.R_reads' HO_11.out).2.2 x15_1 p165 q165
    cases e165
    replace p165 := eq_true p165
    replace q165 := eq_true q165
    have p166 : 0 ≤ ((rd t153 x15_1) : Int) := Kp.d
    have q166 : (rd t153 x15_1) < (l0.length : Int) := Kp.d
    obtain ⟨ad166, e166, hx166_0⟩ := Kd.at_int HR0.out (rd t153 x15_1) p166 q166
    have hw166_0 := hx166_0
    cases e166
    replace hx166_0 := (HB.out.cell (World.block_lt_of_cell? w _ hx166_0)).trans hx166_0
    replace p166 := eq_true p166
    replace q166 := eq_true q166
    have p167 : 0 ≤ (x16_2 : Int) := Kp.d
    have q167 : x16_2 < (t156.length : Int) := Kp.d
    obtain ⟨ad167, e167, hx167_0⟩ := Kd.at_int (Kd.R_reads' HO_12.out).2.2 x16_2 p167 q167
    cases e167
    replace p167 := eq_true p167
    replace q167 := eq_true q167
    have p168 : 0 ≤ ((rd t156 x16_2) : Int) := Kp.d
    have q168 : (rd t156 x16_2) < (l1.length : Int) := Kp.d
    obtain ⟨ad168, e168, hx168_0⟩ := Kd.at_int HR1.out (rd t156 x16_2) p168 q168
    have hw168_0 := hx168_0
    cases e168
    replace hx168_0 := (HB.out.cell (World.block_lt_of_cell? w _ hx168_0)).trans hx168_0
    replace p168 := eq_true p168
    replace q168 := eq_true q168
    refine start_ (n := 16) (S := fun w' => w'.cell? (ad165.add (x15_1).toNat) = some (.int .i64 (rd t153 x15_1)) ∧ w'.cell? (ad166.add ((rd t153 x15_1)).toNat) = some (.int .i64 (rd l0 (rd t153 x15_1))) ∧ w'.cell? (ad167.add (x16_2).toNat) = some (.int .i64 (rd t156 x16_2)) ∧ w'.cell? (ad168.add ((rd t156 x16_2)).toNat) = some (.int .i64 (rd l1 (rd t156 x16_2)))) (ds := []) #[false, false, false, false, false, false, false, false, false, false, false, false, false, false, false, false] (by kernel_rfl) rfl rfl ⟨hx165_0, ((HB.out.cell (World.block_lt_of_cell? w _ hw166_0)).trans hw166_0), hx167_0, ((HB.out.cell (World.block_lt_of_cell? w _ hw168_0)).trans hw168_0)⟩ (fun hHeld => ?_); refine with_tabW spec_Matched.tab14 spec_Matched.bits14 (fun HT_ HW_ => ?_)
    generalize wr.drew = w48 at HO_11 HO_12 HO_13 HO_14 HB hx165_0 hx166_0 hx167_0 hx168_0 hHeld ⊢
    refine pure_ (i := 0) (N := some 47) (v := ?_) (a' := ?_) #[true, false, false, false, false, false, false, false, false, false, false, false, false, false, false, false] rfl rfl (any_of HT_.out (by kernel_rfl)) (fun _ _ _ h => h) (Or.inl ⟨by rfl, ?_⟩) ?_ ?_
    rotate_left
    ·intro w'
     go_simp
     with_reducible rfl
    rotate_left
    ·simp only [Act.put, Kp.s0, Kp.s1, Kp.s2, i64_w, i32_w]
     rfl
    refine pure_ (i := 1) (N := some 48) (v := ?_) (a' := ?_) #[true, true, false, false, false, false, false, false, false, false, false, false, false, false, false, false] rfl rfl (any_of HT_.out (by kernel_rfl)) (fun _ _ _ h => h) (Or.inl ⟨by rfl, ?_⟩) ?_ ?_
    rotate_left
    ·intro w'
     go_simp
     with_reducible rfl
    rotate_left
    ·simp only [Act.put, Kp.s0, Kp.s1, Kp.s2, i64_w, i32_w]
     rfl
    refine pure_ (i := 2) (N := some 49) (v := ?_) (a' := ?_) #[true, true, true, false, false, false, false, false, false, false, false, false, false, false, false, false] rfl rfl (any_of HT_.out (by kernel_rfl)) (fun _ _ _ h => h) (Or.inl ⟨by rfl, ?_⟩) ?_ ?_
    rotate_left
    ·intro w'
     go_simp
     with_reducible rfl
    rotate_left
    ·simp only [Act.put, Kp.s0, Kp.s1, Kp.s2, i64_w, i32_w]
     rfl
    refine pure_ (i := 3) (N := some 50) (v := ?_) (a' := ?_) #[true, true, true, true, false, false, false, false, false, false, false, false, false, false, false, false] rfl rfl (any_of HT_.out (by kernel_rfl)) (fun _ _ _ h => h) (Or.inl ⟨by rfl, ?_⟩) ?_ ?_
    rotate_left
    ·intro w'
     go_simp
     with_reducible rfl
    rotate_left
    ·simp only [Act.put, Kp.s0, Kp.s1, Kp.s2, i64_w, i32_w]
     rfl
    refine pure_ (i := 7) (N := some 54) (v := ?_) (a' := ?_) #[true, true, true, true, false, false, false, true, false, false, false, false, false, false, false, false] rfl rfl (any_of HT_.out (by kernel_rfl)) (fun _ _ _ h => h) (Or.inl ⟨by rfl, ?_⟩) ?_ ?_
    rotate_left
    ·intro w'
     go_simp
     with_reducible rfl
    rotate_left
    ·simp only [Act.put, Kp.s0, Kp.s1, Kp.s2, i64_w, i32_w]
     rfl
    refine pure_ (i := 8) (N := some 55) (v := ?_) (a' := ?_) #[true, true, true, true, false, false, false, true, true, false, false, false, false, false, false, false] rfl rfl (any_of HT_.out (by kernel_rfl)) (fun _ _ _ h => h) (Or.inl ⟨by rfl, ?_⟩) ?_ ?_
    rotate_left
    ·intro w'
     go_simp
     with_reducible rfl
    rotate_left
    ·simp only [Act.put, Kp.s0, Kp.s1, Kp.s2, i64_w, i32_w]
     rfl
    refine pure_ (i := 9) (N := some 56) (v := ?_) (a' := ?_) #[true, true, true, true, false, false, false, true, true, true, false, false, false, false, false, false] rfl rfl (any_of HT_.out (by kernel_rfl)) (fun _ _ _ h => h) (Or.inl ⟨by rfl, ?_⟩) ?_ ?_
    rotate_left
    ·intro w'
     go_simp
     with_reducible rfl
    rotate_left
    ·simp only [Act.put, Kp.s0, Kp.s1, Kp.s2, i64_w, i32_w]
     rfl
    refine pure_ (i := 10) (N := some 57) (v := ?_) (a' := ?_) #[true, true, true, true, false, false, false, true, true, true, true, false, false, false, false, false] rfl rfl (any_of HT_.out (by kernel_rfl)) (fun _ _ _ h => h) (Or.inl ⟨by rfl, ?_⟩) ?_ ?_
    rotate_left
    ·intro w'
     go_simp
     with_reducible rfl
    rotate_left
    ·simp only [Act.put, Kp.s0, Kp.s1, Kp.s2, i64_w, i32_w]
     rfl
    refine take_ (i := 4) (N := some 51) (v := ?_) (a' := ?_) #[true, true, true, true, true, false, false, true, true, true, true, false, false, false, false, false] rfl rfl (take_ofW HT_.out HW_.out (by kernel_rfl)) (fun _ _ _ h => h) (Or.inl ⟨by rfl, ?_⟩) hHeld ?_ ?_
    rotate_left
    ·rintro w' ⟨s0, s1, s2, s3⟩
     go_simp
     with_reducible rfl
    rotate_left
    ·simp only [Act.put, Kp.s0, Kp.s1, Kp.s2, i64_w, i32_w]
     rfl
    refine pure_ (i := 5) (N := some 52) (v := ?_) (a' := ?_) #[true, true, true, true, true, true, false, true, true, true, true, false, false, false, false, false] rfl rfl (any_of HT_.out (by kernel_rfl)) (fun _ _ _ h => h) (Or.inl ⟨by rfl, ?_⟩) ?_ ?_
    rotate_left
    ·intro w'
     go_simp
     with_reducible rfl
    rotate_left
    ·simp only [Act.put, Kp.s0, Kp.s1, Kp.s2, i64_w, i32_w]
     rfl
    refine take_ (i := 6) (N := some 53) (v := ?_) (a' := ?_) #[true, true, true, true, true, true, true, true, true, true, true, false, false, false, false, false] rfl rfl (take_ofW HT_.out HW_.out (by kernel_rfl)) (fun _ _ _ h => h) (Or.inl ⟨by rfl, ?_⟩) hHeld ?_ ?_
    rotate_left
    ·rintro w' ⟨s0, s1, s2, s3⟩
     go_simp
     with_reducible rfl
    rotate_left
    ·simp only [Act.put, Kp.s0, Kp.s1, Kp.s2, i64_w, i32_w]
     rfl
    refine take_ (i := 11) (N := some 58) (v := ?_) (a' := ?_) #[true, true, true, true, true, true, true, true, true, true, true, true, false, false, false, false] rfl rfl (take_ofW HT_.out HW_.out (by kernel_rfl)) (fun _ _ _ h => h) (Or.inl ⟨by rfl, ?_⟩) hHeld ?_ ?_
    rotate_left
    ·rintro w' ⟨s0, s1, s2, s3⟩
     go_simp
     with_reducible rfl
    rotate_left
    ·simp only [Act.put, Kp.s0, Kp.s1, Kp.s2, i64_w, i32_w]
     rfl
    refine pure_ (i := 12) (N := some 59) (v := ?_) (a' := ?_) #[true, true, true, true, true, true, true, true, true, true, true, true, true, false, false, false] rfl rfl (any_of HT_.out (by kernel_rfl)) (fun _ _ _ h => h) (Or.inl ⟨by rfl, ?_⟩) ?_ ?_
    rotate_left
    ·intro w'
     go_simp
     with_reducible rfl
    rotate_left
    ·simp only [Act.put, Kp.s0, Kp.s1, Kp.s2, i64_w, i32_w]
     rfl
    refine take_ (i := 13) (N := some 60) (v := ?_) (a' := ?_) #[true, true, true, true, true, true, true, true, true, true, true, true, true, true, false, false] rfl rfl (take_ofW HT_.out HW_.out (by kernel_rfl)) (fun _ _ _ h => h) (Or.inl ⟨by rfl, ?_⟩) hHeld ?_ ?_
    rotate_left
    ·rintro w' ⟨s0, s1, s2, s3⟩
     go_simp
     with_reducible rfl
    rotate_left
    ·simp only [Act.put, Kp.s0, Kp.s1, Kp.s2, i64_w, i32_w]
     rfl
    refine pure_ (i := 14) (N := some 61) (v := ?_) (a' := ?_) #[true, true, true, true, true, true, true, true, true, true, true, true, true, true, true, false] rfl rfl (any_of HT_.out (by kernel_rfl)) (fun _ _ _ h => h) (Or.inl ⟨by rfl, ?_⟩) ?_ ?_
    rotate_left
    ·intro w'
     go_simp
     with_reducible rfl
    rotate_left
    ·simp only [Act.put, Kp.s0, Kp.s1, Kp.s2, i64_w, i32_w]
     rfl
    refine pure_ (i := 15) (N := some 17) (v := ?_) (a' := ?_) #[true, true, true, true, true, true, true, true, true, true, true, true, true, true, true, true] rfl rfl (any_of HT_.out (by kernel_rfl)) (fun _ _ _ h => h) (Or.inl ⟨by rfl, ?_⟩) ?_ ?_
    rotate_left
    ·intro w'
     go_simp
     with_reducible rfl
    rotate_left
    ·simp only [Act.put, Kp.s0, Kp.s1, Kp.s2, i64_w, i32_w]
     rfl
    refine done_ (done_of HT_.out (by kernel_rfl)) ?_
    have p169 : 0 ≤ (x16_2 : Int) := Kp.d
    have q169 : x16_2 < (t156.length : Int) := Kp.d
    obtain ⟨ad169, e169, hx169_0⟩ := Kd.at_int (Kd.R_reads' HO_12.out).2.2 x16_2 p169 q169
    obtain rfl : ad167 = ad169 := (by injection e169)
    replace p169 := eq_true p169
    replace q169 := eq_true q169
    obtain ⟨Ao49, co49, eo49⟩ := Kd.R_slice HO_13.out
    subst eo49
    have p170 : 0 ≤ ((rd t156 x16_2) : Int) := Kp.d
    have q170 : (rd t156 x16_2) < (x13_2.length : Int) := Kp.d
    obtain ⟨ad170, e170, hx170_0⟩ := Kd.at_bool (Kd.R_reads' HO_13.out).2.2 (rd t156 x16_2) p170 q170
    (try rw [← Nbq28.out] at hx170_0)
    cases e170
    replace p170 := eq_true p170
    replace q170 := eq_true q170
    try go_wp2
    go_roundg k2
    case measure => have := HK1.out; have := HK2.out; omega
    case rel => exact ⟨(x13_2), (x14_2), (wrap64 (x16_2 + 1)), (by first | rfl | (simp; done) | (simp [*]; done)), H', ⟨by have := HK1.out; have := HK2.out; omega⟩, ⟨Kp.kpR HO_11.out⟩, ⟨Kp.kpR HO_12.out⟩, ⟨Kp.kpR HO_13.out⟩, ⟨Kp.kpR HO_14.out⟩, ⟨Kp.kpL HB.out⟩⟩
   rw [if_pos c33] at H
   have c33b0 : decide (a2 ≤ (wrap64 ((rd l0 (rd t153 x15_1)) - (rd l1 (rd t156 x16_2))))) = true := decide_eq_true c33
   clear c33
   by_cases c34 : (wrap64 ((rd l0 (rd t153 x15_1)) - (rd l1 (rd t156 x16_2)))) ≤ a3
   rotate_left
   ·rw [if_neg c34] at H
    have c34b0 : decide ((wrap64 ((rd l0 (rd t153 x15_1)) - (rd l1 (rd t156 x16_2)))) ≤ a3) = false := decide_eq_false c34
    clear c34
    have H' := Kp.a H
    clear H
    obtain ⟨Ao44, co44, eo44⟩ := Kd.R_slice HO_12.out
    subst eo44
    try go_wp2
    have n0_ := Kp.a (Kd.R_drew HO_11.out)
    have n1_ := Kp.a (Kd.R_drew HO_12.out)
    have n2_ := Kp.a (Kd.R_drew HO_13.out)
    have n3_ := Kp.a (Kd.R_drew HO_14.out)
    have n4_ := Kp.a (below_drew1 HB.out)
    clear HO_11
    clear HO_12
    clear HO_13
    clear HO_14
    clear HB
    have HO_11 := n0_
    have HO_12 := n1_
    have HO_13 := n2_
    have HO_14 := n3_
    have HB := n4_
    clear n0_ n1_ n2_ n3_ n4_
    have p165 : 0 ≤ (x15_1 : Int) := Kp.d
    have q165 : x15_1 < (t153.length : Int) := Kp.d
    obtain ⟨ad165, e165, hx165_0⟩ := Kd.at_int (Kd.R_reads' HO_11.out).2.2 x15_1 p165 q165
    cases e165
    replace p165 := eq_true p165
    replace q165 := eq_true q165
    have p166 : 0 ≤ ((rd t153 x15_1) : Int) := Kp.d
    have q166 : (rd t153 x15_1) < (l0.length : Int) := Kp.d
    obtain ⟨ad166, e166, hx166_0⟩ := Kd.at_int HR0.out (rd t153 x15_1) p166 q166
    have hw166_0 := hx166_0
    cases e166
    replace hx166_0 := (HB.out.cell (World.block_lt_of_cell? w _ hx166_0)).trans hx166_0
    replace p166 := eq_true p166
    replace q166 := eq_true q166
    have p167 : 0 ≤ (x16_2 : Int) := Kp.d
    have q167 : x16_2 < (t156.length : Int) := Kp.d
    obtain ⟨ad167, e167, hx167_0⟩ := Kd.at_int (Kd.R_reads' HO_12.out).2.2 x16_2 p167 q167
    cases e167
    replace p167 := eq_true p167
    replace q167 := eq_true q167
    have p168 : 0 ≤ ((rd t156 x16_2) : Int) := Kp.d
    have q168 : (rd t156 x16_2) < (l1.length : Int) := Kp.d
    obtain ⟨ad168, e168, hx168_0⟩ := Kd.at_int HR1.out (rd t156 x16_2) p168 q168
    have hw168_0 := hx168_0
    cases e168
    replace hx168_0 := (HB.out.cell (World.block_lt_of_cell? w _ hx168_0)).trans hx168_0
    replace p168 := eq_true p168
    replace q168 := eq_true q168
    refine start_ (n := 16) (S := fun w' => w'.cell? (ad165.add (x15_1).toNat) = some (.int .i64 (rd t153 x15_1)) ∧ w'.cell? (ad166.add ((rd t153 x15_1)).toNat) = some (.int .i64 (rd l0 (rd t153 x15_1))) ∧ w'.cell? (ad167.add (x16_2).toNat) = some (.int .i64 (rd t156 x16_2)) ∧ w'.cell? (ad168.add ((rd t156 x16_2)).toNat) = some (.int .i64 (rd l1 (rd t156 x16_2)))) (ds := []) #[false, false, false, false, false, false, false, false, false, false, false, false, false, false, false, false] (by kernel_rfl) rfl rfl ⟨hx165_0, ((HB.out.cell (World.block_lt_of_cell? w _ hw166_0)).trans hw166_0), hx167_0, ((HB.out.cell (World.block_lt_of_cell? w _ hw168_0)).trans hw168_0)⟩ (fun hHeld => ?_); refine with_tabW spec_Matched.tab14 spec_Matched.bits14 (fun HT_ HW_ => ?_)
    generalize wr.drew = w45 at HO_11 HO_12 HO_13 HO_14 HB hx165_0 hx166_0 hx167_0 hx168_0 hHeld ⊢
    refine pure_ (i := 0) (N := some 47) (v := ?_) (a' := ?_) #[true, false, false, false, false, false, false, false, false, false, false, false, false, false, false, false] rfl rfl (any_of HT_.out (by kernel_rfl)) (fun _ _ _ h => h) (Or.inl ⟨by rfl, ?_⟩) ?_ ?_
    rotate_left
    ·intro w'
     go_simp
     with_reducible rfl
    rotate_left
    ·simp only [Act.put, Kp.s0, Kp.s1, Kp.s2, i64_w, i32_w]
     rfl
    refine pure_ (i := 1) (N := some 48) (v := ?_) (a' := ?_) #[true, true, false, false, false, false, false, false, false, false, false, false, false, false, false, false] rfl rfl (any_of HT_.out (by kernel_rfl)) (fun _ _ _ h => h) (Or.inl ⟨by rfl, ?_⟩) ?_ ?_
    rotate_left
    ·intro w'
     go_simp
     with_reducible rfl
    rotate_left
    ·simp only [Act.put, Kp.s0, Kp.s1, Kp.s2, i64_w, i32_w]
     rfl
    refine pure_ (i := 2) (N := some 49) (v := ?_) (a' := ?_) #[true, true, true, false, false, false, false, false, false, false, false, false, false, false, false, false] rfl rfl (any_of HT_.out (by kernel_rfl)) (fun _ _ _ h => h) (Or.inl ⟨by rfl, ?_⟩) ?_ ?_
    rotate_left
    ·intro w'
     go_simp
     with_reducible rfl
    rotate_left
    ·simp only [Act.put, Kp.s0, Kp.s1, Kp.s2, i64_w, i32_w]
     rfl
    refine pure_ (i := 3) (N := some 50) (v := ?_) (a' := ?_) #[true, true, true, true, false, false, false, false, false, false, false, false, false, false, false, false] rfl rfl (any_of HT_.out (by kernel_rfl)) (fun _ _ _ h => h) (Or.inl ⟨by rfl, ?_⟩) ?_ ?_
    rotate_left
    ·intro w'
     go_simp
     with_reducible rfl
    rotate_left
    ·simp only [Act.put, Kp.s0, Kp.s1, Kp.s2, i64_w, i32_w]
     rfl
    refine pure_ (i := 7) (N := some 54) (v := ?_) (a' := ?_) #[true, true, true, true, false, false, false, true, false, false, false, false, false, false, false, false] rfl rfl (any_of HT_.out (by kernel_rfl)) (fun _ _ _ h => h) (Or.inl ⟨by rfl, ?_⟩) ?_ ?_
    rotate_left
    ·intro w'
     go_simp
     with_reducible rfl
    rotate_left
    ·simp only [Act.put, Kp.s0, Kp.s1, Kp.s2, i64_w, i32_w]
     rfl
    refine pure_ (i := 8) (N := some 55) (v := ?_) (a' := ?_) #[true, true, true, true, false, false, false, true, true, false, false, false, false, false, false, false] rfl rfl (any_of HT_.out (by kernel_rfl)) (fun _ _ _ h => h) (Or.inl ⟨by rfl, ?_⟩) ?_ ?_
    rotate_left
    ·intro w'
     go_simp
     with_reducible rfl
    rotate_left
    ·simp only [Act.put, Kp.s0, Kp.s1, Kp.s2, i64_w, i32_w]
     rfl
    refine pure_ (i := 9) (N := some 56) (v := ?_) (a' := ?_) #[true, true, true, true, false, false, false, true, true, true, false, false, false, false, false, false] rfl rfl (any_of HT_.out (by kernel_rfl)) (fun _ _ _ h => h) (Or.inl ⟨by rfl, ?_⟩) ?_ ?_
    rotate_left
    ·intro w'
     go_simp
     with_reducible rfl
    rotate_left
    ·simp only [Act.put, Kp.s0, Kp.s1, Kp.s2, i64_w, i32_w]
     rfl
    refine pure_ (i := 10) (N := some 57) (v := ?_) (a' := ?_) #[true, true, true, true, false, false, false, true, true, true, true, false, false, false, false, false] rfl rfl (any_of HT_.out (by kernel_rfl)) (fun _ _ _ h => h) (Or.inl ⟨by rfl, ?_⟩) ?_ ?_
    rotate_left
    ·intro w'
     go_simp
     with_reducible rfl
    rotate_left
    ·simp only [Act.put, Kp.s0, Kp.s1, Kp.s2, i64_w, i32_w]
     rfl
    refine take_ (i := 4) (N := some 51) (v := ?_) (a' := ?_) #[true, true, true, true, true, false, false, true, true, true, true, false, false, false, false, false] rfl rfl (take_ofW HT_.out HW_.out (by kernel_rfl)) (fun _ _ _ h => h) (Or.inl ⟨by rfl, ?_⟩) hHeld ?_ ?_
    rotate_left
    ·rintro w' ⟨s0, s1, s2, s3⟩
     go_simp
     with_reducible rfl
    rotate_left
    ·simp only [Act.put, Kp.s0, Kp.s1, Kp.s2, i64_w, i32_w]
     rfl
    refine pure_ (i := 5) (N := some 52) (v := ?_) (a' := ?_) #[true, true, true, true, true, true, false, true, true, true, true, false, false, false, false, false] rfl rfl (any_of HT_.out (by kernel_rfl)) (fun _ _ _ h => h) (Or.inl ⟨by rfl, ?_⟩) ?_ ?_
    rotate_left
    ·intro w'
     go_simp
     with_reducible rfl
    rotate_left
    ·simp only [Act.put, Kp.s0, Kp.s1, Kp.s2, i64_w, i32_w]
     rfl
    refine take_ (i := 6) (N := some 53) (v := ?_) (a' := ?_) #[true, true, true, true, true, true, true, true, true, true, true, false, false, false, false, false] rfl rfl (take_ofW HT_.out HW_.out (by kernel_rfl)) (fun _ _ _ h => h) (Or.inl ⟨by rfl, ?_⟩) hHeld ?_ ?_
    rotate_left
    ·rintro w' ⟨s0, s1, s2, s3⟩
     go_simp
     with_reducible rfl
    rotate_left
    ·simp only [Act.put, Kp.s0, Kp.s1, Kp.s2, i64_w, i32_w]
     rfl
    refine take_ (i := 11) (N := some 58) (v := ?_) (a' := ?_) #[true, true, true, true, true, true, true, true, true, true, true, true, false, false, false, false] rfl rfl (take_ofW HT_.out HW_.out (by kernel_rfl)) (fun _ _ _ h => h) (Or.inl ⟨by rfl, ?_⟩) hHeld ?_ ?_
    rotate_left
    ·rintro w' ⟨s0, s1, s2, s3⟩
     go_simp
     with_reducible rfl
    rotate_left
    ·simp only [Act.put, Kp.s0, Kp.s1, Kp.s2, i64_w, i32_w]
     rfl
    refine pure_ (i := 12) (N := some 59) (v := ?_) (a' := ?_) #[true, true, true, true, true, true, true, true, true, true, true, true, true, false, false, false] rfl rfl (any_of HT_.out (by kernel_rfl)) (fun _ _ _ h => h) (Or.inl ⟨by rfl, ?_⟩) ?_ ?_
    rotate_left
    ·intro w'
     go_simp
     with_reducible rfl
    rotate_left
    ·simp only [Act.put, Kp.s0, Kp.s1, Kp.s2, i64_w, i32_w]
     rfl
    refine take_ (i := 13) (N := some 60) (v := ?_) (a' := ?_) #[true, true, true, true, true, true, true, true, true, true, true, true, true, true, false, false] rfl rfl (take_ofW HT_.out HW_.out (by kernel_rfl)) (fun _ _ _ h => h) (Or.inl ⟨by rfl, ?_⟩) hHeld ?_ ?_
    rotate_left
    ·rintro w' ⟨s0, s1, s2, s3⟩
     go_simp
     with_reducible rfl
    rotate_left
    ·simp only [Act.put, Kp.s0, Kp.s1, Kp.s2, i64_w, i32_w]
     rfl
    refine pure_ (i := 14) (N := some 61) (v := ?_) (a' := ?_) #[true, true, true, true, true, true, true, true, true, true, true, true, true, true, true, false] rfl rfl (any_of HT_.out (by kernel_rfl)) (fun _ _ _ h => h) (Or.inl ⟨by rfl, ?_⟩) ?_ ?_
    rotate_left
    ·intro w'
     go_simp
     with_reducible rfl
    rotate_left
    ·simp only [Act.put, Kp.s0, Kp.s1, Kp.s2, i64_w, i32_w]
     rfl
    refine pure_ (i := 15) (N := some 17) (v := ?_) (a' := ?_) #[true, true, true, true, true, true, true, true, true, true, true, true, true, true, true, true] rfl rfl (any_of HT_.out (by kernel_rfl)) (fun _ _ _ h => h) (Or.inl ⟨by rfl, ?_⟩) ?_ ?_
    rotate_left
    ·intro w'
     go_simp
     with_reducible rfl
    rotate_left
    ·simp only [Act.put, Kp.s0, Kp.s1, Kp.s2, i64_w, i32_w]
     rfl
    refine done_ (done_of HT_.out (by kernel_rfl)) ?_
    have p169 : 0 ≤ (x16_2 : Int) := Kp.d
    have q169 : x16_2 < (t156.length : Int) := Kp.d
    obtain ⟨ad169, e169, hx169_0⟩ := Kd.at_int (Kd.R_reads' HO_12.out).2.2 x16_2 p169 q169
    obtain rfl : ad167 = ad169 := (by injection e169)
    replace p169 := eq_true p169
    replace q169 := eq_true q169
    obtain ⟨Ao46, co46, eo46⟩ := Kd.R_slice HO_13.out
    subst eo46
    have p170 : 0 ≤ ((rd t156 x16_2) : Int) := Kp.d
    have q170 : (rd t156 x16_2) < (x13_2.length : Int) := Kp.d
    obtain ⟨ad170, e170, hx170_0⟩ := Kd.at_bool (Kd.R_reads' HO_13.out).2.2 (rd t156 x16_2) p170 q170
    (try rw [← Nbq28.out] at hx170_0)
    cases e170
    replace p170 := eq_true p170
    replace q170 := eq_true q170
    try go_wp2
    go_roundg k2
    case measure => have := HK1.out; have := HK2.out; omega
    case rel => exact ⟨(x13_2), (x14_2), (wrap64 (x16_2 + 1)), (by first | rfl | (simp; done) | (simp [*]; done)), H', ⟨by have := HK1.out; have := HK2.out; omega⟩, ⟨Kp.kpR HO_11.out⟩, ⟨Kp.kpR HO_12.out⟩, ⟨Kp.kpR HO_13.out⟩, ⟨Kp.kpR HO_14.out⟩, ⟨Kp.kpL HB.out⟩⟩
   rw [if_pos c34] at H
   have c34b0 : decide ((wrap64 ((rd l0 (rd t153 x15_1)) - (rd l1 (rd t156 x16_2)))) ≤ a3) = true := decide_eq_true c34
   clear c34
   obtain ⟨y172, hy172⟩ : ∃ y_ : List Bool, y_ = (x13_2.set ((rd t156 x16_2) : Int).toNat true) := ⟨_, rfl⟩
   replace H : (if x14_2.length < 8796093022208 then (spec_Matched.l0 k2 l0 l1 a2 a3 t153 t156 y172 (x14_2 ++ [(⟨rd t153 x15_1, rd t156 x16_2⟩ : S37)]) (wrap64 (x15_1 + 1))) else (none)) = some (r1, r2) := by first | (rw [hy172]; with_reducible exact H) | (have H2_ := (Option.bind_some _ _).symm.trans H; rw [hy172]; with_reducible exact H2_) | (have H2_ := (Option.bind_some _ _).symm.trans H; with_reducible exact H2_) | with_reducible exact H | (rw [hy172]; exact H) | exact H
   have Ny172 := Kp.a hy172
   clear hy172
   by_cases c36 : x14_2.length < 8796093022208
   rotate_left
   ·rw [if_neg c36] at H
    exact absurd H (by simp)
   rw [if_pos c36] at H
   have LMc36 := Kp.a c36
   clear c36
   obtain ⟨y175, hy175⟩ : ∃ y_ : List (S37), y_ = (x14_2 ++ [(⟨rd t153 x15_1, rd t156 x16_2⟩ : S37)]) := ⟨_, rfl⟩
   replace H : (spec_Matched.l0 k2 l0 l1 a2 a3 t153 t156 y172 y175 (wrap64 (x15_1 + 1))) = some (r1, r2) := by first | (rw [hy175]; with_reducible exact H) | (have H2_ := (Option.bind_some _ _).symm.trans H; rw [hy175]; with_reducible exact H2_) | (have H2_ := (Option.bind_some _ _).symm.trans H; with_reducible exact H2_) | with_reducible exact H | (rw [hy175]; exact H) | exact H
   have Ny175 := Kp.a hy175
   clear hy175
   have H' := Kp.a H
   clear H
   obtain ⟨Ao37, co37, eo37⟩ := Kd.R_slice HO_12.out
   subst eo37
   try go_wp2
   have n0_ := Kp.a (Kd.R_drew HO_11.out)
   have n1_ := Kp.a (Kd.R_drew HO_12.out)
   have n2_ := Kp.a (Kd.R_drew HO_13.out)
   have n3_ := Kp.a (Kd.R_drew HO_14.out)
   have n4_ := Kp.a (below_drew1 HB.out)
   clear HO_11
   clear HO_12
   clear HO_13
   clear HO_14
   clear HB
   have HO_11 := n0_
   have HO_12 := n1_
   have HO_13 := n2_
   have HO_14 := n3_
   have HB := n4_
   clear n0_ n1_ n2_ n3_ n4_
   have p165 : 0 ≤ (x15_1 : Int) := Kp.d
   have q165 : x15_1 < (t153.length : Int) := Kp.d
   obtain ⟨ad165, e165, hx165_0⟩ := Kd.at_int (Kd.R_reads' HO_11.out).2.2 x15_1 p165 q165
   cases e165
   replace p165 := eq_true p165
   replace q165 := eq_true q165
   have p166 : 0 ≤ ((rd t153 x15_1) : Int) := Kp.d
   have q166 : (rd t153 x15_1) < (l0.length : Int) := Kp.d
   obtain ⟨ad166, e166, hx166_0⟩ := Kd.at_int HR0.out (rd t153 x15_1) p166 q166
   have hw166_0 := hx166_0
   cases e166
   replace hx166_0 := (HB.out.cell (World.block_lt_of_cell? w _ hx166_0)).trans hx166_0
   replace p166 := eq_true p166
   replace q166 := eq_true q166
   have p167 : 0 ≤ (x16_2 : Int) := Kp.d
   have q167 : x16_2 < (t156.length : Int) := Kp.d
   obtain ⟨ad167, e167, hx167_0⟩ := Kd.at_int (Kd.R_reads' HO_12.out).2.2 x16_2 p167 q167
   cases e167
   replace p167 := eq_true p167
   replace q167 := eq_true q167
   have p168 : 0 ≤ ((rd t156 x16_2) : Int) := Kp.d
   have q168 : (rd t156 x16_2) < (l1.length : Int) := Kp.d
   obtain ⟨ad168, e168, hx168_0⟩ := Kd.at_int HR1.out (rd t156 x16_2) p168 q168
   have hw168_0 := hx168_0
   cases e168
   replace hx168_0 := (HB.out.cell (World.block_lt_of_cell? w _ hx168_0)).trans hx168_0
   replace p168 := eq_true p168
   replace q168 := eq_true q168
   refine start_ (n := 16) (S := fun w' => w'.cell? (ad165.add (x15_1).toNat) = some (.int .i64 (rd t153 x15_1)) ∧ w'.cell? (ad166.add ((rd t153 x15_1)).toNat) = some (.int .i64 (rd l0 (rd t153 x15_1))) ∧ w'.cell? (ad167.add (x16_2).toNat) = some (.int .i64 (rd t156 x16_2)) ∧ w'.cell? (ad168.add ((rd t156 x16_2)).toNat) = some (.int .i64 (rd l1 (rd t156 x16_2)))) (ds := []) #[false, false, false, false, false, false, false, false, false, false, false, false, false, false, false, false] (by kernel_rfl) rfl rfl ⟨hx165_0, ((HB.out.cell (World.block_lt_of_cell? w _ hw166_0)).trans hw166_0), hx167_0, ((HB.out.cell (World.block_lt_of_cell? w _ hw168_0)).trans hw168_0)⟩ (fun hHeld => ?_); refine with_tabW spec_Matched.tab14 spec_Matched.bits14 (fun HT_ HW_ => ?_)
   generalize wr.drew = w38 at HO_11 HO_12 HO_13 HO_14 HB hx165_0 hx166_0 hx167_0 hx168_0 hHeld ⊢
   refine pure_ (i := 0) (N := some 47) (v := ?_) (a' := ?_) #[true, false, false, false, false, false, false, false, false, false, false, false, false, false, false, false] rfl rfl (any_of HT_.out (by kernel_rfl)) (fun _ _ _ h => h) (Or.inl ⟨by rfl, ?_⟩) ?_ ?_
   rotate_left
   ·intro w'
    go_simp
    with_reducible rfl
   rotate_left
   ·simp only [Act.put, Kp.s0, Kp.s1, Kp.s2, i64_w, i32_w]
    rfl
   refine pure_ (i := 1) (N := some 48) (v := ?_) (a' := ?_) #[true, true, false, false, false, false, false, false, false, false, false, false, false, false, false, false] rfl rfl (any_of HT_.out (by kernel_rfl)) (fun _ _ _ h => h) (Or.inl ⟨by rfl, ?_⟩) ?_ ?_
   rotate_left
   ·intro w'
    go_simp
    with_reducible rfl
   rotate_left
   ·simp only [Act.put, Kp.s0, Kp.s1, Kp.s2, i64_w, i32_w]
    rfl
   refine pure_ (i := 2) (N := some 49) (v := ?_) (a' := ?_) #[true, true, true, false, false, false, false, false, false, false, false, false, false, false, false, false] rfl rfl (any_of HT_.out (by kernel_rfl)) (fun _ _ _ h => h) (Or.inl ⟨by rfl, ?_⟩) ?_ ?_
   rotate_left
   ·intro w'
    go_simp
    with_reducible rfl
   rotate_left
   ·simp only [Act.put, Kp.s0, Kp.s1, Kp.s2, i64_w, i32_w]
    rfl
   refine pure_ (i := 3) (N := some 50) (v := ?_) (a' := ?_) #[true, true, true, true, false, false, false, false, false, false, false, false, false, false, false, false] rfl rfl (any_of HT_.out (by kernel_rfl)) (fun _ _ _ h => h) (Or.inl ⟨by rfl, ?_⟩) ?_ ?_
   rotate_left
   ·intro w'
    go_simp
    with_reducible rfl
   rotate_left
   ·simp only [Act.put, Kp.s0, Kp.s1, Kp.s2, i64_w, i32_w]
    rfl
   refine pure_ (i := 7) (N := some 54) (v := ?_) (a' := ?_) #[true, true, true, true, false, false, false, true, false, false, false, false, false, false, false, false] rfl rfl (any_of HT_.out (by kernel_rfl)) (fun _ _ _ h => h) (Or.inl ⟨by rfl, ?_⟩) ?_ ?_
   rotate_left
   ·intro w'
    go_simp
    with_reducible rfl
   rotate_left
   ·simp only [Act.put, Kp.s0, Kp.s1, Kp.s2, i64_w, i32_w]
    rfl
   refine pure_ (i := 8) (N := some 55) (v := ?_) (a' := ?_) #[true, true, true, true, false, false, false, true, true, false, false, false, false, false, false, false] rfl rfl (any_of HT_.out (by kernel_rfl)) (fun _ _ _ h => h) (Or.inl ⟨by rfl, ?_⟩) ?_ ?_
   rotate_left
   ·intro w'
    go_simp
    with_reducible rfl
   rotate_left
   ·simp only [Act.put, Kp.s0, Kp.s1, Kp.s2, i64_w, i32_w]
    rfl
   refine pure_ (i := 9) (N := some 56) (v := ?_) (a' := ?_) #[true, true, true, true, false, false, false, true, true, true, false, false, false, false, false, false] rfl rfl (any_of HT_.out (by kernel_rfl)) (fun _ _ _ h => h) (Or.inl ⟨by rfl, ?_⟩) ?_ ?_
   rotate_left
   ·intro w'
    go_simp
    with_reducible rfl
   rotate_left
   ·simp only [Act.put, Kp.s0, Kp.s1, Kp.s2, i64_w, i32_w]
    rfl
   refine pure_ (i := 10) (N := some 57) (v := ?_) (a' := ?_) #[true, true, true, true, false, false, false, true, true, true, true, false, false, false, false, false] rfl rfl (any_of HT_.out (by kernel_rfl)) (fun _ _ _ h => h) (Or.inl ⟨by rfl, ?_⟩) ?_ ?_
   rotate_left
   ·intro w'
    go_simp
    with_reducible rfl
   rotate_left
   ·simp only [Act.put, Kp.s0, Kp.s1, Kp.s2, i64_w, i32_w]
    rfl
   refine take_ (i := 4) (N := some 51) (v := ?_) (a' := ?_) #[true, true, true, true, true, false, false, true, true, true, true, false, false, false, false, false] rfl rfl (take_ofW HT_.out HW_.out (by kernel_rfl)) (fun _ _ _ h => h) (Or.inl ⟨by rfl, ?_⟩) hHeld ?_ ?_
   rotate_left
   ·rintro w' ⟨s0, s1, s2, s3⟩
    go_simp
    with_reducible rfl
   rotate_left
   ·simp only [Act.put, Kp.s0, Kp.s1, Kp.s2, i64_w, i32_w]
    rfl
   refine pure_ (i := 5) (N := some 52) (v := ?_) (a' := ?_) #[true, true, true, true, true, true, false, true, true, true, true, false, false, false, false, false] rfl rfl (any_of HT_.out (by kernel_rfl)) (fun _ _ _ h => h) (Or.inl ⟨by rfl, ?_⟩) ?_ ?_
   rotate_left
   ·intro w'
    go_simp
    with_reducible rfl
   rotate_left
   ·simp only [Act.put, Kp.s0, Kp.s1, Kp.s2, i64_w, i32_w]
    rfl
   refine take_ (i := 6) (N := some 53) (v := ?_) (a' := ?_) #[true, true, true, true, true, true, true, true, true, true, true, false, false, false, false, false] rfl rfl (take_ofW HT_.out HW_.out (by kernel_rfl)) (fun _ _ _ h => h) (Or.inl ⟨by rfl, ?_⟩) hHeld ?_ ?_
   rotate_left
   ·rintro w' ⟨s0, s1, s2, s3⟩
    go_simp
    with_reducible rfl
   rotate_left
   ·simp only [Act.put, Kp.s0, Kp.s1, Kp.s2, i64_w, i32_w]
    rfl
   refine take_ (i := 11) (N := some 58) (v := ?_) (a' := ?_) #[true, true, true, true, true, true, true, true, true, true, true, true, false, false, false, false] rfl rfl (take_ofW HT_.out HW_.out (by kernel_rfl)) (fun _ _ _ h => h) (Or.inl ⟨by rfl, ?_⟩) hHeld ?_ ?_
   rotate_left
   ·rintro w' ⟨s0, s1, s2, s3⟩
    go_simp
    with_reducible rfl
   rotate_left
   ·simp only [Act.put, Kp.s0, Kp.s1, Kp.s2, i64_w, i32_w]
    rfl
   refine pure_ (i := 12) (N := some 59) (v := ?_) (a' := ?_) #[true, true, true, true, true, true, true, true, true, true, true, true, true, false, false, false] rfl rfl (any_of HT_.out (by kernel_rfl)) (fun _ _ _ h => h) (Or.inl ⟨by rfl, ?_⟩) ?_ ?_
   rotate_left
   ·intro w'
    go_simp
    with_reducible rfl
   rotate_left
   ·simp only [Act.put, Kp.s0, Kp.s1, Kp.s2, i64_w, i32_w]
    rfl
   refine take_ (i := 13) (N := some 60) (v := ?_) (a' := ?_) #[true, true, true, true, true, true, true, true, true, true, true, true, true, true, false, false] rfl rfl (take_ofW HT_.out HW_.out (by kernel_rfl)) (fun _ _ _ h => h) (Or.inl ⟨by rfl, ?_⟩) hHeld ?_ ?_
   rotate_left
   ·rintro w' ⟨s0, s1, s2, s3⟩
    go_simp
    with_reducible rfl
   rotate_left
   ·simp only [Act.put, Kp.s0, Kp.s1, Kp.s2, i64_w, i32_w]
    rfl
   refine pure_ (i := 14) (N := some 61) (v := ?_) (a' := ?_) #[true, true, true, true, true, true, true, true, true, true, true, true, true, true, true, false] rfl rfl (any_of HT_.out (by kernel_rfl)) (fun _ _ _ h => h) (Or.inl ⟨by rfl, ?_⟩) ?_ ?_
   rotate_left
   ·intro w'
    go_simp
    with_reducible rfl
   rotate_left
   ·simp only [Act.put, Kp.s0, Kp.s1, Kp.s2, i64_w, i32_w]
    rfl
   refine pure_ (i := 15) (N := some 17) (v := ?_) (a' := ?_) #[true, true, true, true, true, true, true, true, true, true, true, true, true, true, true, true] rfl rfl (any_of HT_.out (by kernel_rfl)) (fun _ _ _ h => h) (Or.inl ⟨by rfl, ?_⟩) ?_ ?_
   rotate_left
   ·intro w'
    go_simp
    with_reducible rfl
   rotate_left
   ·simp only [Act.put, Kp.s0, Kp.s1, Kp.s2, i64_w, i32_w]
    rfl
   refine done_ (done_of HT_.out (by kernel_rfl)) ?_
   have p169 : 0 ≤ (x16_2 : Int) := Kp.d
   have q169 : x16_2 < (t156.length : Int) := Kp.d
   obtain ⟨ad169, e169, hx169_0⟩ := Kd.at_int (Kd.R_reads' HO_12.out).2.2 x16_2 p169 q169
   obtain rfl : ad167 = ad169 := (by injection e169)
   replace p169 := eq_true p169
   replace q169 := eq_true q169
   obtain ⟨Ao39, co39, eo39⟩ := Kd.R_slice HO_13.out
   subst eo39
   have p170 : 0 ≤ ((rd t156 x16_2) : Int) := Kp.d
   have q170 : (rd t156 x16_2) < (x13_2.length : Int) := Kp.d
   obtain ⟨ad170, e170, hx170_0⟩ := Kd.at_bool (Kd.R_reads' HO_13.out).2.2 (rd t156 x16_2) p170 q170
   (try rw [← Nbq28.out] at hx170_0)
   cases e170
   replace p170 := eq_true p170
   replace q170 := eq_true q170
   have p171 : 0 ≤ (x16_2 : Int) := Kp.d
   have q171 : x16_2 < (t156.length : Int) := Kp.d
   obtain ⟨ad171, e171, hx171_0⟩ := Kd.at_int (Kd.R_reads' HO_12.out).2.2 x16_2 p171 q171
   obtain rfl : ad167 = ad171 := (by injection e171)
   replace p171 := eq_true p171
   replace q171 := eq_true q171
   have p35 : 0 ≤ ((rd t156 x16_2) : Int) := Kp.d
   have q35 : ((rd t156 x16_2) : Int) < ((x13_2.length : Int) : Int) := Kp.d
   obtain ⟨go35, co35, eo35, gb35, gl35, cl35, HG35⟩ := Kd.R_form HO_13.out (by omega)
   (first | cases eo35 | (injection eo35 with ea_ en_ ec_; (first | subst ea_ | (injection ea_ with ea_; subst ea_)); subst ec_; clear en_))
   have GB35 := Kp.a gb35
   have GG35 := Kp.a HG35
   clear gb35 gl35 HG35
   (first | simp only [add_plain] at hx170_0 | skip)
   obtain ⟨hx35_0, hf35_0⟩ := Kd.R_celln false HO_13.out ((rd t156 x16_2) : Int) p35 q35
   replace p35 := eq_true p35
   replace q35 := eq_true q35
   obtain ⟨hy40_, hz40_⟩ := Kd.R_celln false HO_13.out ((rd t156 x16_2) : Int) (Kp.d) (Kp.d)
   have HP40 := Kd.R_putg HO_13.out ((rd t156 x16_2) : Int) true
   try go_wp2_with (first | ((with_reducible refine gate_store (t := 4) (p := 85) rfl ?_); refine store_event (t := 4) (p := 85) (v := ?vo_w41) (w1 := (w38.setCell ⟨go35, ((rd t156 x16_2) : Int).toNat, none⟩ (.bool true))) ?hg ?ho ?hn ?hr ?_; (case ho => rfl); (case hg => rfl); (case hn => rfl); (case hr => first | (go_simp; done) | (go_simp; rfl)); intro w41 hw; have hg : w38.grownBy w41 (some go35) := (by rw [hw]; exact HP40.2); have hp_ : Kd.R Kd.bool 4 w41 w.heap.size (fun _ => True) (.slice (some ⟨go35, 0, none⟩) x13_2.length co39) y172 := (by rw [hw, Ny172.out]; exact HP40.1); clear HP40; have n0_ := Kp.a (Kd.R_over' (v := (.slice (some ⟨go35, 0, none⟩) x13_2.length co39)) (Kp.kpR HO_11.out) (Kd.R_typed HO_13.out) (by decide) hg); have n1_ := Kp.a (Kd.R_over' (v := (.slice (some ⟨go35, 0, none⟩) x13_2.length co39)) (Kp.kpR HO_12.out) (Kd.R_typed HO_13.out) (by decide) hg); have n2_ := Kp.a (hp_); have n3_ := Kp.a (Kd.R_over' (v := (.slice (some ⟨go35, 0, none⟩) x13_2.length co39)) (Kp.kpR HO_14.out) (Kd.R_typed HO_13.out) (by decide) hg); have n4_ := Kp.a ((by rw [hw]; exact below_set (HB.out) GB35.out : Below w.heap.size w w41)); clear HO_11; clear HO_12; clear HO_13; clear HO_14; clear HB; have HO_11 := n0_; have HO_12 := n1_; have HO_13 := n2_; have HO_14 := n3_; have HB := n4_; clear n0_ n1_ n2_ n3_ n4_; clear hg hw hp_))
   have n0_ := Kp.a (Kd.R_drew HO_11.out)
   have n1_ := Kp.a (Kd.R_drew HO_12.out)
   have n2_ := Kp.a (Kd.R_drew HO_13.out)
   have n3_ := Kp.a (Kd.R_drew HO_14.out)
   have n4_ := Kp.a (below_drew1 HB.out)
   clear HO_11
   clear HO_12
   clear HO_13
   clear HO_14
   clear HB
   have HO_11 := n0_
   have HO_12 := n1_
   have HO_13 := n2_
   have HO_14 := n3_
   have HB := n4_
   clear n0_ n1_ n2_ n3_ n4_
   have p173 : 0 ≤ (x15_1 : Int) := Kp.d
   have q173 : x15_1 < (t153.length : Int) := Kp.d
   obtain ⟨ad173, e173, hx173_0⟩ := Kd.at_int (Kd.R_reads' HO_11.out).2.2 x15_1 p173 q173
   obtain rfl : ad165 = ad173 := (by injection e173)
   replace p173 := eq_true p173
   replace q173 := eq_true q173
   have p174 : 0 ≤ (x16_2 : Int) := Kp.d
   have q174 : x16_2 < (t156.length : Int) := Kp.d
   obtain ⟨ad174, e174, hx174_0⟩ := Kd.at_int (Kd.R_reads' HO_12.out).2.2 x16_2 p174 q174
   obtain rfl : ad167 = ad174 := (by injection e174)
   replace p174 := eq_true p174
   replace q174 := eq_true q174
   refine start_ (n := 13) (S := fun w' => w'.cell? (ad165.add (x15_1).toNat) = some (.int .i64 (rd t153 x15_1)) ∧ w'.cell? (ad167.add (x16_2).toNat) = some (.int .i64 (rd t156 x16_2))) (ds := [10, 11]) #[false, false, false, false, false, false, false, false, false, false, false, false, false] (by kernel_rfl) rfl rfl ⟨hx173_0, hx174_0⟩ (fun hHeld => ?_); refine with_tabW spec_Matched.tab17 spec_Matched.bits17 (fun HT_ HW_ => ?_)
   generalize w41.drew = w42 at HO_11 HO_12 HO_13 HO_14 HB hx173_0 hx174_0 hHeld ⊢
   refine pure_ (i := 0) (N := some 86) (v := ?_) (a' := ?_) #[true, false, false, false, false, false, false, false, false, false, false, false, false] rfl rfl (any_of HT_.out (by kernel_rfl)) (fun _ _ _ h => h) (Or.inl ⟨by rfl, ?_⟩) ?_ ?_
   rotate_left
   ·intro w'
    go_simp
    with_reducible rfl
   rotate_left
   ·simp only [Act.put, Kp.s0, Kp.s1, Kp.s2, i64_w, i32_w]
    rfl
   refine pure_ (i := 1) (N := some 87) (v := ?_) (a' := ?_) #[true, true, false, false, false, false, false, false, false, false, false, false, false] rfl rfl (any_of HT_.out (by kernel_rfl)) (fun _ _ _ h => h) (Or.inl ⟨by rfl, ?_⟩) ?_ ?_
   rotate_left
   ·intro w'
    go_simp
    with_reducible rfl
   rotate_left
   ·simp only [Act.put, Kp.s0, Kp.s1, Kp.s2, i64_w, i32_w]
    rfl
   refine pure_ (i := 2) (N := some 88) (v := ?_) (a' := ?_) #[true, true, true, false, false, false, false, false, false, false, false, false, false] rfl rfl (any_of HT_.out (by kernel_rfl)) (fun _ _ _ h => h) (Or.inl ⟨by rfl, ?_⟩) ?_ ?_
   rotate_left
   ·intro w'
    go_simp
    with_reducible rfl
   rotate_left
   ·simp only [Act.put, Kp.s0, Kp.s1, Kp.s2, i64_w, i32_w]
    rfl
   refine pure_ (i := 3) (N := some 89) (v := ?_) (a' := ?_) #[true, true, true, true, false, false, false, false, false, false, false, false, false] rfl rfl (any_of HT_.out (by kernel_rfl)) (fun _ _ _ h => h) (Or.inl ⟨by rfl, ?_⟩) ?_ ?_
   rotate_left
   ·intro w'
    go_simp
    with_reducible rfl
   rotate_left
   ·simp only [Act.put, Kp.s0, Kp.s1, Kp.s2, i64_w, i32_w]
    rfl
   refine pure_ (i := 5) (N := some 91) (v := ?_) (a' := ?_) #[true, true, true, true, false, true, false, false, false, false, false, false, false] rfl rfl (any_of HT_.out (by kernel_rfl)) (fun _ _ _ h => h) (Or.inl ⟨by rfl, ?_⟩) ?_ ?_
   rotate_left
   ·intro w'
    go_simp
    with_reducible rfl
   rotate_left
   ·simp only [Act.put, Kp.s0, Kp.s1, Kp.s2, i64_w, i32_w]
    rfl
   refine pure_ (i := 6) (N := some 92) (v := ?_) (a' := ?_) #[true, true, true, true, false, true, true, false, false, false, false, false, false] rfl rfl (any_of HT_.out (by kernel_rfl)) (fun _ _ _ h => h) (Or.inl ⟨by rfl, ?_⟩) ?_ ?_
   rotate_left
   ·intro w'
    go_simp
    with_reducible rfl
   rotate_left
   ·simp only [Act.put, Kp.s0, Kp.s1, Kp.s2, i64_w, i32_w]
    rfl
   refine pure_ (i := 7) (N := some 93) (v := ?_) (a' := ?_) #[true, true, true, true, false, true, true, true, false, false, false, false, false] rfl rfl (any_of HT_.out (by kernel_rfl)) (fun _ _ _ h => h) (Or.inl ⟨by rfl, ?_⟩) ?_ ?_
   rotate_left
   ·intro w'
    go_simp
    with_reducible rfl
   rotate_left
   ·simp only [Act.put, Kp.s0, Kp.s1, Kp.s2, i64_w, i32_w]
    rfl
   refine take_ (i := 4) (N := some 90) (v := ?_) (a' := ?_) #[true, true, true, true, true, true, true, true, false, false, false, false, false] rfl rfl (take_ofW HT_.out HW_.out (by kernel_rfl)) (fun _ _ _ h => h) (Or.inl ⟨by rfl, ?_⟩) hHeld ?_ ?_
   rotate_left
   ·rintro w' ⟨s0, s1⟩
    go_simp
    with_reducible rfl
   rotate_left
   ·simp only [Act.put, Kp.s0, Kp.s1, Kp.s2, i64_w, i32_w]
    rfl
   refine take_ (i := 8) (N := some 94) (v := ?_) (a' := ?_) #[true, true, true, true, true, true, true, true, true, false, false, false, false] rfl rfl (take_ofW HT_.out HW_.out (by kernel_rfl)) (fun _ _ _ h => h) (Or.inl ⟨by rfl, ?_⟩) hHeld ?_ ?_
   rotate_left
   ·rintro w' ⟨s0, s1⟩
    go_simp
    with_reducible rfl
   rotate_left
   ·simp only [Act.put, Kp.s0, Kp.s1, Kp.s2, i64_w, i32_w]
    rfl
   refine pure_ (i := 9) (N := some 95) (v := ?_) (a' := ?_) #[true, true, true, true, true, true, true, true, true, true, false, false, false] rfl rfl (any_of HT_.out (by kernel_rfl)) (fun _ _ _ h => h) (Or.inl ⟨by rfl, ?_⟩) ?_ ?_
   rotate_left
   ·intro w'
    go_simp
    with_reducible rfl
   rotate_left
   ·simp only [Act.put, Kp.s0, Kp.s1, Kp.s2, i64_w, i32_w]
    rfl
   refine last_ (i := 10) (N := some 96) #[true, true, true, true, true, true, true, true, true, true, true, false, false] rfl rfl (one_of HT_.out (by kernel_rfl)) (by decide) (fun K hK => ?_)
   refine value_ (w1 := ?_) (v := ?_) (by rfl) rfl ?_ ?_
   rotate_left 2
   ·go_simp
    constructor
    ·rfl
    rfl
   refine hK.out _ _ ?_
   clear hK K
   refine norm_ (a' := ?_) ?_ ?_
   rotate_left
   ·show Act.put _ (some 96) _ = _
    simp only [Act.put, Kp.s0, Kp.s1, Kp.s2, i64_w, i32_w]
    rfl
   refine last_ (i := 11) (N := some 97) #[true, true, true, true, true, true, true, true, true, true, true, true, false] rfl rfl (one_of HT_.out (by kernel_rfl)) (by decide) (fun K hK => ?_)
   refine Kd.R_append_step k37 (w0 := w) w.heap.size (by rfl) (.tmp 86) (.tmp 96) 23 37 (.agg #[(.int .i64 0), (.int .i64 0)]) 16 rfl Try.underlying23 info37 rfl (by decide) (by omega) u14 x14_2 (⟨rd t153 x15_1, rd t156 x16_2⟩ : S37) [.int .i64 (rd t153 x15_1), .int .i64 (rd t156 x16_2)] (fun _ => True) (fun _ => False) rfl rfl ?aP (fun _ hk => hk.elim) ?aF ?aO ?aB ?aS ?aL ?_
   (case aP => exact k37_mkM _ _ _ (⟨rd t153 x15_1, rd t156 x16_2⟩ : S37))
   (case aB => exact (Kp.kpL HB.out))
   (case aF => exact (fun _ _ => trivial))
   (case aO => exact (Kp.kpR HO_14.out))
   (case aS => exact (below_size (Kp.kpL HB.out)))
   (case aL => have := LMc36.out; omega)
   intro v176 w43 ho hb hg hat
   rw [← Ny175.out] at ho
   have n0_ := Kp.a (Kd.R_over' (Kp.kpR HO_11.out) (Kd.R_typed (Kp.kpR HO_14.out)) (by decide) hg)
   have n1_ := Kp.a (Kd.R_over' (Kp.kpR HO_12.out) (Kd.R_typed (Kp.kpR HO_14.out)) (by decide) hg)
   have n2_ := Kp.a (Kd.R_over' (Kp.kpR HO_13.out) (Kd.R_typed (Kp.kpR HO_14.out)) (by decide) hg)
   have n3_ := Kp.a (hb)
   have n4_ := Kp.a (ho)
   clear HO_11
   clear HO_12
   clear HO_13
   clear HB
   clear HO_14
   have HO_11 := n0_
   have HO_12 := n1_
   have HO_13 := n2_
   have HB := n3_
   have HO177 := n4_
   clear n0_ n1_ n2_ n3_ n4_
   clear ho hb hg hat
   refine hK.out _ _ ?_
   clear hK K
   refine norm_ (a' := ?_) ?_ ?_
   rotate_left
   ·show Act.put _ (some 97) _ = _
    simp only [Act.put, Kp.s0, Kp.s1, Kp.s2, i64_w, i32_w]
    rfl
   refine pure_ (i := 12) (N := some 14) (v := ?_) (a' := ?_) #[true, true, true, true, true, true, true, true, true, true, true, true, true] rfl rfl (any_of HT_.out (by kernel_rfl)) (fun _ _ _ h => h) (Or.inl ⟨by rfl, ?_⟩) ?_ ?_
   rotate_left
   ·intro w'
    go_simp
    with_reducible rfl
   rotate_left
   ·simp only [Act.put, Kp.s0, Kp.s1, Kp.s2, i64_w, i32_w]
    rfl
   refine done_ (done_of HT_.out (by kernel_rfl)) ?_
   try go_wp2
   go_roundg k2
   case measure => have := HK1.out; have := HK2.out; omega
   case rel => exact ⟨(y172), (y175), (wrap64 (x15_1 + 1)), (by first | rfl | (simp; done) | (simp [*]; done)), H', ⟨by have := HK1.out; have := HK2.out; omega⟩, ⟨Kp.kpR HO_11.out⟩, ⟨Kp.kpR HO_12.out⟩, ⟨Kp.kpR HO_13.out⟩, ⟨Kp.kpR HO177.out⟩, ⟨Kp.kpL HB.out⟩⟩
end Go.Proofs.Ytkijhilmgljegaa.PT


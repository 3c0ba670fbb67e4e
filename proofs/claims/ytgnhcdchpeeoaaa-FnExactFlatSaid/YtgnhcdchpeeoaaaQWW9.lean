import Derived.Test.YtgnhcdchpeeoaaaQWW0
import Derived.Test.YtgnhcdchpeeoaaaVWk
import Derived.Test.YtgnhcdchpeeoaaaQWW1
import Derived.Test.YtgnhcdchpeeoaaaQWW5
import Derived.Test.YtgnhcdchpeeoaaaQWW8
namespace Go.Proofs.Ytgnhcdchpeeoaaa.PW
open Go.RowKit Go.Proofs.YtgnhcdchpeeoaaaW.PrintWords Go.Proofs.YtgnhcdchpeeoaaaW.PrintLast Go.Proofs.YtgnhcdchpeeoaaaW.PrintMore
attribute [local go_sem] max2_int min2_int max_two min_two max_three min_three max_four min_four
set_option linter.unusedVariables false
set_option linter.unusedSimpArgs false
attribute [local go_sem high] eqA34
mutual
def spec_Flat.j0 : Nat → List (S34) → List Int → Bool → Option (List Int × List Int × Int)
 | 0, _, _, _ => none
 | k + 1, x0, x5, x36 => if x36 = true then (some (x5, x5, 1)) else (spec_Flat.l0 k x0 x5 (([] : List Int)) (([] : List Int)) 1 0 1)
def spec_Flat.l0 : Nat → List (S34) → List Int → List Int → List Int → Int → Int → Int → Option (List Int × List Int × Int)
 | 0, _, _, _, _, _, _, _ => none
 | k + 1, x0, x5, x6, x7, x8, x9, x10 => if x10 < (x0.length : Int) then (if 0 ≤ x10 then (if 0 ≤ (wrap64 (x10 - 1)) then (if (wrap64 (x10 - 1)) < (x0.length : Int) then ((spec_l01Abs.f (wrap64 (((rd_T34 x0 x10).f0) - ((rd_T34 x0 (wrap64 (x10 - 1))).f0)))).bind fun t205 => ((spec_l01Abs.f (wrap64 (((rd_T34 x0 x10).f1) - ((rd_T34 x0 (wrap64 (x10 - 1))).f1)))).bind fun t206 => (if (wrap64 (t205 + t206)) = 0 then (spec_Flat.j2 k x0 x5 x6 x7 x8 x9 x10 (wrap64 (((rd_T34 x0 x10).f0) - ((rd_T34 x0 (wrap64 (x10 - 1))).f0))) (wrap64 (((rd_T34 x0 x10).f1) - ((rd_T34 x0 (wrap64 (x10 - 1))).f1))) (wrap64 (t205 + t206)) true) else (if (wrap64 (((rd_T34 x0 x10).f0) - ((rd_T34 x0 (wrap64 (x10 - 1))).f0))) = 0 then (spec_Flat.j2 k x0 x5 x6 x7 x8 x9 x10 (wrap64 (((rd_T34 x0 x10).f0) - ((rd_T34 x0 (wrap64 (x10 - 1))).f0))) (wrap64 (((rd_T34 x0 x10).f1) - ((rd_T34 x0 (wrap64 (x10 - 1))).f1))) (wrap64 (t205 + t206)) false) else (spec_Flat.j2 k x0 x5 x6 x7 x8 x9 x10 (wrap64 (((rd_T34 x0 x10).f0) - ((rd_T34 x0 (wrap64 (x10 - 1))).f0))) (wrap64 (((rd_T34 x0 x10).f1) - ((rd_T34 x0 (wrap64 (x10 - 1))).f1))) (wrap64 (t205 + t206)) ((wrap64 (((rd_T34 x0 x10).f1) - ((rd_T34 x0 (wrap64 (x10 - 1))).f1))) != 0)))))) else (none)) else (none)) else (none)) else ((spec_Bent.f k x6 x7).bind fun bt216 => (if bt216.2.1 = 0 then (spec_Flat.j3 k x0 x5 x6 x7 bt216.1 ((bt216.1.length : Int) != (x0.length : Int))) else (spec_Flat.j3 k x0 x5 x6 x7 bt216.1 true)))
def spec_Flat.j2 : Nat → List (S34) → List Int → List Int → List Int → Int → Int → Int → Int → Int → Int → Bool → Option (List Int × List Int × Int)
 | 0, _, _, _, _, _, _, _, _, _, _, _ => none
 | k + 1, x0, x5, x6, x7, x8, x9, x10, x11, x12, x13, x85 => if x85 = true then (some (x5, x5, 1)) else (if x13 = 0 then (none) else (if x10 > 1 then (if x7.length < 17592186044416 then (if x6.length < 17592186044416 then (spec_Flat.l0 k x0 x5 (x6 ++ [x13]) (x7 ++ [wrap64 ((wrap64 (x8 * (wrap64 (Int.tdiv x12 x13)))) - (wrap64 (x9 * (wrap64 (Int.tdiv x11 x13)))))]) (wrap64 (Int.tdiv x11 x13)) (wrap64 (Int.tdiv x12 x13)) (wrap64 (x10 + 1))) else (none)) else (none)) else (if x6.length < 17592186044416 then (spec_Flat.l0 k x0 x5 (x6 ++ [x13]) x7 (wrap64 (Int.tdiv x11 x13)) (wrap64 (Int.tdiv x12 x13)) (wrap64 (x10 + 1))) else (none))))
def spec_Flat.j3 : Nat → List (S34) → List Int → List Int → List Int → List (S34) → Bool → Option (List Int × List Int × Int)
 | 0, _, _, _, _, _, _ => none
 | k + 1, x0, x5, x6, x7, x14, x127 => if x127 = true then (some (x5, x5, 1)) else (spec_Flat.l1 k x0 x5 x6 x7 x14 0)
def spec_Flat.l1 : Nat → List (S34) → List Int → List Int → List Int → List (S34) → Int → Option (List Int × List Int × Int)
 | 0, _, _, _, _, _, _ => none
 | k + 1, x0, x5, x6, x7, x14, x17 => if x17 < (x14.length : Int) then (if 0 ≤ x17 then (if x17 < (x0.length : Int) then (if (!(((rd_T34 x14 x17).f0) == ((rd_T34 x0 x17).f0)) || (!(((rd_T34 x14 x17).f1) == ((rd_T34 x0 x17).f1)))) = true then (some (x5, x5, 1)) else (spec_Flat.l1 k x0 x5 x6 x7 x14 (wrap64 (x17 + 1)))) else (none)) else (none)) else (some (x6, x7, 0))
end
def spec_Flat.f (k : Nat) (l0 : List (S34)) : Option (List Int × List Int × Int) := (some (([] : List Int) : List Int)).bind fun y191 => (if (l0.length : Int) > 4096 then (some (y191, y191, 2)) else (if (l0.length : Int) < 2 then (spec_Flat.j0 k l0 y191 true) else (if (l0.length : Int) > 41 then (spec_Flat.j0 k l0 y191 true) else ((spec_l03Points.f k l0).bind fun t194 => (spec_Flat.j0 k l0 y191 (!t194))))))
set_option maxHeartbeats 8000000 in
set_option maxRecDepth 100000 in
theorem spec_Flat.calls (k : Nat) (A0 : Option Addr) (c0 : Nat) (l0 : List (S34)) (r1 : List Int) (r2 : List Int) (r3 : Int) (w : World) (hr0 : Kd.C k34 w A0 l0.length l0) (hc0 : l0.length ≤ c0) (h : spec_Flat.f k l0 = some (r1, r2, r3)) :
  Calls Try.prog 46 #[.slice A0 l0.length c0] w fun e w' => ∃ v0_ v1_ : Value, e = .returned (.tuple #[v0_, v1_, .int .i64 r3]) ∧ Kd.V (Kd.int .i64) 3 w' w.heap.size (fun k_ => (w.heap.size ≤ k_)) v0_ r1 ∧ Kd.V (Kd.int .i64) 3 w' w.heap.size (fun k_ => (w.heap.size ≤ k_)) v1_ r2 ∧ Below w.heap.size w w' := by
 have hu34 := Try.underlying34
 have HR0 := Kp.a hr0
 have HC0 := Kp.a hc0
 clear hr0 hc0
 have HB := Kp.a (Below.refl w.heap.size w)
 have H : ((some (([] : List Int) : List Int)).bind fun y191 => (if (l0.length : Int) > 4096 then (some (y191, y191, 2)) else (if (l0.length : Int) < 2 then (spec_Flat.j0 k l0 y191 true) else (if (l0.length : Int) > 41 then (spec_Flat.j0 k l0 y191 true) else ((spec_l03Points.f k l0).bind fun t194 => (spec_Flat.j0 k l0 y191 (!t194))))))) = some (r1, r2, r3) := h
 clear h
 obtain ⟨y191, hy191⟩ : ∃ y_ : List Int, y_ = (([] : List Int)) := ⟨_, rfl⟩
 replace H : (if (l0.length : Int) > 4096 then (some (y191, y191, 2)) else (if (l0.length : Int) < 2 then (spec_Flat.j0 k l0 y191 true) else (if (l0.length : Int) > 41 then (spec_Flat.j0 k l0 y191 true) else ((spec_l03Points.f k l0).bind fun t194 => (spec_Flat.j0 k l0 y191 (!t194)))))) = some (r1, r2, r3) := by first | (rw [hy191]; with_reducible exact H) | (have H2_ := (Option.bind_some _ _).symm.trans H; rw [hy191]; with_reducible exact H2_) | (have H2_ := (Option.bind_some _ _).symm.trans H; with_reducible exact H2_) | with_reducible exact H | (rw [hy191]; exact H) | exact H
 have Ny191 := Kp.a hy191
 clear hy191
 by_cases c2 : (l0.length : Int) > 4096
 ·rw [if_pos c2] at H
  have c2b0 : decide (4096 < (l0.length : Int)) = true := decide_eq_true c2
  have c2b1 : decide (4096 < l0.length) = true := decide_eq_true (by omega)
  clear c2
  simp only [Option.some.injEq, Prod.mk.injEq] at H
  obtain ⟨rfl, rfl, rfl⟩ := H
  go_enter Try.func46, Try.ntmps46
  go_wp2_with (first | ((with_reducible refine gate_dst (N := 18) rfl ?_); (try (refine gate_guard (by rfl) ?_; dsimp only)); refine Kd.R_lit (Kd.int .i64) _ 3 ?hg (N := 18) ?hd (xs := ([] : List Int)) (inner := []) (ok := fun _ => True) (okp := fun _ => True) ?hr ?hp (fun _ hk => hk) trivial (Below.refl _ _) (Nat.le_refl _) (by simp) ?_; (case hd => rfl); (case hg => rfl); (case hr => first | (go_simp; done) | (go_simp; rfl)); (case hp => exact (Reps.none _ _)); intro v192 w3 ho4 hb hg_ hnew_; clear hg_ hnew_; (first | rw [← Ny191.out] at ho4 | (simp only [Int.reduceToNat] at ho4; rw [← Ny191.out] at ho4)); have n0_ := Kp.a (Kd.R_lower (Kd.R_newM (M := fun k_ => (w.heap.size ≤ k_)) ho4 (below_size (Kp.kpL HB.out)) (fun k_ h_ => h_)) (below_size (Kp.kpL HB.out))); have n1_ := Kp.a (below_step (Kp.kpL HB.out) hb); clear HB; have HO193 := n0_; have HB := n1_; clear n0_ n1_; clear hb ho4))
  repeat (go_quiet (first | ((with_reducible refine gate_dst (N := 18) rfl ?_); (try (refine gate_guard (by rfl) ?_; dsimp only)); refine Kd.R_lit (Kd.int .i64) _ 3 ?hg (N := 18) ?hd (xs := ([] : List Int)) (inner := []) (ok := fun _ => True) (okp := fun _ => True) ?hr ?hp (fun _ hk => hk) trivial (Below.refl _ _) (Nat.le_refl _) (by simp) ?_; (case hd => rfl); (case hg => rfl); (case hr => first | (go_simp; done) | (go_simp; rfl)); (case hp => exact (Reps.none _ _)); intro v192 w3 ho4 hb hg_ hnew_; clear hg_ hnew_; (first | rw [← Ny191.out] at ho4 | (simp only [Int.reduceToNat] at ho4; rw [← Ny191.out] at ho4)); have n0_ := Kp.a (Kd.R_lower (Kd.R_newM (M := fun k_ => (w.heap.size ≤ k_)) ho4 (below_size (Kp.kpL HB.out)) (fun k_ h_ => h_)) (below_size (Kp.kpL HB.out))); have n1_ := Kp.a (below_step (Kp.kpL HB.out) hb); clear HB; have HO193 := n0_; have HB := n1_; clear n0_ n1_; clear hb ho4)); try go_wp2_with (first | ((with_reducible refine gate_dst (N := 18) rfl ?_); (try (refine gate_guard (by rfl) ?_; dsimp only)); refine Kd.R_lit (Kd.int .i64) _ 3 ?hg (N := 18) ?hd (xs := ([] : List Int)) (inner := []) (ok := fun _ => True) (okp := fun _ => True) ?hr ?hp (fun _ hk => hk) trivial (Below.refl _ _) (Nat.le_refl _) (by simp) ?_; (case hd => rfl); (case hg => rfl); (case hr => first | (go_simp; done) | (go_simp; rfl)); (case hp => exact (Reps.none _ _)); intro v192 w3 ho4 hb hg_ hnew_; clear hg_ hnew_; (first | rw [← Ny191.out] at ho4 | (simp only [Int.reduceToNat] at ho4; rw [← Ny191.out] at ho4)); have n0_ := Kp.a (Kd.R_lower (Kd.R_newM (M := fun k_ => (w.heap.size ≤ k_)) ho4 (below_size (Kp.kpL HB.out)) (fun k_ h_ => h_)) (below_size (Kp.kpL HB.out))); have n1_ := Kp.a (below_step (Kp.kpL HB.out) hb); clear HB; have HO193 := n0_; have HB := n1_; clear n0_ n1_; clear hb ho4)))
  go_ret3
  exact ⟨_, _, by first | rfl | (simp [errW_none, errW_some] <;> rfl) | (simp [*, errW_none, errW_some] <;> rfl), Kd.R_V (Kp.kpR (Kd.R_mono HO193.out (fun _ hk => hk.1))), Kd.R_V (Kp.kpR (Kd.R_mono HO193.out (fun _ hk => hk.1))), Kp.kpL HB.out⟩
 rw [if_neg c2] at H
 have c2b0 : decide (4096 < (l0.length : Int)) = false := decide_eq_false c2
 have c2b1 : decide (4096 < l0.length) = false := decide_eq_false (by omega)
 clear c2
 have HC5 := Kp.a H
 clear H
 go_enter Try.func46, Try.ntmps46
 go_upto_region 4 with (first | ((with_reducible refine gate_dst (N := 18) rfl ?_); (try (refine gate_guard (by rfl) ?_; dsimp only)); refine Kd.R_lit (Kd.int .i64) _ 3 ?hg (N := 18) ?hd (xs := ([] : List Int)) (inner := []) (ok := fun _ => True) (okp := fun _ => True) ?hr ?hp (fun _ hk => hk) trivial (Below.refl _ _) (Nat.le_refl _) (by simp) ?_; (case hd => rfl); (case hg => rfl); (case hr => first | (go_simp; done) | (go_simp; rfl)); (case hp => exact (Reps.none _ _)); intro v192 w6 ho7 hb hg_ hnew_; clear hg_ hnew_; (first | rw [← Ny191.out] at ho7 | (simp only [Int.reduceToNat] at ho7; rw [← Ny191.out] at ho7)); have n0_ := Kp.a (Kd.R_lower (Kd.R_newM (M := fun k_ => (w.heap.size ≤ k_)) ho7 (below_size (Kp.kpL HB.out)) (fun k_ h_ => h_)) (below_size (Kp.kpL HB.out))); have n1_ := Kp.a (below_step (Kp.kpL HB.out) hb); clear HB; have HO193 := n0_; have HB := n1_; clear n0_ n1_; clear hb ho7))
 repeat (go_quiet (first | ((with_reducible refine gate_dst (N := 18) rfl ?_); (try (refine gate_guard (by rfl) ?_; dsimp only)); refine Kd.R_lit (Kd.int .i64) _ 3 ?hg (N := 18) ?hd (xs := ([] : List Int)) (inner := []) (ok := fun _ => True) (okp := fun _ => True) ?hr ?hp (fun _ hk => hk) trivial (Below.refl _ _) (Nat.le_refl _) (by simp) ?_; (case hd => rfl); (case hg => rfl); (case hr => first | (go_simp; done) | (go_simp; rfl)); (case hp => exact (Reps.none _ _)); intro v192 w6 ho7 hb hg_ hnew_; clear hg_ hnew_; (first | rw [← Ny191.out] at ho7 | (simp only [Int.reduceToNat] at ho7; rw [← Ny191.out] at ho7)); have n0_ := Kp.a (Kd.R_lower (Kd.R_newM (M := fun k_ => (w.heap.size ≤ k_)) ho7 (below_size (Kp.kpL HB.out)) (fun k_ h_ => h_)) (below_size (Kp.kpL HB.out))); have n1_ := Kp.a (below_step (Kp.kpL HB.out) hb); clear HB; have HO193 := n0_; have HB := n1_; clear n0_ n1_; clear hb ho7)); go_upto_region 4 with (first | ((with_reducible refine gate_dst (N := 18) rfl ?_); (try (refine gate_guard (by rfl) ?_; dsimp only)); refine Kd.R_lit (Kd.int .i64) _ 3 ?hg (N := 18) ?hd (xs := ([] : List Int)) (inner := []) (ok := fun _ => True) (okp := fun _ => True) ?hr ?hp (fun _ hk => hk) trivial (Below.refl _ _) (Nat.le_refl _) (by simp) ?_; (case hd => rfl); (case hg => rfl); (case hr => first | (go_simp; done) | (go_simp; rfl)); (case hp => exact (Reps.none _ _)); intro v192 w6 ho7 hb hg_ hnew_; clear hg_ hnew_; (first | rw [← Ny191.out] at ho7 | (simp only [Int.reduceToNat] at ho7; rw [← Ny191.out] at ho7)); have n0_ := Kp.a (Kd.R_lower (Kd.R_newM (M := fun k_ => (w.heap.size ≤ k_)) ho7 (below_size (Kp.kpL HB.out)) (fun k_ h_ => h_)) (below_size (Kp.kpL HB.out))); have n1_ := Kp.a (below_step (Kp.kpL HB.out) hb); clear HB; have HO193 := n0_; have HB := n1_; clear n0_ n1_; clear hb ho7)))
 (try simp only [Act.put, Kp.s0, Kp.s1, Kp.s2])
 go_cut [36] (fun v36 wc => ∃ (kq : Nat) (x36_4 : Bool), v36 = .bool x36_4 ∧ Aside0 (spec_Flat.j0 kq l0 y191 x36_4 = some (r1, r2, r3)) ∧ Aside0 (kq ≤ k) ∧ Aside0 (Kd.R (Kd.int .i64) 3 wc w.heap.size (fun k_ => (w.heap.size ≤ k_)) v192 y191) ∧ Aside0 (Below w.heap.size w wc))
 case first =>
  have H := HC5.out
  clear HC5
  by_cases c8 : (l0.length : Int) < 2
  ·rw [if_pos c8] at H
   have c8b0 : decide ((l0.length : Int) < 2) = true := decide_eq_true c8
   have c8b1 : decide (l0.length < 2) = true := decide_eq_true (by omega)
   clear c8
   (first | rw [c8b0] | (simp only [i64_w, i32_w]; rw [c8b0]) | skip)
   have H' := Kp.a H
   clear H
   go_wp2
   repeat (go_quiet (fail); try go_wp2)
   go_meet
   case rel => exact ⟨_, (true), (by first | rfl | (simp; done) | (simp [*]; done)), H', ⟨by first | omega | exact Nat.le_refl _⟩, ⟨Kp.kpR (Kd.R_mono HO193.out (fun _ hk => hk.1))⟩, ⟨Kp.kpL HB.out⟩⟩
  rw [if_neg c8] at H
  have c8b0 : decide ((l0.length : Int) < 2) = false := decide_eq_false c8
  have c8b1 : decide (l0.length < 2) = false := decide_eq_false (by omega)
  clear c8
  (first | rw [c8b0] | (simp only [i64_w, i32_w]; rw [c8b0]) | skip)
  by_cases c9 : (l0.length : Int) > 41
  ·rw [if_pos c9] at H
   have c9b0 : decide (41 < (l0.length : Int)) = true := decide_eq_true c9
   have c9b1 : decide (41 < l0.length) = true := decide_eq_true (by omega)
   clear c9
   have H' := Kp.a H
   clear H
   go_wp2
   repeat (go_quiet (fail); try go_wp2)
   go_meet
   case rel => exact ⟨_, (true), (by first | rfl | (simp; done) | (simp [*]; done)), H', ⟨by first | omega | exact Nat.le_refl _⟩, ⟨Kp.kpR (Kd.R_mono HO193.out (fun _ hk => hk.1))⟩, ⟨Kp.kpL HB.out⟩⟩
  rw [if_neg c9] at H
  have c9b0 : decide (41 < (l0.length : Int)) = false := decide_eq_false c9
  have c9b1 : decide (41 < l0.length) = false := decide_eq_false (by omega)
  clear c9
  replace H := Option.bind_eq_some_iff.mp H
  obtain ⟨t194, A100, H⟩ := H
  replace H : (spec_Flat.j0 k l0 y191 (!t194)) = some (r1, r2, r3) := H
  have A10 := Kp.a A100
  clear A100
  have H' := Kp.a H
  clear H
  go_wp2_with (first | (go_at_call 56; (with_reducible refine (spec_l03Points.calls k _ _ l0 t194 _ ?side1 ?side2 A10.out).mono ?_); (case side1 => repeat (first | exact (Kd.C_below HR0.out HB.out) | (with_reducible refine Kd.C_alloc ?_ _) | (with_reducible refine Kd.C_drewN ?_ _) | (with_reducible refine Kd.C_drew ?_))); (case side2 => exact HC0.out); rintro e w11 ⟨rfl, hb⟩; have n0_ := Kp.a (Kd.R_below (Kp.kpR HO193.out) hb); have n1_ := Kp.a (below_step (Kp.kpL HB.out) hb); clear HO193; clear HB; have HO193 := n0_; have HB := n1_; clear n0_ n1_; (try clear hb); (try clear hb2); (try clear hk); (try clear hi)))
  repeat (go_quiet (first | (go_at_call 56; (with_reducible refine (spec_l03Points.calls k _ _ l0 t194 _ ?side1 ?side2 A10.out).mono ?_); (case side1 => repeat (first | exact (Kd.C_below HR0.out HB.out) | (with_reducible refine Kd.C_alloc ?_ _) | (with_reducible refine Kd.C_drewN ?_ _) | (with_reducible refine Kd.C_drew ?_))); (case side2 => exact HC0.out); rintro e w11 ⟨rfl, hb⟩; have n0_ := Kp.a (Kd.R_below (Kp.kpR HO193.out) hb); have n1_ := Kp.a (below_step (Kp.kpL HB.out) hb); clear HO193; clear HB; have HO193 := n0_; have HB := n1_; clear n0_ n1_; (try clear hb); (try clear hb2); (try clear hk); (try clear hi))); try go_wp2_with (first | (go_at_call 56; (with_reducible refine (spec_l03Points.calls k _ _ l0 t194 _ ?side1 ?side2 A10.out).mono ?_); (case side1 => repeat (first | exact (Kd.C_below HR0.out HB.out) | (with_reducible refine Kd.C_alloc ?_ _) | (with_reducible refine Kd.C_drewN ?_ _) | (with_reducible refine Kd.C_drew ?_))); (case side2 => exact HC0.out); rintro e w11 ⟨rfl, hb⟩; have n0_ := Kp.a (Kd.R_below (Kp.kpR HO193.out) hb); have n1_ := Kp.a (below_step (Kp.kpL HB.out) hb); clear HO193; clear HB; have HO193 := n0_; have HB := n1_; clear n0_ n1_; (try clear hb); (try clear hb2); (try clear hk); (try clear hi))))
  go_meet
  case rel => exact ⟨_, (!t194), (by first | rfl | (simp; done) | (simp [*]; done)), H', ⟨by first | omega | exact Nat.le_refl _⟩, ⟨Kp.kpR (Kd.R_mono HO193.out (fun _ hk => hk.1))⟩, ⟨Kp.kpL HB.out⟩⟩
 case rest =>
  clear HC5
  try clear c2
  try clear c2b0
  try clear c2b1
  try clear p2
  try clear c4
  try clear c8
  try clear c8b0
  try clear c8b1
  try clear c9
  try clear c9b0
  try clear c9b1
  obtain ⟨kq, x36_4, rfl, HA, HJ4, HO_5, HB⟩ := hcut
  cases kq with
  | zero => exact absurd HA.out (by simp [spec_Flat.j0])
  | succ kj4 =>
   have H := HA.out
   clear HA
   simp only [spec_Flat.j0] at H
   by_cases c12 : x36_4 = true
   ·subst c12
    have H1 : (some (y191, y191, 1)) = some (r1, r2, r3) := by rw [if_pos rfl] at H; exact H
    clear H
    have H := H1
    clear H1
    simp only [Option.some.injEq, Prod.mk.injEq] at H
    obtain ⟨rfl, rfl, rfl⟩ := H
    go_wp2
    repeat (go_quiet (fail); try go_wp2)
    go_ret3
    exact ⟨_, _, by first | rfl | (simp [errW_none, errW_some] <;> rfl) | (simp [*, errW_none, errW_some] <;> rfl), Kd.R_V (Kp.kpR HO_5.out), Kd.R_V (Kp.kpR HO_5.out), Kp.kpL HB.out⟩
   replace c12 := Bool.eq_false_iff.mpr c12
   subst c12
   have H1 : (spec_Flat.l0 kj4 l0 y191 (([] : List Int)) (([] : List Int)) 1 0 1) = some (r1, r2, r3) := by rw [if_neg (show ¬ (false = true) by decide)] at H; exact H
   clear H
   have H := H1
   clear H1
   obtain ⟨y195, hy195⟩ : ∃ y_ : List Int, y_ = (([] : List Int)) := ⟨_, rfl⟩
   replace H : (spec_Flat.l0 kj4 l0 y191 y195 (([] : List Int)) 1 0 1) = some (r1, r2, r3) := by first | (rw [hy195]; with_reducible exact H) | (have H2_ := (Option.bind_some _ _).symm.trans H; rw [hy195]; with_reducible exact H2_) | (have H2_ := (Option.bind_some _ _).symm.trans H; with_reducible exact H2_) | with_reducible exact H | (rw [hy195]; exact H) | exact H
   have Ny195 := Kp.a hy195
   clear hy195
   obtain ⟨y198, hy198⟩ : ∃ y_ : List Int, y_ = (([] : List Int)) := ⟨_, rfl⟩
   replace H : (spec_Flat.l0 kj4 l0 y191 y195 y198 1 0 1) = some (r1, r2, r3) := by first | (rw [hy198]; with_reducible exact H) | (have H2_ := (Option.bind_some _ _).symm.trans H; rw [hy198]; with_reducible exact H2_) | (have H2_ := (Option.bind_some _ _).symm.trans H; with_reducible exact H2_) | with_reducible exact H | (rw [hy198]; exact H) | exact H
   have Ny198 := Kp.a hy198
   clear hy198
   have H' := Kp.a H
   clear H
   go_wp2_with (first | ((with_reducible refine gate_dst (N := 39) rfl ?_); (try (refine gate_guard (by rfl) ?_; dsimp only)); refine Kd.R_lit (Kd.int .i64) _ 3 ?hg (N := 39) ?hd (xs := ([] : List Int)) (inner := []) (ok := fun _ => True) (okp := fun _ => True) ?hr ?hp (fun _ hk => hk) trivial (Below.refl _ _) (Nat.le_refl _) (by simp) ?_; (case hd => rfl); (case hg => rfl); (case hr => first | (go_simp; done) | (go_simp; rfl)); (case hp => exact (Reps.none _ _)); intro v196 w13 ho14 hb hg_ hnew_; clear hg_ hnew_; (first | rw [← Ny195.out] at ho14 | (simp only [Int.reduceToNat] at ho14; rw [← Ny195.out] at ho14)); have n0_ := Kp.a (Kd.R_elder' (Kp.kpR HO_5.out) (Kd.R_base ho14) hb); have n1_ := Kp.a (Kd.R_lower (Kd.R_new' (Kd.R_newM (M := fun k_ => (w.heap.size ≤ k_)) ho14 (below_size (Kp.kpL HB.out)) (fun k_ h_ => h_)) (Kd.R_lt (Kp.kpR HO_5.out))) (below_size (Kp.kpL HB.out))); have n2_ := Kp.a (below_step (Kp.kpL HB.out) hb); clear HO_5; clear HB; have HO_5 := n0_; have HO197 := n1_; have HB := n2_; clear n0_ n1_ n2_; clear hb ho14) | ((with_reducible refine gate_dst (N := 40) rfl ?_); (try (refine gate_guard (by rfl) ?_; dsimp only)); refine Kd.R_lit (Kd.int .i64) _ 3 ?hg (N := 40) ?hd (xs := ([] : List Int)) (inner := []) (ok := fun _ => True) (okp := fun _ => True) ?hr ?hp (fun _ hk => hk) trivial (Below.refl _ _) (Nat.le_refl _) (by simp) ?_; (case hd => rfl); (case hg => rfl); (case hr => first | (go_simp; done) | (go_simp; rfl)); (case hp => exact (Reps.none _ _)); intro v199 w15 ho16 hb hg_ hnew_; clear hg_ hnew_; (first | rw [← Ny198.out] at ho16 | (simp only [Int.reduceToNat] at ho16; rw [← Ny198.out] at ho16)); have n0_ := Kp.a (Kd.R_elder' (Kp.kpR HO_5.out) (Kd.R_base ho16) hb); have n1_ := Kp.a (Kd.R_elder' (Kp.kpR HO197.out) (Kd.R_base ho16) hb); have n2_ := Kp.a (Kd.R_lower (Kd.R_new' (Kd.R_new' (Kd.R_newM (M := fun k_ => (w.heap.size ≤ k_)) ho16 (below_size (Kp.kpL HB.out)) (fun k_ h_ => h_)) (Kd.R_lt (Kp.kpR HO_5.out))) (Kd.R_lt (Kp.kpR HO197.out))) (below_size (Kp.kpL HB.out))); have n3_ := Kp.a (below_step (Kp.kpL HB.out) hb); clear HO_5; clear HO197; clear HB; have HO_5 := n0_; have HO197 := n1_; have HO200 := n2_; have HB := n3_; clear n0_ n1_ n2_ n3_; clear hb ho16))
   repeat (go_quiet (first | ((with_reducible refine gate_dst (N := 39) rfl ?_); (try (refine gate_guard (by rfl) ?_; dsimp only)); refine Kd.R_lit (Kd.int .i64) _ 3 ?hg (N := 39) ?hd (xs := ([] : List Int)) (inner := []) (ok := fun _ => True) (okp := fun _ => True) ?hr ?hp (fun _ hk => hk) trivial (Below.refl _ _) (Nat.le_refl _) (by simp) ?_; (case hd => rfl); (case hg => rfl); (case hr => first | (go_simp; done) | (go_simp; rfl)); (case hp => exact (Reps.none _ _)); intro v196 w13 ho14 hb hg_ hnew_; clear hg_ hnew_; (first | rw [← Ny195.out] at ho14 | (simp only [Int.reduceToNat] at ho14; rw [← Ny195.out] at ho14)); have n0_ := Kp.a (Kd.R_elder' (Kp.kpR HO_5.out) (Kd.R_base ho14) hb); have n1_ := Kp.a (Kd.R_lower (Kd.R_new' (Kd.R_newM (M := fun k_ => (w.heap.size ≤ k_)) ho14 (below_size (Kp.kpL HB.out)) (fun k_ h_ => h_)) (Kd.R_lt (Kp.kpR HO_5.out))) (below_size (Kp.kpL HB.out))); have n2_ := Kp.a (below_step (Kp.kpL HB.out) hb); clear HO_5; clear HB; have HO_5 := n0_; have HO197 := n1_; have HB := n2_; clear n0_ n1_ n2_; clear hb ho14) | ((with_reducible refine gate_dst (N := 40) rfl ?_); (try (refine gate_guard (by rfl) ?_; dsimp only)); refine Kd.R_lit (Kd.int .i64) _ 3 ?hg (N := 40) ?hd (xs := ([] : List Int)) (inner := []) (ok := fun _ => True) (okp := fun _ => True) ?hr ?hp (fun _ hk => hk) trivial (Below.refl _ _) (Nat.le_refl _) (by simp) ?_; (case hd => rfl); (case hg => rfl); (case hr => first | (go_simp; done) | (go_simp; rfl)); (case hp => exact (Reps.none _ _)); intro v199 w15 ho16 hb hg_ hnew_; clear hg_ hnew_; (first | rw [← Ny198.out] at ho16 | (simp only [Int.reduceToNat] at ho16; rw [← Ny198.out] at ho16)); have n0_ := Kp.a (Kd.R_elder' (Kp.kpR HO_5.out) (Kd.R_base ho16) hb); have n1_ := Kp.a (Kd.R_elder' (Kp.kpR HO197.out) (Kd.R_base ho16) hb); have n2_ := Kp.a (Kd.R_lower (Kd.R_new' (Kd.R_new' (Kd.R_newM (M := fun k_ => (w.heap.size ≤ k_)) ho16 (below_size (Kp.kpL HB.out)) (fun k_ h_ => h_)) (Kd.R_lt (Kp.kpR HO_5.out))) (Kd.R_lt (Kp.kpR HO197.out))) (below_size (Kp.kpL HB.out))); have n3_ := Kp.a (below_step (Kp.kpL HB.out) hb); clear HO_5; clear HO197; clear HB; have HO_5 := n0_; have HO197 := n1_; have HO200 := n2_; have HB := n3_; clear n0_ n1_ n2_ n3_; clear hb ho16)); try go_wp2_with (first | ((with_reducible refine gate_dst (N := 39) rfl ?_); (try (refine gate_guard (by rfl) ?_; dsimp only)); refine Kd.R_lit (Kd.int .i64) _ 3 ?hg (N := 39) ?hd (xs := ([] : List Int)) (inner := []) (ok := fun _ => True) (okp := fun _ => True) ?hr ?hp (fun _ hk => hk) trivial (Below.refl _ _) (Nat.le_refl _) (by simp) ?_; (case hd => rfl); (case hg => rfl); (case hr => first | (go_simp; done) | (go_simp; rfl)); (case hp => exact (Reps.none _ _)); intro v196 w13 ho14 hb hg_ hnew_; clear hg_ hnew_; (first | rw [← Ny195.out] at ho14 | (simp only [Int.reduceToNat] at ho14; rw [← Ny195.out] at ho14)); have n0_ := Kp.a (Kd.R_elder' (Kp.kpR HO_5.out) (Kd.R_base ho14) hb); have n1_ := Kp.a (Kd.R_lower (Kd.R_new' (Kd.R_newM (M := fun k_ => (w.heap.size ≤ k_)) ho14 (below_size (Kp.kpL HB.out)) (fun k_ h_ => h_)) (Kd.R_lt (Kp.kpR HO_5.out))) (below_size (Kp.kpL HB.out))); have n2_ := Kp.a (below_step (Kp.kpL HB.out) hb); clear HO_5; clear HB; have HO_5 := n0_; have HO197 := n1_; have HB := n2_; clear n0_ n1_ n2_; clear hb ho14) | ((with_reducible refine gate_dst (N := 40) rfl ?_); (try (refine gate_guard (by rfl) ?_; dsimp only)); refine Kd.R_lit (Kd.int .i64) _ 3 ?hg (N := 40) ?hd (xs := ([] : List Int)) (inner := []) (ok := fun _ => True) (okp := fun _ => True) ?hr ?hp (fun _ hk => hk) trivial (Below.refl _ _) (Nat.le_refl _) (by simp) ?_; (case hd => rfl); (case hg => rfl); (case hr => first | (go_simp; done) | (go_simp; rfl)); (case hp => exact (Reps.none _ _)); intro v199 w15 ho16 hb hg_ hnew_; clear hg_ hnew_; (first | rw [← Ny198.out] at ho16 | (simp only [Int.reduceToNat] at ho16; rw [← Ny198.out] at ho16)); have n0_ := Kp.a (Kd.R_elder' (Kp.kpR HO_5.out) (Kd.R_base ho16) hb); have n1_ := Kp.a (Kd.R_elder' (Kp.kpR HO197.out) (Kd.R_base ho16) hb); have n2_ := Kp.a (Kd.R_lower (Kd.R_new' (Kd.R_new' (Kd.R_newM (M := fun k_ => (w.heap.size ≤ k_)) ho16 (below_size (Kp.kpL HB.out)) (fun k_ h_ => h_)) (Kd.R_lt (Kp.kpR HO_5.out))) (Kd.R_lt (Kp.kpR HO197.out))) (below_size (Kp.kpL HB.out))); have n3_ := Kp.a (below_step (Kp.kpL HB.out) hb); clear HO_5; clear HO197; clear HB; have HO_5 := n0_; have HO197 := n1_; have HO200 := n2_; have HB := n3_; clear n0_ n1_ n2_ n3_; clear hb ho16)))
   go_loopg [6, 7, 8, 9, 10] kj4 (fun kq v6 v7 v8 v9 v10 w' => ∃ (x6_2 : List Int) (x7_2 : List Int) (x8_2 : Int) (x9_2 : Int) (x10_2 : Int), v8 = .int .i64 x8_2 ∧ v9 = .int .i64 x9_2 ∧ v10 = .int .i64 x10_2 ∧ Aside0 (spec_Flat.l0 kq l0 y191 x6_2 x7_2 x8_2 x9_2 x10_2 = some (r1, r2, r3)) ∧ Aside0 (kq ≤ kj4) ∧ Aside0 (Kd.R (Kd.int .i64) 3 w' w.heap.size (fun k_ => (w.heap.size ≤ k_) ∧ some k_ ≠ (v6 : Value).ownBlock ∧ some k_ ≠ (v7 : Value).ownBlock) v192 y191) ∧ Aside0 (Kd.R (Kd.int .i64) 3 w' w.heap.size (fun k_ => (w.heap.size ≤ k_) ∧ some k_ ≠ (v192 : Value).ownBlock ∧ some k_ ≠ (v7 : Value).ownBlock) v6 x6_2) ∧ Aside0 (Kd.R (Kd.int .i64) 3 w' w.heap.size (fun k_ => (w.heap.size ≤ k_) ∧ some k_ ≠ (v192 : Value).ownBlock ∧ some k_ ≠ (v6 : Value).ownBlock) v7 x7_2) ∧ Aside0 (Below w.heap.size w w'))
   case atStart => exact ⟨(y195), (y198), (1), (0), (1), (by first | rfl | (simp; done) | (simp [*]; done)), (by first | rfl | (simp; done) | (simp [*]; done)), (by first | rfl | (simp; done) | (simp [*]; done)), H', ⟨Nat.le_refl _⟩, ⟨Kp.kpR (Kd.R_mono HO_5.out (fun _ hk => ⟨hk.1.1, ⟨hk.1.2, hk.2⟩⟩))⟩, ⟨Kp.kpR (Kd.R_mono HO197.out (fun _ hk => ⟨hk.1.1.1, ⟨hk.1.2, hk.2⟩⟩))⟩, ⟨Kp.kpR (Kd.R_mono HO200.out (fun _ hk => ⟨hk.1.1.1, ⟨hk.1.2, hk.2⟩⟩))⟩, ⟨Kp.kpL HB.out⟩⟩
   case round =>
    clear H'
    try clear c1
    try clear c2
    try clear c2b0
    try clear c2b1
    try clear p2
    try clear c4
    try clear c8
    try clear c8b0
    try clear c8b1
    try clear c9
    try clear c9b0
    try clear c9b1
    try clear c12
    try clear p2
    obtain ⟨x6_2, x7_2, x8_2, x9_2, x10_2, rfl, rfl, rfl, HA, HK2, HO_5, HO_6, HO_7, HB⟩ := hrel
    cases gk with
    | zero => exact absurd HA.out (by simp [spec_Flat.l0])
    | succ k2 =>
     have H := HA.out
     clear HA
     simp only [spec_Flat.l0] at H
     by_cases c17 : x10_2 < (l0.length : Int)
     ·rw [if_pos c17] at H
      have c17b0 : decide (x10_2 < (l0.length : Int)) = true := decide_eq_true c17
      clear c17
      by_cases c18 : 0 ≤ x10_2
      rotate_left
      ·rw [if_neg c18] at H
       exact absurd H (by simp)
      rw [if_pos c18] at H
      have c18b0 : decide (0 ≤ x10_2) = true := decide_eq_true c18
      clear c18
      obtain ⟨ji19, hji19⟩ : ∃ j_ : Int, (wrap64 (x10_2 - 1)) = j_ := ⟨_, rfl⟩
      replace H : (if 0 ≤ (ji19) then (if (ji19) < (l0.length : Int) then ((spec_l01Abs.f (wrap64 (((rd_T34 l0 x10_2).f0) - ((rd_T34 l0 (ji19)).f0)))).bind fun t205 => ((spec_l01Abs.f (wrap64 (((rd_T34 l0 x10_2).f1) - ((rd_T34 l0 (ji19)).f1)))).bind fun t206 => (if (wrap64 (t205 + t206)) = 0 then (spec_Flat.j2 k2 l0 y191 x6_2 x7_2 x8_2 x9_2 x10_2 (wrap64 (((rd_T34 l0 x10_2).f0) - ((rd_T34 l0 (ji19)).f0))) (wrap64 (((rd_T34 l0 x10_2).f1) - ((rd_T34 l0 (ji19)).f1))) (wrap64 (t205 + t206)) true) else (if (wrap64 (((rd_T34 l0 x10_2).f0) - ((rd_T34 l0 (ji19)).f0))) = 0 then (spec_Flat.j2 k2 l0 y191 x6_2 x7_2 x8_2 x9_2 x10_2 (wrap64 (((rd_T34 l0 x10_2).f0) - ((rd_T34 l0 (ji19)).f0))) (wrap64 (((rd_T34 l0 x10_2).f1) - ((rd_T34 l0 (ji19)).f1))) (wrap64 (t205 + t206)) false) else (spec_Flat.j2 k2 l0 y191 x6_2 x7_2 x8_2 x9_2 x10_2 (wrap64 (((rd_T34 l0 x10_2).f0) - ((rd_T34 l0 (ji19)).f0))) (wrap64 (((rd_T34 l0 x10_2).f1) - ((rd_T34 l0 (ji19)).f1))) (wrap64 (t205 + t206)) ((wrap64 (((rd_T34 l0 x10_2).f1) - ((rd_T34 l0 (ji19)).f1))) != 0)))))) else (none)) else (none)) = some (r1, r2, r3) := by first | (rw [hji19] at H; exact H) | (simp only [hji19] at H ⊢; exact H)
      have hji19w : (IntKind.i64.wrap (x10_2 - 1)) = ji19 := (i64_w _).trans hji19
      by_cases c20 : 0 ≤ (ji19)
      rotate_left
      ·rw [if_neg c20] at H
       exact absurd H (by simp)
      rw [if_pos c20] at H
      have c20b0 : decide (0 ≤ (ji19)) = true := decide_eq_true c20
      clear c20
      by_cases c21 : (ji19) < (l0.length : Int)
      rotate_left
      ·rw [if_neg c21] at H
       exact absurd H (by simp)
      rw [if_pos c21] at H
      have c21b0 : decide ((ji19) < (l0.length : Int)) = true := decide_eq_true c21
      clear c21
      replace H := Option.bind_eq_some_iff.mp H
      obtain ⟨t205, A220, H⟩ := H
      replace H : ((spec_l01Abs.f (wrap64 (((rd_T34 l0 x10_2).f1) - ((rd_T34 l0 (ji19)).f1)))).bind fun t206 => (if (wrap64 (t205 + t206)) = 0 then (spec_Flat.j2 k2 l0 y191 x6_2 x7_2 x8_2 x9_2 x10_2 (wrap64 (((rd_T34 l0 x10_2).f0) - ((rd_T34 l0 (ji19)).f0))) (wrap64 (((rd_T34 l0 x10_2).f1) - ((rd_T34 l0 (ji19)).f1))) (wrap64 (t205 + t206)) true) else (if (wrap64 (((rd_T34 l0 x10_2).f0) - ((rd_T34 l0 (ji19)).f0))) = 0 then (spec_Flat.j2 k2 l0 y191 x6_2 x7_2 x8_2 x9_2 x10_2 (wrap64 (((rd_T34 l0 x10_2).f0) - ((rd_T34 l0 (ji19)).f0))) (wrap64 (((rd_T34 l0 x10_2).f1) - ((rd_T34 l0 (ji19)).f1))) (wrap64 (t205 + t206)) false) else (spec_Flat.j2 k2 l0 y191 x6_2 x7_2 x8_2 x9_2 x10_2 (wrap64 (((rd_T34 l0 x10_2).f0) - ((rd_T34 l0 (ji19)).f0))) (wrap64 (((rd_T34 l0 x10_2).f1) - ((rd_T34 l0 (ji19)).f1))) (wrap64 (t205 + t206)) ((wrap64 (((rd_T34 l0 x10_2).f1) - ((rd_T34 l0 (ji19)).f1))) != 0))))) = some (r1, r2, r3) := H
      have A22 := Kp.a A220
      clear A220
      replace H := Option.bind_eq_some_iff.mp H
      obtain ⟨t206, A230, H⟩ := H
      replace H : (if (wrap64 (t205 + t206)) = 0 then (spec_Flat.j2 k2 l0 y191 x6_2 x7_2 x8_2 x9_2 x10_2 (wrap64 (((rd_T34 l0 x10_2).f0) - ((rd_T34 l0 (ji19)).f0))) (wrap64 (((rd_T34 l0 x10_2).f1) - ((rd_T34 l0 (ji19)).f1))) (wrap64 (t205 + t206)) true) else (if (wrap64 (((rd_T34 l0 x10_2).f0) - ((rd_T34 l0 (ji19)).f0))) = 0 then (spec_Flat.j2 k2 l0 y191 x6_2 x7_2 x8_2 x9_2 x10_2 (wrap64 (((rd_T34 l0 x10_2).f0) - ((rd_T34 l0 (ji19)).f0))) (wrap64 (((rd_T34 l0 x10_2).f1) - ((rd_T34 l0 (ji19)).f1))) (wrap64 (t205 + t206)) false) else (spec_Flat.j2 k2 l0 y191 x6_2 x7_2 x8_2 x9_2 x10_2 (wrap64 (((rd_T34 l0 x10_2).f0) - ((rd_T34 l0 (ji19)).f0))) (wrap64 (((rd_T34 l0 x10_2).f1) - ((rd_T34 l0 (ji19)).f1))) (wrap64 (t205 + t206)) ((wrap64 (((rd_T34 l0 x10_2).f1) - ((rd_T34 l0 (ji19)).f1))) != 0)))) = some (r1, r2, r3) := H
      have A23 := Kp.a A230
      clear A230
      have HC24 := Kp.a H
      clear H
      have p201 : 0 ≤ (x10_2 : Int) := Kp.d
      have q201 : x10_2 < (l0.length : Int) := Kp.d
      obtain ⟨ad201, e201, hx201_0, hx201_1⟩ := at_T34 HR0.out x10_2 p201 q201
      cases e201
      replace hx201_0 := (HB.out.cell (World.block_lt_of_cell? w _ hx201_0)).trans hx201_0
      replace hx201_1 := (HB.out.cell (World.block_lt_of_cell? w _ hx201_1)).trans hx201_1
      replace p201 := eq_true p201
      replace q201 := eq_true q201
      have p202 : 0 ≤ ((ji19) : Int) := Kp.d
      have q202 : (ji19) < (l0.length : Int) := Kp.d
      obtain ⟨ad202, e202, hx202_0, hx202_1⟩ := at_T34 HR0.out (ji19) p202 q202
      obtain rfl : ad201 = ad202 := (by injection e202)
      replace hx202_0 := (HB.out.cell (World.block_lt_of_cell? w _ hx202_0)).trans hx202_0
      replace hx202_1 := (HB.out.cell (World.block_lt_of_cell? w _ hx202_1)).trans hx202_1
      replace p202 := eq_true p202
      replace q202 := eq_true q202
      have p203 : 0 ≤ (x10_2 : Int) := Kp.d
      have q203 : x10_2 < (l0.length : Int) := Kp.d
      obtain ⟨ad203, e203, hx203_0, hx203_1⟩ := at_T34 HR0.out x10_2 p203 q203
      obtain rfl : ad201 = ad203 := (by injection e203)
      replace hx203_0 := (HB.out.cell (World.block_lt_of_cell? w _ hx203_0)).trans hx203_0
      replace hx203_1 := (HB.out.cell (World.block_lt_of_cell? w _ hx203_1)).trans hx203_1
      replace p203 := eq_true p203
      replace q203 := eq_true q203
      have p204 : 0 ≤ ((ji19) : Int) := Kp.d
      have q204 : (ji19) < (l0.length : Int) := Kp.d
      obtain ⟨ad204, e204, hx204_0, hx204_1⟩ := at_T34 HR0.out (ji19) p204 q204
      obtain rfl : ad201 = ad204 := (by injection e204)
      replace hx204_0 := (HB.out.cell (World.block_lt_of_cell? w _ hx204_0)).trans hx204_0
      replace hx204_1 := (HB.out.cell (World.block_lt_of_cell? w _ hx204_1)).trans hx204_1
      replace p204 := eq_true p204
      replace q204 := eq_true q204
      go_upto_region 16 with (first | (go_at_call 86; (with_reducible refine (spec_l01Abs.calls (wrap64 (((rd_T34 l0 x10_2).f0) - ((rd_T34 l0 (ji19)).f0))) t205 _ A22.out).mono ?_); rintro e w' ⟨rfl, ⟨nd, rfl⟩⟩; (try first | exact ⟨rfl, _, World.drewN_drewN _ _ _⟩ | exact ⟨rfl, _, Eq.trans (World.drewN_drewN _ _ _) (congrArg (World.drewN _) (Nat.add_assoc _ _ _))⟩)) | (go_at_call 86; (with_reducible refine (spec_l01Abs.calls (wrap64 (((rd_T34 l0 x10_2).f1) - ((rd_T34 l0 (ji19)).f1))) t206 _ A23.out).mono ?_); rintro e w' ⟨rfl, ⟨nd, rfl⟩⟩; (try first | exact ⟨rfl, _, World.drewN_drewN _ _ _⟩ | exact ⟨rfl, _, Eq.trans (World.drewN_drewN _ _ _) (congrArg (World.drewN _) (Nat.add_assoc _ _ _))⟩)))
      repeat (go_quiet (first | (go_at_call 86; (with_reducible refine (spec_l01Abs.calls (wrap64 (((rd_T34 l0 x10_2).f0) - ((rd_T34 l0 (ji19)).f0))) t205 _ A22.out).mono ?_); rintro e w' ⟨rfl, ⟨nd, rfl⟩⟩; (try first | exact ⟨rfl, _, World.drewN_drewN _ _ _⟩ | exact ⟨rfl, _, Eq.trans (World.drewN_drewN _ _ _) (congrArg (World.drewN _) (Nat.add_assoc _ _ _))⟩)) | (go_at_call 86; (with_reducible refine (spec_l01Abs.calls (wrap64 (((rd_T34 l0 x10_2).f1) - ((rd_T34 l0 (ji19)).f1))) t206 _ A23.out).mono ?_); rintro e w' ⟨rfl, ⟨nd, rfl⟩⟩; (try first | exact ⟨rfl, _, World.drewN_drewN _ _ _⟩ | exact ⟨rfl, _, Eq.trans (World.drewN_drewN _ _ _) (congrArg (World.drewN _) (Nat.add_assoc _ _ _))⟩))); go_upto_region 16 with (first | (go_at_call 86; (with_reducible refine (spec_l01Abs.calls (wrap64 (((rd_T34 l0 x10_2).f0) - ((rd_T34 l0 (ji19)).f0))) t205 _ A22.out).mono ?_); rintro e w' ⟨rfl, ⟨nd, rfl⟩⟩; (try first | exact ⟨rfl, _, World.drewN_drewN _ _ _⟩ | exact ⟨rfl, _, Eq.trans (World.drewN_drewN _ _ _) (congrArg (World.drewN _) (Nat.add_assoc _ _ _))⟩)) | (go_at_call 86; (with_reducible refine (spec_l01Abs.calls (wrap64 (((rd_T34 l0 x10_2).f1) - ((rd_T34 l0 (ji19)).f1))) t206 _ A23.out).mono ?_); rintro e w' ⟨rfl, ⟨nd, rfl⟩⟩; (try first | exact ⟨rfl, _, World.drewN_drewN _ _ _⟩ | exact ⟨rfl, _, Eq.trans (World.drewN_drewN _ _ _) (congrArg (World.drewN _) (Nat.add_assoc _ _ _))⟩))))
      (try simp only [Act.put, Kp.s0, Kp.s1, Kp.s2])
      go_cut [85] (fun v85 wc => ∃ (kq : Nat) (x85_23 : Bool), v85 = .bool x85_23 ∧ Aside0 (spec_Flat.j2 kq l0 y191 x6_2 x7_2 x8_2 x9_2 x10_2 (wrap64 (((rd_T34 l0 x10_2).f0) - ((rd_T34 l0 (ji19)).f0))) (wrap64 (((rd_T34 l0 x10_2).f1) - ((rd_T34 l0 (ji19)).f1))) (wrap64 (t205 + t206)) x85_23 = some (r1, r2, r3)) ∧ Aside0 (kq ≤ k2) ∧ Aside0 (Kd.R (Kd.int .i64) 3 wc w.heap.size (fun k_ => (w.heap.size ≤ k_) ∧ some k_ ≠ (u6 : Value).ownBlock ∧ some k_ ≠ (u7 : Value).ownBlock) v192 y191) ∧ Aside0 (Kd.R (Kd.int .i64) 3 wc w.heap.size (fun k_ => (w.heap.size ≤ k_) ∧ some k_ ≠ (v192 : Value).ownBlock ∧ some k_ ≠ (u7 : Value).ownBlock) u6 x6_2) ∧ Aside0 (Kd.R (Kd.int .i64) 3 wc w.heap.size (fun k_ => (w.heap.size ≤ k_) ∧ some k_ ≠ (v192 : Value).ownBlock ∧ some k_ ≠ (u6 : Value).ownBlock) u7 x7_2) ∧ Aside0 (Below w.heap.size w wc))
      case first =>
       have H := HC24.out
       clear HC24
       by_cases c25 : (wrap64 (t205 + t206)) = 0
       ·rw [if_pos c25] at H
        have c25b0 : ((wrap64 (t205 + t206)) == 0) = true := beq_iff_eq.mpr c25
        have c25b1 : ((wrap64 (t205 + t206)) != 0) = false := bne_eq_false_iff_eq.mpr c25
        clear c25
        (first | rw [c25b0] | (simp only [i64_w, i32_w]; rw [c25b0]) | skip)
        have H' := Kp.a H
        clear H
        go_wp2
        repeat (go_quiet (fail); try go_wp2)
        go_meet
        case rel => exact ⟨_, (true), (by first | rfl | (simp; done) | (simp [*]; done)), H', ⟨by have := HJ4.out; have := HK2.out; first | omega | exact Nat.le_refl _⟩, ⟨Kp.kpR HO_5.out⟩, ⟨Kp.kpR HO_6.out⟩, ⟨Kp.kpR HO_7.out⟩, ⟨Kp.kpL HB.out⟩⟩
       rw [if_neg c25] at H
       have c25b0 : ((wrap64 (t205 + t206)) == 0) = false := beq_eq_false_iff_ne.mpr c25
       have c25b1 : ((wrap64 (t205 + t206)) != 0) = true := bne_iff_ne.mpr c25
       (first | rw [c25b0] | (simp only [i64_w, i32_w]; rw [c25b0]) | skip)
       by_cases c26 : (wrap64 (((rd_T34 l0 x10_2).f0) - ((rd_T34 l0 (ji19)).f0))) = 0
       ·rw [if_pos c26] at H
        have c26b0 : ((wrap64 (((rd_T34 l0 x10_2).f0) - ((rd_T34 l0 (ji19)).f0))) == 0) = true := beq_iff_eq.mpr c26
        have c26b1 : ((wrap64 (((rd_T34 l0 x10_2).f0) - ((rd_T34 l0 (ji19)).f0))) != 0) = false := bne_eq_false_iff_eq.mpr c26
        clear c26
        have H' := Kp.a H
        clear H
        go_wp2
        repeat (go_quiet (fail); try go_wp2)
        go_meet
        case rel => exact ⟨_, (false), (by first | rfl | (simp; done) | (simp [*]; done)), H', ⟨by have := HJ4.out; have := HK2.out; first | omega | exact Nat.le_refl _⟩, ⟨Kp.kpR HO_5.out⟩, ⟨Kp.kpR HO_6.out⟩, ⟨Kp.kpR HO_7.out⟩, ⟨Kp.kpL HB.out⟩⟩
       rw [if_neg c26] at H
       have c26b0 : ((wrap64 (((rd_T34 l0 x10_2).f0) - ((rd_T34 l0 (ji19)).f0))) == 0) = false := beq_eq_false_iff_ne.mpr c26
       have c26b1 : ((wrap64 (((rd_T34 l0 x10_2).f0) - ((rd_T34 l0 (ji19)).f0))) != 0) = true := bne_iff_ne.mpr c26
       have H' := Kp.a H
       clear H
       go_wp2
       repeat (go_quiet (fail); try go_wp2)
       go_meet
       case rel => exact ⟨_, (((wrap64 (((rd_T34 l0 x10_2).f1) - ((rd_T34 l0 (ji19)).f1))) != 0)), (by first | rfl | (simp; done) | (simp only [← hji19] <;> (first | rfl | simp)) | (simp [*]; done)), H', ⟨by have := HJ4.out; have := HK2.out; first | omega | exact Nat.le_refl _⟩, ⟨Kp.kpR HO_5.out⟩, ⟨Kp.kpR HO_6.out⟩, ⟨Kp.kpR HO_7.out⟩, ⟨Kp.kpL HB.out⟩⟩
      case rest =>
       clear HC24
       try clear c1
       try clear c2
       try clear c2b0
       try clear c2b1
       try clear p2
       try clear q2
       try clear hx2
       try clear c4
       try clear p6
       try clear c8
       try clear c8b0
       try clear c8b1
       try clear c9
       try clear c9b0
       try clear c9b1
       try clear c12
       try clear c17
       try clear c17b0
       try clear c18
       try clear c18b0
       try clear c20
       try clear c20b0
       try clear p20
       try clear q20
       try clear hx20
       try clear c21
       try clear c21b0
       try clear c25
       try clear c25b0
       try clear c25b1
       try clear c26
       try clear c26b0
       try clear c26b1
       try clear hx201_0
       try clear hx201_1
       try clear hx202_0
       try clear hx202_1
       try clear hx203_0
       try clear hx203_1
       try clear hx204_0
       try clear hx204_1
       try clear p2
       try clear p201
       try clear p202
       try clear p203
       try clear p204
       try clear q201
       try clear q202
       try clear q203
       try clear q204
       obtain ⟨kq, x85_23, rfl, HA, HJ23, HO_5, HO_6, HO_7, HB⟩ := hcut
       cases kq with
       | zero => exact absurd HA.out (by simp [spec_Flat.j2])
       | succ kj23 =>
        have H := HA.out
        clear HA
        simp only [spec_Flat.j2] at H
        by_cases c27 : x85_23 = true
        ·subst c27
         have H1 : (some (y191, y191, 1)) = some (r1, r2, r3) := by rw [if_pos rfl] at H; exact H
         clear H
         have H := H1
         clear H1
         simp only [Option.some.injEq, Prod.mk.injEq] at H
         obtain ⟨rfl, rfl, rfl⟩ := H
         go_wp2
         repeat (go_quiet (fail); try go_wp2)
         go_ret3
         exact ⟨_, _, by first | rfl | (simp [errW_none, errW_some] <;> rfl) | (simp only [← hji19]; first | rfl | (simp [errW_none, errW_some] <;> rfl)) | (simp [*, errW_none, errW_some] <;> rfl), Kd.R_V (Kp.kpR (Kd.R_mono HO_5.out (fun _ hk => hk.1))), Kd.R_V (Kp.kpR (Kd.R_mono HO_5.out (fun _ hk => hk.1))), Kp.kpL HB.out⟩
        replace c27 := Bool.eq_false_iff.mpr c27
        subst c27
        have H1 : (if (wrap64 (t205 + t206)) = 0 then (none) else (if x10_2 > 1 then (if x7_2.length < 17592186044416 then (if x6_2.length < 17592186044416 then (spec_Flat.l0 kj23 l0 y191 (x6_2 ++ [(wrap64 (t205 + t206))]) (x7_2 ++ [wrap64 ((wrap64 (x8_2 * (wrap64 (Int.tdiv (wrap64 (((rd_T34 l0 x10_2).f1) - ((rd_T34 l0 (ji19)).f1))) (wrap64 (t205 + t206)))))) - (wrap64 (x9_2 * (wrap64 (Int.tdiv (wrap64 (((rd_T34 l0 x10_2).f0) - ((rd_T34 l0 (ji19)).f0))) (wrap64 (t205 + t206)))))))]) (wrap64 (Int.tdiv (wrap64 (((rd_T34 l0 x10_2).f0) - ((rd_T34 l0 (ji19)).f0))) (wrap64 (t205 + t206)))) (wrap64 (Int.tdiv (wrap64 (((rd_T34 l0 x10_2).f1) - ((rd_T34 l0 (ji19)).f1))) (wrap64 (t205 + t206)))) (wrap64 (x10_2 + 1))) else (none)) else (none)) else (if x6_2.length < 17592186044416 then (spec_Flat.l0 kj23 l0 y191 (x6_2 ++ [(wrap64 (t205 + t206))]) x7_2 (wrap64 (Int.tdiv (wrap64 (((rd_T34 l0 x10_2).f0) - ((rd_T34 l0 (ji19)).f0))) (wrap64 (t205 + t206)))) (wrap64 (Int.tdiv (wrap64 (((rd_T34 l0 x10_2).f1) - ((rd_T34 l0 (ji19)).f1))) (wrap64 (t205 + t206)))) (wrap64 (x10_2 + 1))) else (none)))) = some (r1, r2, r3) := by rw [if_neg (show ¬ (false = true) by decide)] at H; exact H
        clear H
        have H := H1
        clear H1
        by_cases c28 : (wrap64 (t205 + t206)) = 0
        ·rw [if_pos c28] at H
         exact absurd H (by simp)
        rw [if_neg c28] at H
        have c28b0 : ((wrap64 (t205 + t206)) == 0) = false := beq_eq_false_iff_ne.mpr c28
        have c28b1 : ((wrap64 (t205 + t206)) != 0) = true := bne_iff_ne.mpr c28
        by_cases c29 : x10_2 > 1
        rotate_left
        ·rw [if_neg c29] at H
         have c29b0 : decide (1 < x10_2) = false := decide_eq_false c29
         clear c29
         by_cases c34 : x6_2.length < 17592186044416
         rotate_left
         ·rw [if_neg c34] at H
          exact absurd H (by simp)
         rw [if_pos c34] at H
         have LMc34 := Kp.a c34
         clear c34
         obtain ⟨y213, hy213⟩ : ∃ y_ : List Int, y_ = (x6_2 ++ [(wrap64 (t205 + t206))]) := ⟨_, rfl⟩
         replace H : (spec_Flat.l0 kj23 l0 y191 y213 x7_2 (wrap64 (Int.tdiv (wrap64 (((rd_T34 l0 x10_2).f0) - ((rd_T34 l0 (ji19)).f0))) (wrap64 (t205 + t206)))) (wrap64 (Int.tdiv (wrap64 (((rd_T34 l0 x10_2).f1) - ((rd_T34 l0 (ji19)).f1))) (wrap64 (t205 + t206)))) (wrap64 (x10_2 + 1))) = some (r1, r2, r3) := by first | (rw [hy213]; with_reducible exact H) | (have H2_ := (Option.bind_some _ _).symm.trans H; rw [hy213]; with_reducible exact H2_) | (have H2_ := (Option.bind_some _ _).symm.trans H; with_reducible exact H2_) | with_reducible exact H | (rw [hy213]; exact H) | exact H
         have Ny213 := Kp.a hy213
         clear hy213
         have H' := Kp.a H
         clear H
         go_wp2_with (first | ((with_reducible refine gate_builtin (b := .append) (xs := #[.tmp 108, .tmp 110]) rfl ?_); (try (refine gate_guard (by rfl) ?_; dsimp only)); at_builtin; refine Kd.R_append (Kd.int .i64) (w0 := w) w.heap.size rfl (.tmp 108) (.tmp 110) 55 3 (.int .i64 0) 8 rfl Try.underlying55 info3 rfl (by decide) (by omega) u6 x6_2 (wrap64 (t205 + t206)) [.int .i64 (wrap64 (t205 + t206))] (fun k_ => (w.heap.size ≤ k_) ∧ some k_ ≠ (v192 : Value).ownBlock ∧ some k_ ≠ (u7 : Value).ownBlock) (fun _ => False) rfl rfl ?aP (fun _ hk => hk.elim) ?aF ?aO ?aB ?aS ?aL ?_; (case aP => exact rfl); (case aB => exact (Kp.kpL HB.out)); (case aF => exact (fun k_ hk => ⟨(Nat.le_trans (below_size (Kp.kpL HB.out)) hk), Kd.fresh' (Kd.R_lt (Kp.kpR HO_5.out)) k_ hk, Kd.fresh' (Kd.R_lt (Kp.kpR HO_7.out)) k_ hk⟩)); (case aO => exact (Kp.kpR HO_6.out)); (case aS => exact (below_size (Kp.kpL HB.out))); (case aL => have := LMc34.out; omega); intro v214 w35 ho hb hg hat; rw [← Ny213.out] at ho; have n0_ := Kp.a (Kd.R_after (ok := (fun k_ => (w.heap.size ≤ k_) ∧ some k_ ≠ (u7 : Value).ownBlock)) (Kp.kpR (Kd.R_mono HO_5.out (fun _ hk => ⟨⟨hk.1, hk.2.2⟩, hk.2.1⟩))) hg hat); have n1_ := Kp.a (Kd.R_after (ok := (fun k_ => (w.heap.size ≤ k_) ∧ some k_ ≠ (v192 : Value).ownBlock)) (Kp.kpR (Kd.R_mono HO_7.out (fun _ hk => ⟨⟨hk.1, hk.2.1⟩, hk.2.2⟩))) hg hat); have n2_ := Kp.a (hb); have n3_ := Kp.a (ho); clear HO_5; clear HO_7; clear HB; clear HO_6; have HO_5 := n0_; have HO_7 := n1_; have HB := n2_; have HO215 := n3_; clear n0_ n1_ n2_ n3_; clear ho hb hg hat))
         repeat (go_quiet (first | ((with_reducible refine gate_builtin (b := .append) (xs := #[.tmp 108, .tmp 110]) rfl ?_); (try (refine gate_guard (by rfl) ?_; dsimp only)); at_builtin; refine Kd.R_append (Kd.int .i64) (w0 := w) w.heap.size rfl (.tmp 108) (.tmp 110) 55 3 (.int .i64 0) 8 rfl Try.underlying55 info3 rfl (by decide) (by omega) u6 x6_2 (wrap64 (t205 + t206)) [.int .i64 (wrap64 (t205 + t206))] (fun k_ => (w.heap.size ≤ k_) ∧ some k_ ≠ (v192 : Value).ownBlock ∧ some k_ ≠ (u7 : Value).ownBlock) (fun _ => False) rfl rfl ?aP (fun _ hk => hk.elim) ?aF ?aO ?aB ?aS ?aL ?_; (case aP => exact rfl); (case aB => exact (Kp.kpL HB.out)); (case aF => exact (fun k_ hk => ⟨(Nat.le_trans (below_size (Kp.kpL HB.out)) hk), Kd.fresh' (Kd.R_lt (Kp.kpR HO_5.out)) k_ hk, Kd.fresh' (Kd.R_lt (Kp.kpR HO_7.out)) k_ hk⟩)); (case aO => exact (Kp.kpR HO_6.out)); (case aS => exact (below_size (Kp.kpL HB.out))); (case aL => have := LMc34.out; omega); intro v214 w35 ho hb hg hat; rw [← Ny213.out] at ho; have n0_ := Kp.a (Kd.R_after (ok := (fun k_ => (w.heap.size ≤ k_) ∧ some k_ ≠ (u7 : Value).ownBlock)) (Kp.kpR (Kd.R_mono HO_5.out (fun _ hk => ⟨⟨hk.1, hk.2.2⟩, hk.2.1⟩))) hg hat); have n1_ := Kp.a (Kd.R_after (ok := (fun k_ => (w.heap.size ≤ k_) ∧ some k_ ≠ (v192 : Value).ownBlock)) (Kp.kpR (Kd.R_mono HO_7.out (fun _ hk => ⟨⟨hk.1, hk.2.1⟩, hk.2.2⟩))) hg hat); have n2_ := Kp.a (hb); have n3_ := Kp.a (ho); clear HO_5; clear HO_7; clear HB; clear HO_6; have HO_5 := n0_; have HO_7 := n1_; have HB := n2_; have HO215 := n3_; clear n0_ n1_ n2_ n3_; clear ho hb hg hat)); try go_wp2_with (first | ((with_reducible refine gate_builtin (b := .append) (xs := #[.tmp 108, .tmp 110]) rfl ?_); (try (refine gate_guard (by rfl) ?_; dsimp only)); at_builtin; refine Kd.R_append (Kd.int .i64) (w0 := w) w.heap.size rfl (.tmp 108) (.tmp 110) 55 3 (.int .i64 0) 8 rfl Try.underlying55 info3 rfl (by decide) (by omega) u6 x6_2 (wrap64 (t205 + t206)) [.int .i64 (wrap64 (t205 + t206))] (fun k_ => (w.heap.size ≤ k_) ∧ some k_ ≠ (v192 : Value).ownBlock ∧ some k_ ≠ (u7 : Value).ownBlock) (fun _ => False) rfl rfl ?aP (fun _ hk => hk.elim) ?aF ?aO ?aB ?aS ?aL ?_; (case aP => exact rfl); (case aB => exact (Kp.kpL HB.out)); (case aF => exact (fun k_ hk => ⟨(Nat.le_trans (below_size (Kp.kpL HB.out)) hk), Kd.fresh' (Kd.R_lt (Kp.kpR HO_5.out)) k_ hk, Kd.fresh' (Kd.R_lt (Kp.kpR HO_7.out)) k_ hk⟩)); (case aO => exact (Kp.kpR HO_6.out)); (case aS => exact (below_size (Kp.kpL HB.out))); (case aL => have := LMc34.out; omega); intro v214 w35 ho hb hg hat; rw [← Ny213.out] at ho; have n0_ := Kp.a (Kd.R_after (ok := (fun k_ => (w.heap.size ≤ k_) ∧ some k_ ≠ (u7 : Value).ownBlock)) (Kp.kpR (Kd.R_mono HO_5.out (fun _ hk => ⟨⟨hk.1, hk.2.2⟩, hk.2.1⟩))) hg hat); have n1_ := Kp.a (Kd.R_after (ok := (fun k_ => (w.heap.size ≤ k_) ∧ some k_ ≠ (v192 : Value).ownBlock)) (Kp.kpR (Kd.R_mono HO_7.out (fun _ hk => ⟨⟨hk.1, hk.2.1⟩, hk.2.2⟩))) hg hat); have n2_ := Kp.a (hb); have n3_ := Kp.a (ho); clear HO_5; clear HO_7; clear HB; clear HO_6; have HO_5 := n0_; have HO_7 := n1_; have HB := n2_; have HO215 := n3_; clear n0_ n1_ n2_ n3_; clear ho hb hg hat)))
         go_roundg kj23
         case measure => have := HJ4.out; have := HK2.out; have := HJ23.out; omega
         case rel => exact ⟨(y213), (x7_2), (wrap64 (Int.tdiv (wrap64 (((rd_T34 l0 x10_2).f0) - ((rd_T34 l0 (ji19)).f0))) (wrap64 (t205 + t206)))), (wrap64 (Int.tdiv (wrap64 (((rd_T34 l0 x10_2).f1) - ((rd_T34 l0 (ji19)).f1))) (wrap64 (t205 + t206)))), (wrap64 (x10_2 + 1)), (by first | rfl | (simp; done) | (simp only [← hji19] <;> (first | rfl | simp)) | (simp [*]; done)), (by first | rfl | (simp; done) | (simp only [← hji19] <;> (first | rfl | simp)) | (simp [*]; done)), (by first | rfl | (simp; done) | (simp [*]; done)), H', ⟨by have := HJ4.out; have := HK2.out; have := HJ23.out; omega⟩, ⟨Kp.kpR (Kd.R_mono HO_5.out (fun _ hk => ⟨hk.1.1, ⟨hk.2, hk.1.2⟩⟩))⟩, ⟨Kp.kpR HO215.out⟩, ⟨Kp.kpR (Kd.R_mono HO_7.out (fun _ hk => ⟨hk.1.1, ⟨hk.1.2, hk.2⟩⟩))⟩, ⟨Kp.kpL HB.out⟩⟩
        rw [if_pos c29] at H
        have c29b0 : decide (1 < x10_2) = true := decide_eq_true c29
        clear c29
        by_cases c30 : x7_2.length < 17592186044416
        rotate_left
        ·rw [if_neg c30] at H
         exact absurd H (by simp)
        rw [if_pos c30] at H
        have LMc30 := Kp.a c30
        clear c30
        obtain ⟨y207, hy207⟩ : ∃ y_ : List Int, y_ = (x7_2 ++ [wrap64 ((wrap64 (x8_2 * (wrap64 (Int.tdiv (wrap64 (((rd_T34 l0 x10_2).f1) - ((rd_T34 l0 (ji19)).f1))) (wrap64 (t205 + t206)))))) - (wrap64 (x9_2 * (wrap64 (Int.tdiv (wrap64 (((rd_T34 l0 x10_2).f0) - ((rd_T34 l0 (ji19)).f0))) (wrap64 (t205 + t206)))))))]) := ⟨_, rfl⟩
        replace H : (if x6_2.length < 17592186044416 then (spec_Flat.l0 kj23 l0 y191 (x6_2 ++ [(wrap64 (t205 + t206))]) y207 (wrap64 (Int.tdiv (wrap64 (((rd_T34 l0 x10_2).f0) - ((rd_T34 l0 (ji19)).f0))) (wrap64 (t205 + t206)))) (wrap64 (Int.tdiv (wrap64 (((rd_T34 l0 x10_2).f1) - ((rd_T34 l0 (ji19)).f1))) (wrap64 (t205 + t206)))) (wrap64 (x10_2 + 1))) else (none)) = some (r1, r2, r3) := by first | (rw [hy207]; with_reducible exact H) | (have H2_ := (Option.bind_some _ _).symm.trans H; rw [hy207]; with_reducible exact H2_) | (have H2_ := (Option.bind_some _ _).symm.trans H; with_reducible exact H2_) | with_reducible exact H | (rw [hy207]; exact H) | exact H
        have Ny207 := Kp.a hy207
        clear hy207
        by_cases c31 : x6_2.length < 17592186044416
        rotate_left
        ·rw [if_neg c31] at H
         exact absurd H (by simp)
        rw [if_pos c31] at H
        have LMc31 := Kp.a c31
        clear c31
        obtain ⟨y210, hy210⟩ : ∃ y_ : List Int, y_ = (x6_2 ++ [(wrap64 (t205 + t206))]) := ⟨_, rfl⟩
        replace H : (spec_Flat.l0 kj23 l0 y191 y210 y207 (wrap64 (Int.tdiv (wrap64 (((rd_T34 l0 x10_2).f0) - ((rd_T34 l0 (ji19)).f0))) (wrap64 (t205 + t206)))) (wrap64 (Int.tdiv (wrap64 (((rd_T34 l0 x10_2).f1) - ((rd_T34 l0 (ji19)).f1))) (wrap64 (t205 + t206)))) (wrap64 (x10_2 + 1))) = some (r1, r2, r3) := by first | (rw [hy210]; with_reducible exact H) | (have H2_ := (Option.bind_some _ _).symm.trans H; rw [hy210]; with_reducible exact H2_) | (have H2_ := (Option.bind_some _ _).symm.trans H; with_reducible exact H2_) | with_reducible exact H | (rw [hy210]; exact H) | exact H
        have Ny210 := Kp.a hy210
        clear hy210
        have H' := Kp.a H
        clear H
        go_wp2_with (first | ((with_reducible refine gate_builtin (b := .append) (xs := #[.tmp 96, .tmp 104]) rfl ?_); (try (refine gate_guard (by rfl) ?_; dsimp only)); at_builtin; refine Kd.R_append (Kd.int .i64) (w0 := w) w.heap.size rfl (.tmp 96) (.tmp 104) 55 3 (.int .i64 0) 8 rfl Try.underlying55 info3 rfl (by decide) (by omega) u7 x7_2 (wrap64 ((wrap64 (x8_2 * (wrap64 (Int.tdiv (wrap64 (((rd_T34 l0 x10_2).f1) - ((rd_T34 l0 (ji19)).f1))) (wrap64 (t205 + t206)))))) - (wrap64 (x9_2 * (wrap64 (Int.tdiv (wrap64 (((rd_T34 l0 x10_2).f0) - ((rd_T34 l0 (ji19)).f0))) (wrap64 (t205 + t206)))))))) [.int .i64 (wrap64 ((wrap64 (x8_2 * (wrap64 (Int.tdiv (wrap64 (((rd_T34 l0 x10_2).f1) - ((rd_T34 l0 (ji19)).f1))) (wrap64 (t205 + t206)))))) - (wrap64 (x9_2 * (wrap64 (Int.tdiv (wrap64 (((rd_T34 l0 x10_2).f0) - ((rd_T34 l0 (ji19)).f0))) (wrap64 (t205 + t206))))))))] (fun k_ => (w.heap.size ≤ k_) ∧ some k_ ≠ (v192 : Value).ownBlock ∧ some k_ ≠ (u6 : Value).ownBlock) (fun _ => False) rfl rfl ?aP (fun _ hk => hk.elim) ?aF ?aO ?aB ?aS ?aL ?_; (case aP => exact rfl); (case aB => exact (Kp.kpL HB.out)); (case aF => exact (fun k_ hk => ⟨(Nat.le_trans (below_size (Kp.kpL HB.out)) hk), Kd.fresh' (Kd.R_lt (Kp.kpR HO_5.out)) k_ hk, Kd.fresh' (Kd.R_lt (Kp.kpR HO_6.out)) k_ hk⟩)); (case aO => exact (Kp.kpR HO_7.out)); (case aS => exact (below_size (Kp.kpL HB.out))); (case aL => have := LMc30.out; omega); intro v208 w32 ho hb hg hat; rw [← Ny207.out] at ho; have n0_ := Kp.a (Kd.R_after (ok := (fun k_ => (w.heap.size ≤ k_) ∧ some k_ ≠ (u6 : Value).ownBlock)) (Kp.kpR (Kd.R_mono HO_5.out (fun _ hk => ⟨⟨hk.1, hk.2.1⟩, hk.2.2⟩))) hg hat); have n1_ := Kp.a (Kd.R_after (ok := (fun k_ => (w.heap.size ≤ k_) ∧ some k_ ≠ (v192 : Value).ownBlock)) (Kp.kpR (Kd.R_mono HO_6.out (fun _ hk => ⟨⟨hk.1, hk.2.1⟩, hk.2.2⟩))) hg hat); have n2_ := Kp.a (hb); have n3_ := Kp.a (ho); clear HO_5; clear HO_6; clear HB; clear HO_7; have HO_5 := n0_; have HO_6 := n1_; have HB := n2_; have HO209 := n3_; clear n0_ n1_ n2_ n3_; clear ho hb hg hat) | ((with_reducible refine gate_builtin (b := .append) (xs := #[.tmp 108, .tmp 110]) rfl ?_); (try (refine gate_guard (by rfl) ?_; dsimp only)); at_builtin; refine Kd.R_append (Kd.int .i64) (w0 := w) w.heap.size rfl (.tmp 108) (.tmp 110) 55 3 (.int .i64 0) 8 rfl Try.underlying55 info3 rfl (by decide) (by omega) u6 x6_2 (wrap64 (t205 + t206)) [.int .i64 (wrap64 (t205 + t206))] (fun k_ => (w.heap.size ≤ k_) ∧ some k_ ≠ (v192 : Value).ownBlock ∧ some k_ ≠ (v208 : Value).ownBlock) (fun _ => False) rfl rfl ?aP (fun _ hk => hk.elim) ?aF ?aO ?aB ?aS ?aL ?_; (case aP => exact rfl); (case aB => exact (Kp.kpL HB.out)); (case aF => exact (fun k_ hk => ⟨(Nat.le_trans (below_size (Kp.kpL HB.out)) hk), Kd.fresh' (Kd.R_lt (Kp.kpR HO_5.out)) k_ hk, Kd.fresh' (Kd.R_lt (Kp.kpR HO209.out)) k_ hk⟩)); (case aO => exact (Kp.kpR (Kd.R_mono HO_6.out (fun _ hk => ⟨hk.1.1, ⟨hk.1.2, hk.2⟩⟩)))); (case aS => exact (below_size (Kp.kpL HB.out))); (case aL => have := LMc31.out; omega); intro v211 w33 ho hb hg hat; rw [← Ny210.out] at ho; have n0_ := Kp.a (Kd.R_after (ok := (fun k_ => (w.heap.size ≤ k_) ∧ some k_ ≠ (v208 : Value).ownBlock)) (Kp.kpR (Kd.R_mono HO_5.out (fun _ hk => ⟨⟨hk.1.1, hk.2⟩, hk.1.2⟩))) hg hat); have n1_ := Kp.a (Kd.R_after (ok := (fun k_ => (w.heap.size ≤ k_) ∧ some k_ ≠ (v192 : Value).ownBlock)) (Kp.kpR (Kd.R_mono HO209.out (fun _ hk => ⟨⟨hk.1, hk.2.1⟩, hk.2.2⟩))) hg hat); have n2_ := Kp.a (hb); have n3_ := Kp.a (ho); clear HO_5; clear HO209; clear HB; clear HO_6; have HO_5 := n0_; have HO209 := n1_; have HB := n2_; have HO212 := n3_; clear n0_ n1_ n2_ n3_; clear ho hb hg hat))
        repeat (go_quiet (first | ((with_reducible refine gate_builtin (b := .append) (xs := #[.tmp 96, .tmp 104]) rfl ?_); (try (refine gate_guard (by rfl) ?_; dsimp only)); at_builtin; refine Kd.R_append (Kd.int .i64) (w0 := w) w.heap.size rfl (.tmp 96) (.tmp 104) 55 3 (.int .i64 0) 8 rfl Try.underlying55 info3 rfl (by decide) (by omega) u7 x7_2 (wrap64 ((wrap64 (x8_2 * (wrap64 (Int.tdiv (wrap64 (((rd_T34 l0 x10_2).f1) - ((rd_T34 l0 (ji19)).f1))) (wrap64 (t205 + t206)))))) - (wrap64 (x9_2 * (wrap64 (Int.tdiv (wrap64 (((rd_T34 l0 x10_2).f0) - ((rd_T34 l0 (ji19)).f0))) (wrap64 (t205 + t206)))))))) [.int .i64 (wrap64 ((wrap64 (x8_2 * (wrap64 (Int.tdiv (wrap64 (((rd_T34 l0 x10_2).f1) - ((rd_T34 l0 (ji19)).f1))) (wrap64 (t205 + t206)))))) - (wrap64 (x9_2 * (wrap64 (Int.tdiv (wrap64 (((rd_T34 l0 x10_2).f0) - ((rd_T34 l0 (ji19)).f0))) (wrap64 (t205 + t206))))))))] (fun k_ => (w.heap.size ≤ k_) ∧ some k_ ≠ (v192 : Value).ownBlock ∧ some k_ ≠ (u6 : Value).ownBlock) (fun _ => False) rfl rfl ?aP (fun _ hk => hk.elim) ?aF ?aO ?aB ?aS ?aL ?_; (case aP => exact rfl); (case aB => exact (Kp.kpL HB.out)); (case aF => exact (fun k_ hk => ⟨(Nat.le_trans (below_size (Kp.kpL HB.out)) hk), Kd.fresh' (Kd.R_lt (Kp.kpR HO_5.out)) k_ hk, Kd.fresh' (Kd.R_lt (Kp.kpR HO_6.out)) k_ hk⟩)); (case aO => exact (Kp.kpR HO_7.out)); (case aS => exact (below_size (Kp.kpL HB.out))); (case aL => have := LMc30.out; omega); intro v208 w32 ho hb hg hat; rw [← Ny207.out] at ho; have n0_ := Kp.a (Kd.R_after (ok := (fun k_ => (w.heap.size ≤ k_) ∧ some k_ ≠ (u6 : Value).ownBlock)) (Kp.kpR (Kd.R_mono HO_5.out (fun _ hk => ⟨⟨hk.1, hk.2.1⟩, hk.2.2⟩))) hg hat); have n1_ := Kp.a (Kd.R_after (ok := (fun k_ => (w.heap.size ≤ k_) ∧ some k_ ≠ (v192 : Value).ownBlock)) (Kp.kpR (Kd.R_mono HO_6.out (fun _ hk => ⟨⟨hk.1, hk.2.1⟩, hk.2.2⟩))) hg hat); have n2_ := Kp.a (hb); have n3_ := Kp.a (ho); clear HO_5; clear HO_6; clear HB; clear HO_7; have HO_5 := n0_; have HO_6 := n1_; have HB := n2_; have HO209 := n3_; clear n0_ n1_ n2_ n3_; clear ho hb hg hat) | ((with_reducible refine gate_builtin (b := .append) (xs := #[.tmp 108, .tmp 110]) rfl ?_); (try (refine gate_guard (by rfl) ?_; dsimp only)); at_builtin; refine Kd.R_append (Kd.int .i64) (w0 := w) w.heap.size rfl (.tmp 108) (.tmp 110) 55 3 (.int .i64 0) 8 rfl Try.underlying55 info3 rfl (by decide) (by omega) u6 x6_2 (wrap64 (t205 + t206)) [.int .i64 (wrap64 (t205 + t206))] (fun k_ => (w.heap.size ≤ k_) ∧ some k_ ≠ (v192 : Value).ownBlock ∧ some k_ ≠ (v208 : Value).ownBlock) (fun _ => False) rfl rfl ?aP (fun _ hk => hk.elim) ?aF ?aO ?aB ?aS ?aL ?_; (case aP => exact rfl); (case aB => exact (Kp.kpL HB.out)); (case aF => exact (fun k_ hk => ⟨(Nat.le_trans (below_size (Kp.kpL HB.out)) hk), Kd.fresh' (Kd.R_lt (Kp.kpR HO_5.out)) k_ hk, Kd.fresh' (Kd.R_lt (Kp.kpR HO209.out)) k_ hk⟩)); (case aO => exact (Kp.kpR (Kd.R_mono HO_6.out (fun _ hk => ⟨hk.1.1, ⟨hk.1.2, hk.2⟩⟩)))); (case aS => exact (below_size (Kp.kpL HB.out))); (case aL => have := LMc31.out; omega); intro v211 w33 ho hb hg hat; rw [← Ny210.out] at ho; have n0_ := Kp.a (Kd.R_after (ok := (fun k_ => (w.heap.size ≤ k_) ∧ some k_ ≠ (v208 : Value).ownBlock)) (Kp.kpR (Kd.R_mono HO_5.out (fun _ hk => ⟨⟨hk.1.1, hk.2⟩, hk.1.2⟩))) hg hat); have n1_ := Kp.a (Kd.R_after (ok := (fun k_ => (w.heap.size ≤ k_) ∧ some k_ ≠ (v192 : Value).ownBlock)) (Kp.kpR (Kd.R_mono HO209.out (fun _ hk => ⟨⟨hk.1, hk.2.1⟩, hk.2.2⟩))) hg hat); have n2_ := Kp.a (hb); have n3_ := Kp.a (ho); clear HO_5; clear HO209; clear HB; clear HO_6; have HO_5 := n0_; have HO209 := n1_; have HB := n2_; have HO212 := n3_; clear n0_ n1_ n2_ n3_; clear ho hb hg hat)); try go_wp2_with (first | ((with_reducible refine gate_builtin (b := .append) (xs := #[.tmp 96, .tmp 104]) rfl ?_); (try (refine gate_guard (by rfl) ?_; dsimp only)); at_builtin; refine Kd.R_append (Kd.int .i64) (w0 := w) w.heap.size rfl (.tmp 96) (.tmp 104) 55 3 (.int .i64 0) 8 rfl Try.underlying55 info3 rfl (by decide) (by omega) u7 x7_2 (wrap64 ((wrap64 (x8_2 * (wrap64 (Int.tdiv (wrap64 (((rd_T34 l0 x10_2).f1) - ((rd_T34 l0 (ji19)).f1))) (wrap64 (t205 + t206)))))) - (wrap64 (x9_2 * (wrap64 (Int.tdiv (wrap64 (((rd_T34 l0 x10_2).f0) - ((rd_T34 l0 (ji19)).f0))) (wrap64 (t205 + t206)))))))) [.int .i64 (wrap64 ((wrap64 (x8_2 * (wrap64 (Int.tdiv (wrap64 (((rd_T34 l0 x10_2).f1) - ((rd_T34 l0 (ji19)).f1))) (wrap64 (t205 + t206)))))) - (wrap64 (x9_2 * (wrap64 (Int.tdiv (wrap64 (((rd_T34 l0 x10_2).f0) - ((rd_T34 l0 (ji19)).f0))) (wrap64 (t205 + t206))))))))] (fun k_ => (w.heap.size ≤ k_) ∧ some k_ ≠ (v192 : Value).ownBlock ∧ some k_ ≠ (u6 : Value).ownBlock) (fun _ => False) rfl rfl ?aP (fun _ hk => hk.elim) ?aF ?aO ?aB ?aS ?aL ?_; (case aP => exact rfl); (case aB => exact (Kp.kpL HB.out)); (case aF => exact (fun k_ hk => ⟨(Nat.le_trans (below_size (Kp.kpL HB.out)) hk), Kd.fresh' (Kd.R_lt (Kp.kpR HO_5.out)) k_ hk, Kd.fresh' (Kd.R_lt (Kp.kpR HO_6.out)) k_ hk⟩)); (case aO => exact (Kp.kpR HO_7.out)); (case aS => exact (below_size (Kp.kpL HB.out))); (case aL => have := LMc30.out; omega); intro v208 w32 ho hb hg hat; rw [← Ny207.out] at ho; have n0_ := Kp.a (Kd.R_after (ok := (fun k_ => (w.heap.size ≤ k_) ∧ some k_ ≠ (u6 : Value).ownBlock)) (Kp.kpR (Kd.R_mono HO_5.out (fun _ hk => ⟨⟨hk.1, hk.2.1⟩, hk.2.2⟩))) hg hat); have n1_ := Kp.a (Kd.R_after (ok := (fun k_ => (w.heap.size ≤ k_) ∧ some k_ ≠ (v192 : Value).ownBlock)) (Kp.kpR (Kd.R_mono HO_6.out (fun _ hk => ⟨⟨hk.1, hk.2.1⟩, hk.2.2⟩))) hg hat); have n2_ := Kp.a (hb); have n3_ := Kp.a (ho); clear HO_5; clear HO_6; clear HB; clear HO_7; have HO_5 := n0_; have HO_6 := n1_; have HB := n2_; have HO209 := n3_; clear n0_ n1_ n2_ n3_; clear ho hb hg hat) | ((with_reducible refine gate_builtin (b := .append) (xs := #[.tmp 108, .tmp 110]) rfl ?_); (try (refine gate_guard (by rfl) ?_; dsimp only)); at_builtin; refine Kd.R_append (Kd.int .i64) (w0 := w) w.heap.size rfl (.tmp 108) (.tmp 110) 55 3 (.int .i64 0) 8 rfl Try.underlying55 info3 rfl (by decide) (by omega) u6 x6_2 (wrap64 (t205 + t206)) [.int .i64 (wrap64 (t205 + t206))] (fun k_ => (w.heap.size ≤ k_) ∧ some k_ ≠ (v192 : Value).ownBlock ∧ some k_ ≠ (v208 : Value).ownBlock) (fun _ => False) rfl rfl ?aP (fun _ hk => hk.elim) ?aF ?aO ?aB ?aS ?aL ?_; (case aP => exact rfl); (case aB => exact (Kp.kpL HB.out)); (case aF => exact (fun k_ hk => ⟨(Nat.le_trans (below_size (Kp.kpL HB.out)) hk), Kd.fresh' (Kd.R_lt (Kp.kpR HO_5.out)) k_ hk, Kd.fresh' (Kd.R_lt (Kp.kpR HO209.out)) k_ hk⟩)); (case aO => exact (Kp.kpR (Kd.R_mono HO_6.out (fun _ hk => ⟨hk.1.1, ⟨hk.1.2, hk.2⟩⟩)))); (case aS => exact (below_size (Kp.kpL HB.out))); (case aL => have := LMc31.out; omega); intro v211 w33 ho hb hg hat; rw [← Ny210.out] at ho; have n0_ := Kp.a (Kd.R_after (ok := (fun k_ => (w.heap.size ≤ k_) ∧ some k_ ≠ (v208 : Value).ownBlock)) (Kp.kpR (Kd.R_mono HO_5.out (fun _ hk => ⟨⟨hk.1.1, hk.2⟩, hk.1.2⟩))) hg hat); have n1_ := Kp.a (Kd.R_after (ok := (fun k_ => (w.heap.size ≤ k_) ∧ some k_ ≠ (v192 : Value).ownBlock)) (Kp.kpR (Kd.R_mono HO209.out (fun _ hk => ⟨⟨hk.1, hk.2.1⟩, hk.2.2⟩))) hg hat); have n2_ := Kp.a (hb); have n3_ := Kp.a (ho); clear HO_5; clear HO209; clear HB; clear HO_6; have HO_5 := n0_; have HO209 := n1_; have HB := n2_; have HO212 := n3_; clear n0_ n1_ n2_ n3_; clear ho hb hg hat)))
        go_roundg kj23
        case measure => have := HJ4.out; have := HK2.out; have := HJ23.out; omega
        case rel => exact ⟨(y210), (y207), (wrap64 (Int.tdiv (wrap64 (((rd_T34 l0 x10_2).f0) - ((rd_T34 l0 (ji19)).f0))) (wrap64 (t205 + t206)))), (wrap64 (Int.tdiv (wrap64 (((rd_T34 l0 x10_2).f1) - ((rd_T34 l0 (ji19)).f1))) (wrap64 (t205 + t206)))), (wrap64 (x10_2 + 1)), (by first | rfl | (simp; done) | (simp only [← hji19] <;> (first | rfl | simp)) | (simp [*]; done)), (by first | rfl | (simp; done) | (simp only [← hji19] <;> (first | rfl | simp)) | (simp [*]; done)), (by first | rfl | (simp; done) | (simp [*]; done)), H', ⟨by have := HJ4.out; have := HK2.out; have := HJ23.out; omega⟩, ⟨Kp.kpR (Kd.R_mono HO_5.out (fun _ hk => ⟨hk.1.1, ⟨hk.2, hk.1.2⟩⟩))⟩, ⟨Kp.kpR HO212.out⟩, ⟨Kp.kpR (Kd.R_mono HO209.out (fun _ hk => ⟨hk.1.1, ⟨hk.1.2, hk.2⟩⟩))⟩, ⟨Kp.kpL HB.out⟩⟩
     rw [if_neg c17] at H
     have c17b0 : decide (x10_2 < (l0.length : Int)) = false := decide_eq_false c17
     clear c17
     replace H := Option.bind_eq_some_iff.mp H
     obtain ⟨⟨t216, t217, t218⟩, A360, H⟩ := H
     replace H : (if t217 = 0 then (spec_Flat.j3 k2 l0 y191 x6_2 x7_2 t216 ((t216.length : Int) != (l0.length : Int))) else (spec_Flat.j3 k2 l0 y191 x6_2 x7_2 t216 true)) = some (r1, r2, r3) := H
     have A36 := Kp.a A360
     clear A360
     have HC37 := Kp.a H
     clear H
     obtain ⟨Ao38, co38, eo38⟩ := Kd.R_slice HO_6.out
     subst eo38
     obtain ⟨Ao39, co39, eo39⟩ := Kd.R_slice HO_7.out
     subst eo39
     go_upto_region 26 with (first | (go_at_call 39; (with_reducible refine (spec_Bent.calls k2 _ _ x6_2 _ _ x7_2 t216 t217 t218 _ ?side1 ?side2 ?side3 ?side4 A36.out).mono ?_); (case side1 => repeat (first | exact (Kd.R_reads' HO_6.out).2.2 | (with_reducible refine Kd.C_alloc ?_ _) | (with_reducible refine Kd.C_drewN ?_ _) | (with_reducible refine Kd.C_drew ?_))); (case side2 => exact (Kd.R_reads' HO_6.out).2.1); (case side3 => repeat (first | exact (Kd.R_reads' HO_7.out).2.2 | (with_reducible refine Kd.C_alloc ?_ _) | (with_reducible refine Kd.C_drewN ?_ _) | (with_reducible refine Kd.C_drew ?_))); (case side4 => exact (Kd.R_reads' HO_7.out).2.1); rintro e w40 ⟨v219, rfl, ho0, hb⟩; have n0_ := Kp.a (Kd.R_below (Kp.kpR HO_5.out) hb); have n1_ := Kp.a (Kd.R_below (Kp.kpR HO_6.out) hb); have n2_ := Kp.a (Kd.R_below (Kp.kpR HO_7.out) hb); have n3_ := Kp.a (Kd.R_lower (Kd.R_newM (M := fun k_ => (w.heap.size ≤ k_)) ho0 (below_size (Kp.kpL HB.out)) (fun k_ h_ => h_)) (below_size (Kp.kpL HB.out))); have n4_ := Kp.a (below_step (Kp.kpL HB.out) hb); clear HO_5; clear HO_6; clear HO_7; clear HB; have HO_5 := n0_; have HO_6 := n1_; have HO_7 := n2_; have HO220 := n3_; have HB := n4_; clear n0_ n1_ n2_ n3_ n4_; (try clear hb); (try clear hb2); (try clear hk); (try clear hi); (try clear ho0)))
     repeat (go_quiet (first | (go_at_call 39; (with_reducible refine (spec_Bent.calls k2 _ _ x6_2 _ _ x7_2 t216 t217 t218 _ ?side1 ?side2 ?side3 ?side4 A36.out).mono ?_); (case side1 => repeat (first | exact (Kd.R_reads' HO_6.out).2.2 | (with_reducible refine Kd.C_alloc ?_ _) | (with_reducible refine Kd.C_drewN ?_ _) | (with_reducible refine Kd.C_drew ?_))); (case side2 => exact (Kd.R_reads' HO_6.out).2.1); (case side3 => repeat (first | exact (Kd.R_reads' HO_7.out).2.2 | (with_reducible refine Kd.C_alloc ?_ _) | (with_reducible refine Kd.C_drewN ?_ _) | (with_reducible refine Kd.C_drew ?_))); (case side4 => exact (Kd.R_reads' HO_7.out).2.1); rintro e w40 ⟨v219, rfl, ho0, hb⟩; have n0_ := Kp.a (Kd.R_below (Kp.kpR HO_5.out) hb); have n1_ := Kp.a (Kd.R_below (Kp.kpR HO_6.out) hb); have n2_ := Kp.a (Kd.R_below (Kp.kpR HO_7.out) hb); have n3_ := Kp.a (Kd.R_lower (Kd.R_newM (M := fun k_ => (w.heap.size ≤ k_)) ho0 (below_size (Kp.kpL HB.out)) (fun k_ h_ => h_)) (below_size (Kp.kpL HB.out))); have n4_ := Kp.a (below_step (Kp.kpL HB.out) hb); clear HO_5; clear HO_6; clear HO_7; clear HB; have HO_5 := n0_; have HO_6 := n1_; have HO_7 := n2_; have HO220 := n3_; have HB := n4_; clear n0_ n1_ n2_ n3_ n4_; (try clear hb); (try clear hb2); (try clear hk); (try clear hi); (try clear ho0))); go_upto_region 26 with (first | (go_at_call 39; (with_reducible refine (spec_Bent.calls k2 _ _ x6_2 _ _ x7_2 t216 t217 t218 _ ?side1 ?side2 ?side3 ?side4 A36.out).mono ?_); (case side1 => repeat (first | exact (Kd.R_reads' HO_6.out).2.2 | (with_reducible refine Kd.C_alloc ?_ _) | (with_reducible refine Kd.C_drewN ?_ _) | (with_reducible refine Kd.C_drew ?_))); (case side2 => exact (Kd.R_reads' HO_6.out).2.1); (case side3 => repeat (first | exact (Kd.R_reads' HO_7.out).2.2 | (with_reducible refine Kd.C_alloc ?_ _) | (with_reducible refine Kd.C_drewN ?_ _) | (with_reducible refine Kd.C_drew ?_))); (case side4 => exact (Kd.R_reads' HO_7.out).2.1); rintro e w40 ⟨v219, rfl, ho0, hb⟩; have n0_ := Kp.a (Kd.R_below (Kp.kpR HO_5.out) hb); have n1_ := Kp.a (Kd.R_below (Kp.kpR HO_6.out) hb); have n2_ := Kp.a (Kd.R_below (Kp.kpR HO_7.out) hb); have n3_ := Kp.a (Kd.R_lower (Kd.R_newM (M := fun k_ => (w.heap.size ≤ k_)) ho0 (below_size (Kp.kpL HB.out)) (fun k_ h_ => h_)) (below_size (Kp.kpL HB.out))); have n4_ := Kp.a (below_step (Kp.kpL HB.out) hb); clear HO_5; clear HO_6; clear HO_7; clear HB; have HO_5 := n0_; have HO_6 := n1_; have HO_7 := n2_; have HO220 := n3_; have HB := n4_; clear n0_ n1_ n2_ n3_ n4_; (try clear hb); (try clear hb2); (try clear hk); (try clear hi); (try clear ho0))))
     (try simp only [Act.put, Kp.s0, Kp.s1, Kp.s2])
     go_cut [127] (fun v127 wc => ∃ (kq : Nat) (x127_36 : Bool), v127 = .bool x127_36 ∧ Aside0 (spec_Flat.j3 kq l0 y191 x6_2 x7_2 t216 x127_36 = some (r1, r2, r3)) ∧ Aside0 (kq ≤ k2) ∧ Aside0 (Kd.R (Kd.int .i64) 3 wc w.heap.size (fun k_ => (w.heap.size ≤ k_) ∧ some k_ ≠ ((.slice Ao38 x6_2.length co38) : Value).ownBlock ∧ some k_ ≠ ((.slice Ao39 x7_2.length co39) : Value).ownBlock) v192 y191) ∧ Aside0 (Kd.R (Kd.int .i64) 3 wc w.heap.size (fun k_ => (w.heap.size ≤ k_) ∧ some k_ ≠ (v192 : Value).ownBlock ∧ some k_ ≠ ((.slice Ao39 x7_2.length co39) : Value).ownBlock) (.slice Ao38 x6_2.length co38) x6_2) ∧ Aside0 (Kd.R (Kd.int .i64) 3 wc w.heap.size (fun k_ => (w.heap.size ≤ k_) ∧ some k_ ≠ (v192 : Value).ownBlock ∧ some k_ ≠ ((.slice Ao38 x6_2.length co38) : Value).ownBlock) (.slice Ao39 x7_2.length co39) x7_2) ∧ Aside0 (Kd.R k34 34 wc w.heap.size (fun k_ => (w.heap.size ≤ k_)) v219 t216) ∧ Aside0 (Below w.heap.size w wc))
     case first =>
      have H := HC37.out
      clear HC37
      by_cases c41 : t217 = 0
      rotate_left
      ·rw [if_neg c41] at H
       have c41b0 : (t217 == 0) = false := beq_eq_false_iff_ne.mpr c41
       have c41b1 : (t217 != 0) = true := bne_iff_ne.mpr c41
       (first | rw [c41b0] | (simp only [i64_w, i32_w]; rw [c41b0]) | skip)
       have H' := Kp.a H
       clear H
       go_wp2
       repeat (go_quiet (fail); try go_wp2)
       go_meet
       case rel => exact ⟨_, (true), (by first | rfl | (simp; done) | (simp [*]; done)), H', ⟨by have := HJ4.out; have := HK2.out; first | omega | exact Nat.le_refl _⟩, ⟨Kp.kpR HO_5.out⟩, ⟨Kp.kpR HO_6.out⟩, ⟨Kp.kpR HO_7.out⟩, ⟨Kp.kpR (Kd.R_mono HO220.out (fun _ hk => hk.1))⟩, ⟨Kp.kpL HB.out⟩⟩
      rw [if_pos c41] at H
      have c41b0 : (t217 == 0) = true := beq_iff_eq.mpr c41
      have c41b1 : (t217 != 0) = false := bne_eq_false_iff_eq.mpr c41
      clear c41
      (first | rw [c41b0] | (simp only [i64_w, i32_w]; rw [c41b0]) | skip)
      have H' := Kp.a H
      clear H
      obtain ⟨Ao42, co42, eo42⟩ := Kd.R_slice HO220.out
      subst eo42
      go_wp2
      repeat (go_quiet (fail); try go_wp2)
      go_meet
      case rel => exact ⟨_, (((t216.length : Int) != (l0.length : Int))), (by first | rfl | (simp; done) | (simp [*]; done)), H', ⟨by have := HJ4.out; have := HK2.out; first | omega | exact Nat.le_refl _⟩, ⟨Kp.kpR HO_5.out⟩, ⟨Kp.kpR HO_6.out⟩, ⟨Kp.kpR HO_7.out⟩, ⟨Kp.kpR (Kd.R_mono HO220.out (fun _ hk => hk.1))⟩, ⟨Kp.kpL HB.out⟩⟩
     case rest =>
      clear HC37
      try clear c1
      try clear c2
      try clear c2b0
      try clear c2b1
      try clear p2
      try clear q2
      try clear hx2
      try clear c3
      try clear c4
      try clear p6
      try clear c8
      try clear c8b0
      try clear c8b1
      try clear c9
      try clear c9b0
      try clear c9b1
      try clear c12
      try clear c17
      try clear c17b0
      try clear c18
      try clear c18b0
      try clear c20
      try clear c20b0
      try clear p20
      try clear q20
      try clear hx20
      try clear c21
      try clear c21b0
      try clear c25
      try clear c25b0
      try clear c25b1
      try clear c26
      try clear c26b0
      try clear c26b1
      try clear c27
      try clear c28
      try clear c28b0
      try clear c28b1
      try clear c29
      try clear c29b0
      try clear c30
      try clear c31
      try clear c34
      try clear c41
      try clear c41b0
      try clear c41b1
      try clear hx201_0
      try clear hx201_1
      try clear hx202_0
      try clear hx202_1
      try clear hx203_0
      try clear hx203_1
      try clear hx204_0
      try clear hx204_1
      try clear p2
      try clear p20
      try clear p201
      try clear p202
      try clear p203
      try clear p204
      try clear p6
      try clear q2
      try clear q20
      try clear q201
      try clear q202
      try clear q203
      try clear q204
      obtain ⟨kq, x127_36, rfl, HA, HJ36, HO_5, HO_6, HO_7, HO_14, HB⟩ := hcut
      cases kq with
      | zero => exact absurd HA.out (by simp [spec_Flat.j3])
      | succ kj36 =>
       have H := HA.out
       clear HA
       simp only [spec_Flat.j3] at H
       by_cases c43 : x127_36 = true
       ·subst c43
        have H1 : (some (y191, y191, 1)) = some (r1, r2, r3) := by rw [if_pos rfl] at H; exact H
        clear H
        have H := H1
        clear H1
        simp only [Option.some.injEq, Prod.mk.injEq] at H
        obtain ⟨rfl, rfl, rfl⟩ := H
        go_wp2
        repeat (go_quiet (fail); try go_wp2)
        go_ret3
        exact ⟨_, _, by first | rfl | (simp [errW_none, errW_some] <;> rfl) | (simp [*, errW_none, errW_some] <;> rfl), Kd.R_V (Kp.kpR (Kd.R_mono HO_5.out (fun _ hk => hk.1))), Kd.R_V (Kp.kpR (Kd.R_mono HO_5.out (fun _ hk => hk.1))), Kp.kpL HB.out⟩
       replace c43 := Bool.eq_false_iff.mpr c43
       subst c43
       have H1 : (spec_Flat.l1 kj36 l0 y191 x6_2 x7_2 t216 0) = some (r1, r2, r3) := by rw [if_neg (show ¬ (false = true) by decide)] at H; exact H
       clear H
       have H := H1
       clear H1
       have H' := Kp.a H
       clear H
       go_wp2
       repeat (go_quiet (fail); try go_wp2)
       go_loopg [17] kj36 (fun kq v17 w' => ∃ (x17_4 : Int), v17 = .int .i64 x17_4 ∧ Aside0 (spec_Flat.l1 kq l0 y191 x6_2 x7_2 t216 x17_4 = some (r1, r2, r3)) ∧ Aside0 (kq ≤ kj36) ∧ Aside0 (Kd.R (Kd.int .i64) 3 w' w.heap.size (fun k_ => (w.heap.size ≤ k_) ∧ some k_ ≠ ((.slice Ao38 x6_2.length co38) : Value).ownBlock ∧ some k_ ≠ ((.slice Ao39 x7_2.length co39) : Value).ownBlock) v192 y191) ∧ Aside0 (Kd.R (Kd.int .i64) 3 w' w.heap.size (fun k_ => (w.heap.size ≤ k_) ∧ some k_ ≠ (v192 : Value).ownBlock ∧ some k_ ≠ ((.slice Ao39 x7_2.length co39) : Value).ownBlock) (.slice Ao38 x6_2.length co38) x6_2) ∧ Aside0 (Kd.R (Kd.int .i64) 3 w' w.heap.size (fun k_ => (w.heap.size ≤ k_) ∧ some k_ ≠ (v192 : Value).ownBlock ∧ some k_ ≠ ((.slice Ao38 x6_2.length co38) : Value).ownBlock) (.slice Ao39 x7_2.length co39) x7_2) ∧ Aside0 (Kd.R k34 34 w' w.heap.size (fun k_ => (w.heap.size ≤ k_)) v219 t216) ∧ Aside0 (Below w.heap.size w w'))
       case atStart => exact ⟨(0), (by first | rfl | (simp; done) | (simp [*]; done)), H', ⟨Nat.le_refl _⟩, ⟨Kp.kpR HO_5.out⟩, ⟨Kp.kpR HO_6.out⟩, ⟨Kp.kpR HO_7.out⟩, ⟨Kp.kpR HO_14.out⟩, ⟨Kp.kpL HB.out⟩⟩
       case round =>
        clear H'
        try clear c1
        try clear c2
        try clear c2b0
        try clear c2b1
        try clear p2
        try clear q2
        try clear hx2
        try clear c3
        try clear c4
        try clear p6
        try clear c8
        try clear c8b0
        try clear c8b1
        try clear c9
        try clear c9b0
        try clear c9b1
        try clear c12
        try clear c17
        try clear c17b0
        try clear c18
        try clear c18b0
        try clear c20
        try clear c20b0
        try clear p20
        try clear q20
        try clear hx20
        try clear c21
        try clear c21b0
        try clear c25
        try clear c25b0
        try clear c25b1
        try clear c26
        try clear c26b0
        try clear c26b1
        try clear c27
        try clear c28
        try clear c28b0
        try clear c28b1
        try clear c29
        try clear c29b0
        try clear c30
        try clear c31
        try clear c34
        try clear c41
        try clear c41b0
        try clear c41b1
        try clear c43
        try clear hx201_0
        try clear hx201_1
        try clear hx202_0
        try clear hx202_1
        try clear hx203_0
        try clear hx203_1
        try clear hx204_0
        try clear hx204_1
        try clear p2
        try clear p20
        try clear p201
        try clear p202
        try clear p203
        try clear p204
        try clear p6
        try clear q2
        try clear q20
        try clear q201
        try clear q202
        try clear q203
        try clear q204
        obtain ⟨x17_4, rfl, HA, HK4, HO_5, HO_6, HO_7, HO_14, HB⟩ := hrel
        cases gk with
        | zero => exact absurd HA.out (by simp [spec_Flat.l1])
        | succ k4 =>
         have H := HA.out
         clear HA
         simp only [spec_Flat.l1] at H
         by_cases c44 : x17_4 < (t216.length : Int)
         rotate_left
         ·rw [if_neg c44] at H
          have c44b0 : decide (x17_4 < (t216.length : Int)) = false := decide_eq_false c44
          clear c44
          simp only [Option.some.injEq, Prod.mk.injEq] at H
          obtain ⟨rfl, rfl, rfl⟩ := H
          obtain ⟨Ao50, co50, eo50⟩ := Kd.R_slice HO_14.out
          subst eo50
          go_wp2
          repeat (go_quiet (fail); try go_wp2)
          go_ret3
          exact ⟨_, _, by first | rfl | (simp [errW_none, errW_some] <;> rfl) | (simp [*, errW_none, errW_some] <;> rfl), Kd.R_V (Kp.kpR (Kd.R_mono HO_6.out (fun _ hk => hk.1))), Kd.R_V (Kp.kpR (Kd.R_mono HO_7.out (fun _ hk => hk.1))), Kp.kpL HB.out⟩
         rw [if_pos c44] at H
         have c44b0 : decide (x17_4 < (t216.length : Int)) = true := decide_eq_true c44
         clear c44
         by_cases c45 : 0 ≤ x17_4
         rotate_left
         ·rw [if_neg c45] at H
          exact absurd H (by simp)
         rw [if_pos c45] at H
         have c45b0 : decide (0 ≤ x17_4) = true := decide_eq_true c45
         clear c45
         by_cases c46 : x17_4 < (l0.length : Int)
         rotate_left
         ·rw [if_neg c46] at H
          exact absurd H (by simp)
         rw [if_pos c46] at H
         have c46b0 : decide (x17_4 < (l0.length : Int)) = true := decide_eq_true c46
         clear c46
         by_cases c47 : (!(((rd_T34 t216 x17_4).f0) == ((rd_T34 l0 x17_4).f0)) || (!(((rd_T34 t216 x17_4).f1) == ((rd_T34 l0 x17_4).f1)))) = true
         ·rw [if_pos c47] at H
          have c47b0 : (!(((rd_T34 t216 x17_4).f0) == ((rd_T34 l0 x17_4).f0)) || (!(((rd_T34 t216 x17_4).f1) == ((rd_T34 l0 x17_4).f1)))) = true := c47
          clear c47
          simp only [Option.some.injEq, Prod.mk.injEq] at H
          obtain ⟨rfl, rfl, rfl⟩ := H
          obtain ⟨Ao48, co48, eo48⟩ := Kd.R_slice HO_14.out
          subst eo48
          have p221 : 0 ≤ (x17_4 : Int) := Kp.d
          have q221 : x17_4 < (t216.length : Int) := Kp.d
          obtain ⟨ad221, e221, hx221_0, hx221_1⟩ := at_T34 (Kd.R_reads' HO_14.out).2.2 x17_4 p221 q221
          cases e221
          replace p221 := eq_true p221
          replace q221 := eq_true q221
          have p222 : 0 ≤ (x17_4 : Int) := Kp.d
          have q222 : x17_4 < (l0.length : Int) := Kp.d
          obtain ⟨ad222, e222, hx222_0, hx222_1⟩ := at_T34 HR0.out x17_4 p222 q222
          cases e222
          replace hx222_0 := (HB.out.cell (World.block_lt_of_cell? w _ hx222_0)).trans hx222_0
          replace hx222_1 := (HB.out.cell (World.block_lt_of_cell? w _ hx222_1)).trans hx222_1
          replace p222 := eq_true p222
          replace q222 := eq_true q222
          go_wp2
          repeat (go_quiet (fail); try go_wp2)
          go_ret3
          exact ⟨_, _, by first | rfl | (simp [errW_none, errW_some] <;> rfl) | (simp [*, errW_none, errW_some] <;> rfl), Kd.R_V (Kp.kpR (Kd.R_mono HO_5.out (fun _ hk => hk.1))), Kd.R_V (Kp.kpR (Kd.R_mono HO_5.out (fun _ hk => hk.1))), Kp.kpL HB.out⟩
         rw [if_neg c47] at H
         have c47b0 : (!(((rd_T34 t216 x17_4).f0) == ((rd_T34 l0 x17_4).f0)) || (!(((rd_T34 t216 x17_4).f1) == ((rd_T34 l0 x17_4).f1)))) = false := by simpa using c47
         clear c47
         have H' := Kp.a H
         clear H
         obtain ⟨Ao49, co49, eo49⟩ := Kd.R_slice HO_14.out
         subst eo49
         have p221 : 0 ≤ (x17_4 : Int) := Kp.d
         have q221 : x17_4 < (t216.length : Int) := Kp.d
         obtain ⟨ad221, e221, hx221_0, hx221_1⟩ := at_T34 (Kd.R_reads' HO_14.out).2.2 x17_4 p221 q221
         cases e221
         replace p221 := eq_true p221
         replace q221 := eq_true q221
         have p222 : 0 ≤ (x17_4 : Int) := Kp.d
         have q222 : x17_4 < (l0.length : Int) := Kp.d
         obtain ⟨ad222, e222, hx222_0, hx222_1⟩ := at_T34 HR0.out x17_4 p222 q222
         cases e222
         replace hx222_0 := (HB.out.cell (World.block_lt_of_cell? w _ hx222_0)).trans hx222_0
         replace hx222_1 := (HB.out.cell (World.block_lt_of_cell? w _ hx222_1)).trans hx222_1
         replace p222 := eq_true p222
         replace q222 := eq_true q222
         go_wp2
         repeat (go_quiet (fail); try go_wp2)
         go_roundg k4
         case measure => have := HJ4.out; have := HK2.out; have := HJ36.out; have := HK4.out; omega
         case rel => exact ⟨(wrap64 (x17_4 + 1)), (by first | rfl | (simp; done) | (simp [*]; done)), H', ⟨by have := HJ4.out; have := HK2.out; have := HJ36.out; have := HK4.out; omega⟩, ⟨Kp.kpR HO_5.out⟩, ⟨Kp.kpR HO_6.out⟩, ⟨Kp.kpR HO_7.out⟩, ⟨Kp.kpR HO_14.out⟩, ⟨Kp.kpL HB.out⟩⟩
end Go.Proofs.Ytgnhcdchpeeoaaa.PW


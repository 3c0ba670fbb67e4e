import Derived.Test.YtkijhilmgljegaaQBB0
import Derived.Test.YtkijhilmgljegaaVBk
import Derived.Test.YtkijhilmgljegaaQBB5
import Derived.Test.YtkijhilmgljegaaQBB6
namespace Go.Proofs.Ytkijhilmgljegaa.PB
open Go.RowKit Go.Proofs.YtkijhilmgljegaaW.PrintWords Go.Proofs.YtkijhilmgljegaaW.PrintLast Go.Proofs.YtkijhilmgljegaaW.PrintMore
attribute [local go_sem] max2_int min2_int max_two min_two max_three min_three max_four min_four
set_option linter.unusedVariables false
set_option linter.unusedSimpArgs false
mutual
def spec_Blocked.l0 : Nat → List Int → List Int → Int → Int → List (S37) → List Int → Int → Int → Option (List Int × List Int × Int)
 | 0, _, _, _, _, _, _, _, _ => none
 | k + 1, x0, x1, x2, x3, x11, x13, x36, x37 => if x37 < x36 then (if x13.length < 17592186044416 then (spec_Blocked.l0 k x0 x1 x2 x3 x11 (x13 ++ [(-1)]) x36 (wrap64 (x37 + 1))) else (none)) else (spec_Blocked.l1 k x0 x1 x2 x3 x11 x13 0)
def spec_Blocked.l1 : Nat → List Int → List Int → Int → Int → List (S37) → List Int → Int → Option (List Int × List Int × Int)
 | 0, _, _, _, _, _, _, _ => none
 | k + 1, x0, x1, x2, x3, x11, x13, x14 => if x14 < (x11.length : Int) then (if 0 ≤ x14 then (if 0 ≤ ((rd_T37 x11 x14).f0) then (if ((rd_T37 x11 x14).f0) < (x13.length : Int) then (spec_Blocked.l1 k x0 x1 x2 x3 x11 (x13.set (((rd_T37 x11 x14).f0) : Int).toNat ((rd_T37 x11 x14).f1)) (wrap64 (x14 + 1))) else (none)) else (none)) else (none)) else (if 0 ≤ (x0.length : Int) then (if ((x0.length : Int) : Int).toNat ≤ 281474976710656 then (if 0 ≤ (x1.length : Int) then (if ((x1.length : Int) : Int).toNat ≤ 281474976710656 then (spec_Blocked.l2 k x0 x1 x2 x3 x13 (List.replicate ((x0.length : Int) : Int).toNat false) (List.replicate ((x1.length : Int) : Int).toNat false) true) else (none)) else (none)) else (none)) else (none))
def spec_Blocked.l2 : Nat → List Int → List Int → Int → Int → List Int → List Bool → List Bool → Bool → Option (List Int × List Int × Int)
 | 0, _, _, _, _, _, _, _, _ => none
 | k + 1, x0, x1, x2, x3, x13, x15, x16, x17 => if x17 = true then (spec_Blocked.l3 k x0 x1 x2 x3 x13 x15 x16 false 0) else ((spec_l08Told.f k x15).bind fun t244 => ((spec_l08Told.f k x16).bind fun t247 => (some (t244, t247, 0))))
def spec_Blocked.l3 : Nat → List Int → List Int → Int → Int → List Int → List Bool → List Bool → Bool → Int → Option (List Int × List Int × Int)
 | 0, _, _, _, _, _, _, _, _, _ => none
 | k + 1, x0, x1, x2, x3, x13, x15, x16, x17, x18 => if x18 < (x0.length : Int) then (if 0 ≤ x18 then (if x18 < (x15.length : Int) then (if rdOf false x15 x18 = true then (spec_Blocked.j4 k x0 x1 x2 x3 x13 x15 x16 x17 x18 true) else (if x18 < (x13.length : Int) then (if (rd x13 x18) ≥ 0 then (if 0 ≤ (rd x13 x18) then (if (rd x13 x18) < (x16.length : Int) then (spec_Blocked.j4 k x0 x1 x2 x3 x13 x15 x16 x17 x18 (!(rdOf false x16 (rd x13 x18)))) else (none)) else (none)) else (spec_Blocked.j4 k x0 x1 x2 x3 x13 x15 x16 x17 x18 false)) else (none))) else (none)) else (none)) else (spec_Blocked.l2 k x0 x1 x2 x3 x13 x15 x16 x17)
def spec_Blocked.j4 : Nat → List Int → List Int → Int → Int → List Int → List Bool → List Bool → Bool → Int → Bool → Option (List Int × List Int × Int)
 | 0, _, _, _, _, _, _, _, _, _, _ => none
 | k + 1, x0, x1, x2, x3, x13, x15, x16, x17, x18, x94 => if x94 = true then (spec_Blocked.l3 k x0 x1 x2 x3 x13 x15 x16 x17 (wrap64 (x18 + 1))) else (if 0 ≤ x18 then (if x18 < (x15.length : Int) then (spec_Blocked.l4 k x0 x1 x2 x3 x13 (x15.set (x18 : Int).toNat true) x16 true x18 0) else (none)) else (none))
def spec_Blocked.l4 : Nat → List Int → List Int → Int → Int → List Int → List Bool → List Bool → Bool → Int → Int → Option (List Int × List Int × Int)
 | 0, _, _, _, _, _, _, _, _, _, _ => none
 | k + 1, x0, x1, x2, x3, x13, x15, x16, x17, x18, x19 => if x19 < (x1.length : Int) then (if 0 ≤ x18 then (if x18 < (x0.length : Int) then (if 0 ≤ x19 then (if x19 < (x16.length : Int) then (if rdOf false x16 x19 = true then (spec_Blocked.l4 k x0 x1 x2 x3 x13 x15 (x16.set (x19 : Int).toNat true) x17 x18 (wrap64 (x19 + 1))) else (if (wrap64 ((rd x0 x18) - (rd x1 x19))) ≥ x2 then (spec_Blocked.l4 k x0 x1 x2 x3 x13 x15 (x16.set (x19 : Int).toNat (decide ((wrap64 ((rd x0 x18) - (rd x1 x19))) ≤ x3))) x17 x18 (wrap64 (x19 + 1))) else (spec_Blocked.l4 k x0 x1 x2 x3 x13 x15 (x16.set (x19 : Int).toNat false) x17 x18 (wrap64 (x19 + 1))))) else (none)) else (none)) else (none)) else (none)) else (spec_Blocked.l3 k x0 x1 x2 x3 x13 x15 x16 x17 (wrap64 (x18 + 1)))
end
def spec_Blocked.f (k : Nat) (l0 : List Int) (l1 : List Int) (a2 : Int) (a3 : Int) : Option (List Int × List Int × Int) := (spec_Matched.f k l0 l1 a2 a3).bind fun bt219 => (if bt219.2 = 0 then (spec_Blocked.l0 k l0 l1 a2 a3 bt219.1 (([] : List Int)) (l0.length : Int) 0) else (some ((([] : List Int)), (([] : List Int)), bt219.2)))
def spec_Blocked.T12 : Bool × List (List Nat × List Nat) := (true, [([], []), ([], []), ([], []), ([1, 2], [1, 2]), ([3], [3]), ([4], [4]), ([], []), ([], []), ([6, 7], [6, 7]), ([8], [8]), ([9], [9]), ([0, 5, 0, 1, 2, 3, 4, 5, 6, 7, 8, 9, 10], [0, 5]), ([11, 10, 0, 1, 2, 3, 4, 5, 6, 7, 8, 9, 10], [10, 11])])
def spec_Blocked.B12 : List Nat := [0, 0, 0, 6, 14, 30, 0, 0, 192, 448, 960, 2047, 4095]
theorem spec_Blocked.tab12 : rtab .any (opsOf Try.f16 12) = spec_Blocked.T12 := by kernel_rfl
theorem spec_Blocked.bits12 : waitsOk spec_Blocked.T12.2 spec_Blocked.B12 = true := by kernel_rfl
def spec_Blocked.T27 : Bool × List (List Nat × List Nat) := (true, [([], []), ([], []), ([0, 1], [0, 1]), ([2], [2]), ([], []), ([], []), ([4, 5], [4, 5]), ([6], [6]), ([3, 7], [3, 7]), ([8, 0, 1, 2, 3, 4, 5, 6, 7, 8], [8])])
def spec_Blocked.B27 : List Nat := [0, 0, 3, 7, 0, 0, 48, 112, 255, 511]
theorem spec_Blocked.tab27 : rtab .any (opsOf Try.f16 27) = spec_Blocked.T27 := by kernel_rfl
theorem spec_Blocked.bits27 : waitsOk spec_Blocked.T27.2 spec_Blocked.B27 = true := by kernel_rfl
set_option maxHeartbeats 8000000 in
set_option maxRecDepth 100000 in
theorem spec_Blocked.calls (k : Nat) (A0 : Option Addr) (c0 : Nat) (l0 : List Int) (A1 : Option Addr) (c1 : Nat) (l1 : List Int) (a2 : Int) (a3 : Int) (r1 : List Int) (r2 : List Int) (r3 : Int) (w : World) (hr0 : Kd.C (Kd.int .i64) w A0 l0.length l0) (hc0 : l0.length ≤ c0) (hr1 : Kd.C (Kd.int .i64) w A1 l1.length l1) (hc1 : l1.length ≤ c1) (h : spec_Blocked.f k l0 l1 a2 a3 = some (r1, r2, r3)) :
  Calls Try.prog 16 #[.slice A0 l0.length c0, .slice A1 l1.length c1, .int .i64 a2, .int .i64 a3] w fun e w' => ∃ v0_ v1_ : Value, e = .returned (.tuple #[v0_, v1_, .int .i64 r3]) ∧ Kd.R (Kd.int .i64) 3 w' w.heap.size (fun k_ => some k_ ≠ (v1_ : Value).ownBlock) v0_ r1 ∧ Kd.R (Kd.int .i64) 3 w' w.heap.size (fun k_ => some k_ ≠ (v0_ : Value).ownBlock) v1_ r2 ∧ Below w.heap.size w w' := by
 have HR0 := Kp.a hr0
 have HC0 := Kp.a hc0
 clear hr0 hc0
 have HR1 := Kp.a hr1
 have HC1 := Kp.a hc1
 clear hr1 hc1
 have HB := Kp.a (Below.refl w.heap.size w)
 have H : ((spec_Matched.f k l0 l1 a2 a3).bind fun bt219 => (if bt219.2 = 0 then (spec_Blocked.l0 k l0 l1 a2 a3 bt219.1 (([] : List Int)) (l0.length : Int) 0) else (some ((([] : List Int)), (([] : List Int)), bt219.2)))) = some (r1, r2, r3) := h
 clear h
 replace H := Option.bind_eq_some_iff.mp H
 obtain ⟨⟨t219, t220⟩, A50, H⟩ := H
 replace H : (if t220 = 0 then (spec_Blocked.l0 k l0 l1 a2 a3 t219 (([] : List Int)) (l0.length : Int) 0) else (some ((([] : List Int)), (([] : List Int)), t220))) = some (r1, r2, r3) := H
 have A5 := Kp.a A50
 clear A50
 by_cases c6 : t220 = 0
 rotate_left
 ·rw [if_neg c6] at H
  have c6b0 : (t220 == 0) = false := beq_eq_false_iff_ne.mpr c6
  have c6b1 : (t220 != 0) = true := bne_iff_ne.mpr c6
  obtain ⟨y223, hy223⟩ : ∃ y_ : List Int, y_ = (([] : List Int)) := ⟨_, rfl⟩
  replace H : (some (y223, (([] : List Int)), t220)) = some (r1, r2, r3) := by first | (rw [hy223]; with_reducible exact H) | (have H2_ := (Option.bind_some _ _).symm.trans H; rw [hy223]; with_reducible exact H2_) | (have H2_ := (Option.bind_some _ _).symm.trans H; with_reducible exact H2_) | with_reducible exact H | (rw [hy223]; exact H) | exact H
  have Ny223 := Kp.a hy223
  clear hy223
  obtain ⟨y226, hy226⟩ : ∃ y_ : List Int, y_ = (([] : List Int)) := ⟨_, rfl⟩
  replace H : (some (y223, y226, t220)) = some (r1, r2, r3) := by first | (rw [hy226]; with_reducible exact H) | (have H2_ := (Option.bind_some _ _).symm.trans H; rw [hy226]; with_reducible exact H2_) | (have H2_ := (Option.bind_some _ _).symm.trans H; with_reducible exact H2_) | with_reducible exact H | (rw [hy226]; exact H) | exact H
  have Ny226 := Kp.a hy226
  clear hy226
  simp only [Option.some.injEq, Prod.mk.injEq] at H
  obtain ⟨rfl, rfl, rfl⟩ := H
  go_enter Try.func16, Try.ntmps16
  go_wp2_with (first | ((with_reducible refine gate_callee (f := 6) rfl ?_); refine goesL_ (some 26) rfl rfl Try.func6 (by kernel_rfl) rfl #[.slice A0 l0.length c0, .slice A1 l1.length c1, .int .i64 a2, .int .i64 a3] rfl (by (try simp only [List.map_toArray, List.map_cons, List.map_nil]); first | done | rfl | (simp only [List.length_drop, List.length_take]; rfl)) ?_; (with_reducible refine (spec_Matched.calls k _ _ l0 _ _ l1 a2 a3 t219 t220 _ ?side1 ?side2 ?side3 ?side4 A5.out).mono ?_); (case side1 => repeat (first | exact HR0.out | (with_reducible refine Kd.C_alloc ?_ _) | (with_reducible refine Kd.C_drewN ?_ _) | (with_reducible refine Kd.C_drew ?_))); (case side2 => exact HC0.out); (case side3 => repeat (first | exact HR1.out | (with_reducible refine Kd.C_alloc ?_ _) | (with_reducible refine Kd.C_drewN ?_ _) | (with_reducible refine Kd.C_drew ?_))); (case side4 => exact HC1.out); rintro e w82 ⟨v221, rfl, ho0, hb⟩; refine ⟨_, rfl, ?_⟩; have n0_ := Kp.a (Kd.R_lower ho0 (below_size (Kp.kpL HB.out))); have n1_ := Kp.a (below_step (Kp.kpL HB.out) hb); clear HB; have HO222 := n0_; have HB := n1_; clear n0_ n1_; (try clear hb); (try clear hb2); (try clear hk); (try clear hi); (try clear ho0)) | ((with_reducible refine gate_dst (N := 31) rfl ?_); refine Kd.R_lit (Kd.int .i64) _ 3 ?hg (N := 31) ?hd (xs := ([] : List Int)) (inner := []) (ok := fun _ => True) (okp := fun _ => True) ?hr ?hp (fun _ hk => hk) trivial (Below.refl _ _) (Nat.le_refl _) (by simp) ?_; (case hd => rfl); (case hg => rfl); (case hr => first | (go_simp; done) | (go_simp; rfl)); (case hp => exact (Reps.none _ _)); intro v224 w83 ho84 hb hg_ hnew_; clear hg_ hnew_; (first | rw [← Ny223.out] at ho84 | (simp only [Int.reduceToNat] at ho84; rw [← Ny223.out] at ho84)); have n0_ := Kp.a (Kd.R_below (Kp.kpR HO222.out) hb); have n1_ := Kp.a (Kd.R_lower ho84 (below_size (Kp.kpL HB.out))); have n2_ := Kp.a (below_step (Kp.kpL HB.out) hb); clear HO222; clear HB; have HO222 := n0_; have HO225 := n1_; have HB := n2_; clear n0_ n1_ n2_; clear hb ho84) | ((with_reducible refine gate_dst (N := 32) rfl ?_); refine Kd.R_lit (Kd.int .i64) _ 3 ?hg (N := 32) ?hd (xs := ([] : List Int)) (inner := []) (ok := fun _ => True) (okp := fun _ => True) ?hr ?hp (fun _ hk => hk) trivial (Below.refl _ _) (Nat.le_refl _) (by simp) ?_; (case hd => rfl); (case hg => rfl); (case hr => first | (go_simp; done) | (go_simp; rfl)); (case hp => exact (Reps.none _ _)); intro v227 w85 ho86 hb hg_ hnew_; clear hg_ hnew_; (first | rw [← Ny226.out] at ho86 | (simp only [Int.reduceToNat] at ho86; rw [← Ny226.out] at ho86)); have n0_ := Kp.a (Kd.R_below (Kp.kpR HO222.out) hb); have n1_ := Kp.a (Kd.R_elder' (Kp.kpR HO225.out) (Kd.R_base ho86) hb); have n2_ := Kp.a (Kd.R_lower (Kd.R_new' ho86 (Kd.R_lt (Kp.kpR HO225.out))) (below_size (Kp.kpL HB.out))); have n3_ := Kp.a (below_step (Kp.kpL HB.out) hb); clear HO222; clear HO225; clear HB; have HO222 := n0_; have HO225 := n1_; have HO228 := n2_; have HB := n3_; clear n0_ n1_ n2_ n3_; clear hb ho86))
  go_ret3
  exact ⟨_, _, by first | rfl | (simp [errW_none, errW_some] <;> rfl) | (simp [*, errW_none, errW_some] <;> rfl), Kp.kpR (Kd.R_mono HO225.out (fun _ hk => hk.2)), Kp.kpR (Kd.R_mono HO228.out (fun _ hk => hk.2)), Kp.kpL HB.out⟩
 rw [if_pos c6] at H
 have c6b0 : (t220 == 0) = true := beq_iff_eq.mpr c6
 have c6b1 : (t220 != 0) = false := bne_eq_false_iff_eq.mpr c6
 clear c6
 obtain ⟨y229, hy229⟩ : ∃ y_ : List Int, y_ = (([] : List Int)) := ⟨_, rfl⟩
 replace H : (spec_Blocked.l0 k l0 l1 a2 a3 t219 y229 (l0.length : Int) 0) = some (r1, r2, r3) := by first | (rw [hy229]; with_reducible exact H) | (have H2_ := (Option.bind_some _ _).symm.trans H; rw [hy229]; with_reducible exact H2_) | (have H2_ := (Option.bind_some _ _).symm.trans H; with_reducible exact H2_) | with_reducible exact H | (rw [hy229]; exact H) | exact H
 have Ny229 := Kp.a hy229
 clear hy229
 have H' := Kp.a H
 clear H
 go_enter Try.func16, Try.ntmps16
 go_wp2_with (first | ((with_reducible refine gate_callee (f := 6) rfl ?_); refine goesL_ (some 26) rfl rfl Try.func6 (by kernel_rfl) rfl #[.slice A0 l0.length c0, .slice A1 l1.length c1, .int .i64 a2, .int .i64 a3] rfl (by (try simp only [List.map_toArray, List.map_cons, List.map_nil]); first | done | rfl | (simp only [List.length_drop, List.length_take]; rfl)) ?_; (with_reducible refine (spec_Matched.calls k _ _ l0 _ _ l1 a2 a3 t219 t220 _ ?side1 ?side2 ?side3 ?side4 A5.out).mono ?_); (case side1 => repeat (first | exact HR0.out | (with_reducible refine Kd.C_alloc ?_ _) | (with_reducible refine Kd.C_drewN ?_ _) | (with_reducible refine Kd.C_drew ?_))); (case side2 => exact HC0.out); (case side3 => repeat (first | exact HR1.out | (with_reducible refine Kd.C_alloc ?_ _) | (with_reducible refine Kd.C_drewN ?_ _) | (with_reducible refine Kd.C_drew ?_))); (case side4 => exact HC1.out); rintro e w7 ⟨v221, rfl, ho0, hb⟩; refine ⟨_, rfl, ?_⟩; have n0_ := Kp.a (Kd.R_lower ho0 (below_size (Kp.kpL HB.out))); have n1_ := Kp.a (below_step (Kp.kpL HB.out) hb); clear HB; have HO222 := n0_; have HB := n1_; clear n0_ n1_; (try clear hb); (try clear hb2); (try clear hk); (try clear hi); (try clear ho0)) | ((with_reducible refine gate_dst (N := 34) rfl ?_); refine Kd.R_lit (Kd.int .i64) _ 3 ?hg (N := 34) ?hd (xs := ([] : List Int)) (inner := []) (ok := fun _ => True) (okp := fun _ => True) ?hr ?hp (fun _ hk => hk) trivial (Below.refl _ _) (Nat.le_refl _) (by simp) ?_; (case hd => rfl); (case hg => rfl); (case hr => first | (go_simp; done) | (go_simp; rfl)); (case hp => exact (Reps.none _ _)); intro v230 w8 ho9 hb hg_ hnew_; clear hg_ hnew_; (first | rw [← Ny229.out] at ho9 | (simp only [Int.reduceToNat] at ho9; rw [← Ny229.out] at ho9)); have n0_ := Kp.a (Kd.R_below (Kp.kpR HO222.out) hb); have n1_ := Kp.a (Kd.R_lower ho9 (below_size (Kp.kpL HB.out))); have n2_ := Kp.a (below_step (Kp.kpL HB.out) hb); clear HO222; clear HB; have HO222 := n0_; have HO231 := n1_; have HB := n2_; clear n0_ n1_ n2_; clear hb ho9))
 go_loopg [13, 37] k (fun kq v13 v37 w' => ∃ (x13_1 : List Int) (x37_1 : Int), v37 = .int .i64 x37_1 ∧ Aside0 (spec_Blocked.l0 kq l0 l1 a2 a3 t219 x13_1 (l0.length : Int) x37_1 = some (r1, r2, r3)) ∧ Aside0 (kq ≤ k) ∧ Aside0 (Kd.R k37 37 w' w.heap.size (fun _ => True) v221 t219) ∧ Aside0 (Kd.R (Kd.int .i64) 3 w' w.heap.size (fun _ => True) v13 x13_1) ∧ Aside0 (Below w.heap.size w w'))
 case atStart => exact ⟨(y229), (0), (by first | rfl | (simp; done) | (simp [*]; done)), H', ⟨Nat.le_refl _⟩, ⟨Kp.kpR HO222.out⟩, ⟨Kp.kpR HO231.out⟩, ⟨Kp.kpL HB.out⟩⟩
 clear H'
 try clear c1
 try clear p2
 try clear c6
 try clear c6b0
 try clear c6b1
 obtain ⟨x13_1, x37_1, rfl, HA, HK1, HO_11, HO_13, HB⟩ := hrel
 cases gk with
 | zero => exact absurd HA.out (by simp [spec_Blocked.l0])
 | succ k1 =>
  have H := HA.out
  clear HA
  simp only [spec_Blocked.l0] at H
  by_cases c10 : x37_1 < (l0.length : Int)
  ·rw [if_pos c10] at H
   have c10b0 : decide (x37_1 < (l0.length : Int)) = true := decide_eq_true c10
   clear c10
   by_cases c11 : x13_1.length < 17592186044416
   rotate_left
   ·rw [if_neg c11] at H
    exact absurd H (by simp)
   rw [if_pos c11] at H
   have LMc11 := Kp.a c11
   clear c11
   obtain ⟨y232, hy232⟩ : ∃ y_ : List Int, y_ = (x13_1 ++ [(-1)]) := ⟨_, rfl⟩
   replace H : (spec_Blocked.l0 k1 l0 l1 a2 a3 t219 y232 (l0.length : Int) (wrap64 (x37_1 + 1))) = some (r1, r2, r3) := by first | (rw [hy232]; with_reducible exact H) | (have H2_ := (Option.bind_some _ _).symm.trans H; rw [hy232]; with_reducible exact H2_) | (have H2_ := (Option.bind_some _ _).symm.trans H; with_reducible exact H2_) | with_reducible exact H | (rw [hy232]; exact H) | exact H
   have Ny232 := Kp.a hy232
   clear hy232
   have H' := Kp.a H
   clear H
   go_wp2_with (first | ((with_reducible refine gate_builtin (b := .append) (xs := #[.tmp 39, .tmp 40]) rfl ?_); at_builtin; refine Kd.R_append (Kd.int .i64) (w0 := w) w.heap.size rfl (.tmp 39) (.tmp 40) 22 3 (.int .i64 0) 8 rfl Try.underlying22 info3 rfl (by decide) (by omega) u13 x13_1 (-1) [.int .i64 (-1)] (fun _ => True) (fun _ => False) rfl rfl ?aP (fun _ hk => hk.elim) ?aF ?aO ?aB ?aS ?aL ?_; (case aP => exact rfl); (case aB => exact (Kp.kpL HB.out)); (case aF => exact (fun _ _ => trivial)); (case aO => exact (Kp.kpR HO_13.out)); (case aS => exact (below_size (Kp.kpL HB.out))); (case aL => have := LMc11.out; omega); intro v233 w12 ho hb hg hat; rw [← Ny232.out] at ho; have n0_ := Kp.a (Kd.R_over' (Kp.kpR HO_11.out) (Kd.R_typed (Kp.kpR HO_13.out)) (by decide) hg); have n1_ := Kp.a (hb); have n2_ := Kp.a (ho); clear HO_11; clear HB; clear HO_13; have HO_11 := n0_; have HB := n1_; have HO234 := n2_; clear n0_ n1_ n2_; clear ho hb hg hat))
   go_roundg k1
   case measure => have := HK1.out; omega
   case rel => exact ⟨(y232), (wrap64 (x37_1 + 1)), (by first | rfl | (simp; done) | (simp [*]; done)), H', ⟨by have := HK1.out; omega⟩, ⟨Kp.kpR HO_11.out⟩, ⟨Kp.kpR HO234.out⟩, ⟨Kp.kpL HB.out⟩⟩
  rw [if_neg c10] at H
  have c10b0 : decide (x37_1 < (l0.length : Int)) = false := decide_eq_false c10
  clear c10
  have H' := Kp.a H
  clear H
  go_wp2
  go_loopg [14] k1 (fun kq v14 w' => ∃ (x13_2 : List Int) (x14_2 : Int), v14 = .int .i64 x14_2 ∧ Aside0 (spec_Blocked.l1 kq l0 l1 a2 a3 t219 x13_2 x14_2 = some (r1, r2, r3)) ∧ Aside0 (kq ≤ k1) ∧ Aside0 (Kd.R k37 37 w' w.heap.size (fun _ => True) v221 t219) ∧ Aside0 (Kd.R (Kd.int .i64) 3 w' w.heap.size (fun _ => True) u13 x13_2) ∧ Aside0 (Below w.heap.size w w'))
  case atStart => exact ⟨(x13_1), (0), (by first | rfl | (simp; done) | (simp [*]; done)), H', ⟨Nat.le_refl _⟩, ⟨Kp.kpR HO_11.out⟩, ⟨Kp.kpR HO_13.out⟩, ⟨Kp.kpL HB.out⟩⟩
  clear H'
  try clear c1
  try clear p2
  try clear c6
  try clear c6b0
  try clear c6b1
  try clear p6
  try clear c10
  try clear c10b0
  try clear c11
  try clear p2
  obtain ⟨x13_2, x14_2, rfl, HA, HK2, HO_11, HO_13, HB⟩ := hrel
  cases gk with
  | zero => exact absurd HA.out (by simp [spec_Blocked.l1])
  | succ k2 =>
   have H := HA.out
   clear HA
   simp only [spec_Blocked.l1] at H
   by_cases c13 : x14_2 < (t219.length : Int)
   ·rw [if_pos c13] at H
    have c13b0 : decide (x14_2 < (t219.length : Int)) = true := decide_eq_true c13
    clear c13
    by_cases c14 : 0 ≤ x14_2
    rotate_left
    ·rw [if_neg c14] at H
     exact absurd H (by simp)
    rw [if_pos c14] at H
    have c14b0 : decide (0 ≤ x14_2) = true := decide_eq_true c14
    clear c14
    by_cases c15 : 0 ≤ ((rd_T37 t219 x14_2).f0)
    rotate_left
    ·rw [if_neg c15] at H
     exact absurd H (by simp)
    rw [if_pos c15] at H
    have c15b0 : decide (0 ≤ ((rd_T37 t219 x14_2).f0)) = true := decide_eq_true c15
    clear c15
    by_cases c16 : ((rd_T37 t219 x14_2).f0) < (x13_2.length : Int)
    rotate_left
    ·rw [if_neg c16] at H
     exact absurd H (by simp)
    rw [if_pos c16] at H
    have c16b0 : decide (((rd_T37 t219 x14_2).f0) < (x13_2.length : Int)) = true := decide_eq_true c16
    clear c16
    obtain ⟨y237, hy237⟩ : ∃ y_ : List Int, y_ = (x13_2.set (((rd_T37 t219 x14_2).f0) : Int).toNat ((rd_T37 t219 x14_2).f1)) := ⟨_, rfl⟩
    replace H : (spec_Blocked.l1 k2 l0 l1 a2 a3 t219 y237 (wrap64 (x14_2 + 1))) = some (r1, r2, r3) := by first | (rw [hy237]; with_reducible exact H) | (have H2_ := (Option.bind_some _ _).symm.trans H; rw [hy237]; with_reducible exact H2_) | (have H2_ := (Option.bind_some _ _).symm.trans H; with_reducible exact H2_) | with_reducible exact H | (rw [hy237]; exact H) | exact H
    have Ny237 := Kp.a hy237
    clear hy237
    have H' := Kp.a H
    clear H
    obtain ⟨Ao18, co18, eo18⟩ := Kd.R_slice HO_11.out
    subst eo18
    try go_wp2
    have n0_ := Kp.a (Kd.R_drew HO_11.out)
    have n1_ := Kp.a (Kd.R_drew HO_13.out)
    have n2_ := Kp.a (below_drew1 HB.out)
    clear HO_11
    clear HO_13
    clear HB
    have HO_11 := n0_
    have HO_13 := n1_
    have HB := n2_
    clear n0_ n1_ n2_
    have p235 : 0 ≤ (x14_2 : Int) := Kp.d
    have q235 : x14_2 < (t219.length : Int) := Kp.d
    obtain ⟨ad235, e235, hx235_0, hx235_1⟩ := at_T37 (Kd.R_reads' HO_11.out).2.2 x14_2 p235 q235
    cases e235
    replace p235 := eq_true p235
    replace q235 := eq_true q235
    have p236 : 0 ≤ (x14_2 : Int) := Kp.d
    have q236 : x14_2 < (t219.length : Int) := Kp.d
    obtain ⟨ad236, e236, hx236_0, hx236_1⟩ := at_T37 (Kd.R_reads' HO_11.out).2.2 x14_2 p236 q236
    obtain rfl : ad235 = ad236 := (by injection e236)
    replace p236 := eq_true p236
    replace q236 := eq_true q236
    have p17 : 0 ≤ (((rd_T37 t219 x14_2).f0) : Int) := Kp.d
    have q17 : (((rd_T37 t219 x14_2).f0) : Int) < ((x13_2.length : Int) : Int) := Kp.d
    obtain ⟨go17, co17, eo17, gb17, gl17, cl17, HG17⟩ := Kd.R_form HO_13.out (by omega)
    (first | cases eo17 | (injection eo17 with ea_ en_ ec_; (first | subst ea_ | (injection ea_ with ea_; subst ea_)); subst ec_; clear en_))
    have GB17 := Kp.a gb17
    have GG17 := Kp.a HG17
    clear gb17 gl17 HG17
    obtain ⟨hx17_0, hf17_0⟩ := Kd.R_celln 0 HO_13.out (((rd_T37 t219 x14_2).f0) : Int) p17 q17
    replace p17 := eq_true p17
    replace q17 := eq_true q17
    have HP20 := Kd.R_putn HO_13.out (((rd_T37 t219 x14_2).f0) : Int) ((rd_T37 t219 x14_2).f1)
    rw [← Ny237.out] at HP20
    have HQ20 := Kp.a HP20
    clear HP20
    refine start_ (n := 13) (S := fun w' => w'.cell? (ad235.add ((x14_2).toNat * 2)) = some (.int .i64 ((rd_T37 t219 x14_2).f0)) ∧ w'.cell? ⟨(ad235.add ((x14_2).toNat * 2)).block, (ad235.add ((x14_2).toNat * 2)).off + 1, none⟩ = some (.int .i64 ((rd_T37 t219 x14_2).f1)) ∧ w'.cell? (ad235.add ((x14_2).toNat * 2)) = some (.int .i64 ((rd_T37 t219 x14_2).f0)) ∧ w'.cell? ⟨(ad235.add ((x14_2).toNat * 2)).block, (ad235.add ((x14_2).toNat * 2)).off + 1, none⟩ = some (.int .i64 ((rd_T37 t219 x14_2).f1))) (ds := [12]) #[false, false, false, false, false, false, false, false, false, false, false, false, false] (by kernel_rfl) rfl rfl ⟨hx235_0, hx235_1, hx236_0, hx236_1⟩ (fun hHeld => ?_); refine with_tabW spec_Blocked.tab12 spec_Blocked.bits12 (fun HT_ HW_ => ?_)
    generalize wr.drew = w19 at HO_11 HO_13 HB GG17 HQ20 hf17_0 hx17_0 hx235_0 hx235_1 hx236_0 hx236_1 hHeld ⊢
    refine pure_ (i := 0) (N := some 49) (v := ?_) (a' := ?_) #[true, false, false, false, false, false, false, false, false, false, false, false, false] rfl rfl (any_of HT_.out (by kernel_rfl)) (fun _ _ _ h => h) (Or.inl ⟨by rfl, ?_⟩) ?_ ?_
    rotate_left
    ·intro w'
     go_simp
     with_reducible rfl
    rotate_left
    ·simp only [Act.put, Kp.s0, Kp.s1, Kp.s2, i64_w, i32_w]
     rfl
    refine pure_ (i := 1) (N := some 50) (v := ?_) (a' := ?_) #[true, true, false, false, false, false, false, false, false, false, false, false, false] rfl rfl (any_of HT_.out (by kernel_rfl)) (fun _ _ _ h => h) (Or.inl ⟨by rfl, ?_⟩) ?_ ?_
    rotate_left
    ·intro w'
     go_simp
     with_reducible rfl
    rotate_left
    ·simp only [Act.put, Kp.s0, Kp.s1, Kp.s2, i64_w, i32_w]
     rfl
    refine pure_ (i := 2) (N := some 51) (v := ?_) (a' := ?_) #[true, true, true, false, false, false, false, false, false, false, false, false, false] rfl rfl (any_of HT_.out (by kernel_rfl)) (fun _ _ _ h => h) (Or.inl ⟨by rfl, ?_⟩) ?_ ?_
    rotate_left
    ·intro w'
     go_simp
     with_reducible rfl
    rotate_left
    ·simp only [Act.put, Kp.s0, Kp.s1, Kp.s2, i64_w, i32_w]
     rfl
    refine pure_ (i := 3) (N := some 52) (v := ?_) (a' := ?_) #[true, true, true, true, false, false, false, false, false, false, false, false, false] rfl rfl (any_of HT_.out (by kernel_rfl)) (fun _ _ _ h => h) (Or.inl ⟨by rfl, ?_⟩) ?_ ?_
    rotate_left
    ·intro w'
     go_simp
     with_reducible rfl
    rotate_left
    ·simp only [Act.put, Kp.s0, Kp.s1, Kp.s2, i64_w, i32_w]
     rfl
    refine pure_ (i := 4) (N := some 53) (v := ?_) (a' := ?_) #[true, true, true, true, true, false, false, false, false, false, false, false, false] rfl rfl (any_of HT_.out (by kernel_rfl)) (fun _ _ _ h => h) (Or.inl ⟨by rfl, ?_⟩) ?_ ?_
    rotate_left
    ·intro w'
     go_simp
     with_reducible rfl
    rotate_left
    ·simp only [Act.put, Kp.s0, Kp.s1, Kp.s2, i64_w, i32_w]
     rfl
    refine pure_ (i := 6) (N := some 55) (v := ?_) (a' := ?_) #[true, true, true, true, true, false, true, false, false, false, false, false, false] rfl rfl (any_of HT_.out (by kernel_rfl)) (fun _ _ _ h => h) (Or.inl ⟨by rfl, ?_⟩) ?_ ?_
    rotate_left
    ·intro w'
     go_simp
     with_reducible rfl
    rotate_left
    ·simp only [Act.put, Kp.s0, Kp.s1, Kp.s2, i64_w, i32_w]
     rfl
    refine pure_ (i := 7) (N := some 56) (v := ?_) (a' := ?_) #[true, true, true, true, true, false, true, true, false, false, false, false, false] rfl rfl (any_of HT_.out (by kernel_rfl)) (fun _ _ _ h => h) (Or.inl ⟨by rfl, ?_⟩) ?_ ?_
    rotate_left
    ·intro w'
     go_simp
     with_reducible rfl
    rotate_left
    ·simp only [Act.put, Kp.s0, Kp.s1, Kp.s2, i64_w, i32_w]
     rfl
    refine pure_ (i := 8) (N := some 57) (v := ?_) (a' := ?_) #[true, true, true, true, true, false, true, true, true, false, false, false, false] rfl rfl (any_of HT_.out (by kernel_rfl)) (fun _ _ _ h => h) (Or.inl ⟨by rfl, ?_⟩) ?_ ?_
    rotate_left
    ·intro w'
     go_simp
     with_reducible rfl
    rotate_left
    ·simp only [Act.put, Kp.s0, Kp.s1, Kp.s2, i64_w, i32_w]
     rfl
    refine pure_ (i := 9) (N := some 58) (v := ?_) (a' := ?_) #[true, true, true, true, true, false, true, true, true, true, false, false, false] rfl rfl (any_of HT_.out (by kernel_rfl)) (fun _ _ _ h => h) (Or.inl ⟨by rfl, ?_⟩) ?_ ?_
    rotate_left
    ·intro w'
     go_simp
     with_reducible rfl
    rotate_left
    ·simp only [Act.put, Kp.s0, Kp.s1, Kp.s2, i64_w, i32_w]
     rfl
    refine take_ (i := 5) (N := some 54) (v := ?_) (a' := ?_) #[true, true, true, true, true, true, true, true, true, true, false, false, false] rfl rfl (take_ofW HT_.out HW_.out (by kernel_rfl)) (fun _ _ _ h => h) (Or.inl ⟨by rfl, ?_⟩) hHeld ?_ ?_
    rotate_left
    ·rintro w' ⟨s0, s1, s2, s3⟩
     go_simp
     with_reducible rfl
    rotate_left
    ·simp only [Act.put, Kp.s0, Kp.s1, Kp.s2, i64_w, i32_w]
     rfl
    refine take_ (i := 10) (N := some 59) (v := ?_) (a' := ?_) #[true, true, true, true, true, true, true, true, true, true, true, false, false] rfl rfl (take_ofW HT_.out HW_.out (by kernel_rfl)) (fun _ _ _ h => h) (Or.inl ⟨by rfl, ?_⟩) hHeld ?_ ?_
    rotate_left
    ·rintro w' ⟨s0, s1, s2, s3⟩
     go_simp
     with_reducible rfl
    rotate_left
    ·simp only [Act.put, Kp.s0, Kp.s1, Kp.s2, i64_w, i32_w]
     rfl
    refine pure_ (i := 11) (N := some 60) (v := ?_) (a' := ?_) #[true, true, true, true, true, true, true, true, true, true, true, true, false] rfl rfl (any_of HT_.out (by kernel_rfl)) (fun _ _ _ h => h) (Or.inl ⟨by rfl, ?_⟩) ?_ ?_
    rotate_left
    ·intro w'
     go_simp
     with_reducible rfl
    rotate_left
    ·simp only [Act.put, Kp.s0, Kp.s1, Kp.s2, i64_w, i32_w]
     rfl
    refine last_ (i := 12) (N := none) #[true, true, true, true, true, true, true, true, true, true, true, true, true] rfl rfl (one_of HT_.out (by kernel_rfl)) (by decide) (fun K hK => ?_)
    refine skip_ (w1 := ?_) (by rfl) rfl ?_ ?_
    rotate_left
    ·go_simp
     rfl
    refine hK.out _ _ ?_
    clear hK K
    refine done_ (done_of HT_.out (by kernel_rfl)) ?_
    try go_wp2
    go_roundg k2
    case measure => have := HK1.out; have := HK2.out; omega
    case rel => exact ⟨(y237), (wrap64 (x14_2 + 1)), (by first | rfl | (simp; done) | (simp [*]; done)), H', ⟨by have := HK1.out; have := HK2.out; omega⟩, ⟨Kp.kpR (Kd.R_mono (Kd.R_far (p := ⟨go17, (((rd_T37 t219 x14_2).f0) : Int).toNat, none⟩) (Kd.R_types HO_11.out GG17.out (by decide)) (fun _ hk => hk.2) (.int .i64 ((rd_T37 t219 x14_2).f1))) (fun _ hk => trivial))⟩, ⟨Kp.kpR HQ20.out⟩, ⟨by repeat (first | (with_reducible first | exact HB.out | apply below_alloc | apply pw_below_drewN | apply below_drew1 | refine below_set ?_ GB17.out) | exact HB.out)⟩⟩
   rw [if_neg c13] at H
   have c13b0 : decide (x14_2 < (t219.length : Int)) = false := decide_eq_false c13
   clear c13
   by_cases c21 : 0 ≤ (l0.length : Int)
   rotate_left
   ·rw [if_neg c21] at H
    exact absurd H (by simp)
   rw [if_pos c21] at H
   have c21b0 := eq_true c21
   have c21b1 : decide (0 ≤ (l0.length : Int)) = true := decide_eq_true c21
   clear c21
   by_cases c22 : ((l0.length : Int) : Int).toNat ≤ 281474976710656
   rotate_left
   ·rw [if_neg c22] at H
    exact absurd H (by simp)
   rw [if_pos c22] at H
   have c22b0 := eq_true c22
   have c22b1 : decide (((l0.length : Int) : Int).toNat ≤ 281474976710656) = true := decide_eq_true c22
   clear c22
   obtain ⟨y238, hy238⟩ : ∃ y_ : List Bool, y_ = (List.replicate ((l0.length : Int) : Int).toNat false) := ⟨_, rfl⟩
   replace H : (if 0 ≤ (l1.length : Int) then (if ((l1.length : Int) : Int).toNat ≤ 281474976710656 then (spec_Blocked.l2 k2 l0 l1 a2 a3 x13_2 y238 (List.replicate ((l1.length : Int) : Int).toNat false) true) else (none)) else (none)) = some (r1, r2, r3) := by first | (rw [hy238]; with_reducible exact H) | (have H2_ := (Option.bind_some _ _).symm.trans H; rw [hy238]; with_reducible exact H2_) | (have H2_ := (Option.bind_some _ _).symm.trans H; with_reducible exact H2_) | with_reducible exact H | (rw [hy238]; exact H) | exact H
   have Ny238 := Kp.a hy238
   clear hy238
   by_cases c23 : 0 ≤ (l1.length : Int)
   rotate_left
   ·rw [if_neg c23] at H
    exact absurd H (by simp)
   rw [if_pos c23] at H
   have c23b0 := eq_true c23
   have c23b1 : decide (0 ≤ (l1.length : Int)) = true := decide_eq_true c23
   clear c23
   by_cases c24 : ((l1.length : Int) : Int).toNat ≤ 281474976710656
   rotate_left
   ·rw [if_neg c24] at H
    exact absurd H (by simp)
   rw [if_pos c24] at H
   have c24b0 := eq_true c24
   have c24b1 : decide (((l1.length : Int) : Int).toNat ≤ 281474976710656) = true := decide_eq_true c24
   clear c24
   obtain ⟨y241, hy241⟩ : ∃ y_ : List Bool, y_ = (List.replicate ((l1.length : Int) : Int).toNat false) := ⟨_, rfl⟩
   replace H : (spec_Blocked.l2 k2 l0 l1 a2 a3 x13_2 y238 y241 true) = some (r1, r2, r3) := by first | (rw [hy241]; with_reducible exact H) | (have H2_ := (Option.bind_some _ _).symm.trans H; rw [hy241]; with_reducible exact H2_) | (have H2_ := (Option.bind_some _ _).symm.trans H; with_reducible exact H2_) | with_reducible exact H | (rw [hy241]; exact H) | exact H
   have Ny241 := Kp.a hy241
   clear hy241
   have H' := Kp.a H
   clear H
   obtain ⟨Ao25, co25, eo25⟩ := Kd.R_slice HO_11.out
   subst eo25
   go_wp2_with (first | ((with_reducible refine gate_dst (N := 63) rfl ?_); refine Kd.R_make Kd.bool _ 4 rfl (N := 63) rfl 35 _ _ rfl (l0.length : Int) rfl rfl Try.underlying35 (.bool false) 1 info4 rfl (by decide) (by omega) false (ok := fun _ => True) (okp := fun _ => True) rfl (fun _ hk => hk) trivial (Kp.d) (Nat.le_trans (Nat.mul_le_mul_right _ (Kp.d : (l0.length : Int).toNat ≤ 281474976710656)) (by omega)) (Below.refl _ _) (Nat.le_refl _) ?_; intro v239 w26 ho27 hb hg_ hnew_; clear hg_ hnew_; (first | rw [← Ny238.out] at ho27 | (simp only [Int.reduceToNat] at ho27; rw [← Ny238.out] at ho27)); have n0_ := Kp.a (Kd.R_below (Kp.kpR HO_11.out) hb); have n1_ := Kp.a (Kd.R_below (Kp.kpR HO_13.out) hb); have n2_ := Kp.a (Kd.R_lower ho27 (below_size (Kp.kpL HB.out))); have n3_ := Kp.a (below_step (Kp.kpL HB.out) hb); clear HO_11; clear HO_13; clear HB; have HO_11 := n0_; have HO_13 := n1_; have HO240 := n2_; have HB := n3_; clear n0_ n1_ n2_ n3_; clear hb ho27) | ((with_reducible refine gate_dst (N := 66) rfl ?_); refine Kd.R_make Kd.bool _ 4 rfl (N := 66) rfl 35 _ _ rfl (l1.length : Int) rfl rfl Try.underlying35 (.bool false) 1 info4 rfl (by decide) (by omega) false (ok := fun _ => True) (okp := fun _ => True) rfl (fun _ hk => hk) trivial (Kp.d) (Nat.le_trans (Nat.mul_le_mul_right _ (Kp.d : (l1.length : Int).toNat ≤ 281474976710656)) (by omega)) (Below.refl _ _) (Nat.le_refl _) ?_; intro v242 w28 ho29 hb hg_ hnew_; clear hg_ hnew_; (first | rw [← Ny241.out] at ho29 | (simp only [Int.reduceToNat] at ho29; rw [← Ny241.out] at ho29)); have n0_ := Kp.a (Kd.R_below (Kp.kpR HO_11.out) hb); have n1_ := Kp.a (Kd.R_below (Kp.kpR HO_13.out) hb); have n2_ := Kp.a (Kd.R_elder' (Kp.kpR HO240.out) (Kd.R_base ho29) hb); have n3_ := Kp.a (Kd.R_lower (Kd.R_new' ho29 (Kd.R_lt (Kp.kpR HO240.out))) (below_size (Kp.kpL HB.out))); have n4_ := Kp.a (below_step (Kp.kpL HB.out) hb); clear HO_11; clear HO_13; clear HO240; clear HB; have HO_11 := n0_; have HO_13 := n1_; have HO240 := n2_; have HO243 := n3_; have HB := n4_; clear n0_ n1_ n2_ n3_ n4_; clear hb ho29))
   go_loopg [17] k2 (fun kq v17 w' => ∃ (x15_3 : List Bool) (x16_3 : List Bool) (x17_3 : Bool), v17 = .bool x17_3 ∧ Aside0 (spec_Blocked.l2 kq l0 l1 a2 a3 x13_2 x15_3 x16_3 x17_3 = some (r1, r2, r3)) ∧ Aside0 (kq ≤ k2) ∧ Aside0 (Kd.R (Kd.int .i64) 3 w' w.heap.size (fun _ => True) u13 x13_2) ∧ Aside0 (Kd.R Kd.bool 4 w' w.heap.size (fun k_ => some k_ ≠ (v242 : Value).ownBlock) v239 x15_3) ∧ Aside0 (Kd.R Kd.bool 4 w' w.heap.size (fun k_ => some k_ ≠ (v239 : Value).ownBlock) v242 x16_3) ∧ Aside0 (Below w.heap.size w w'))
   case atStart => exact ⟨(y238), (y241), (true), (by first | rfl | (simp; done) | (simp [*]; done)), H', ⟨Nat.le_refl _⟩, ⟨Kp.kpR HO_13.out⟩, ⟨Kp.kpR (Kd.R_mono HO240.out (fun _ hk => hk.2))⟩, ⟨Kp.kpR (Kd.R_mono HO243.out (fun _ hk => hk.2))⟩, ⟨Kp.kpL HB.out⟩⟩
   clear H'
   try clear c1
   try clear p1
   try clear q1
   try clear hx1
   try clear c2
   try clear p2
   try clear q2
   try clear hx2
   try clear c6
   try clear c6b0
   try clear c6b1
   try clear p6
   try clear c10
   try clear c10b0
   try clear c11
   try clear c13
   try clear c13b0
   try clear c14
   try clear c14b0
   try clear c15
   try clear c15b0
   try clear c16
   try clear c16b0
   try clear p17
   try clear q17
   try clear hx17
   try clear hf17
   try clear c21
   try clear c21b0
   try clear c21b1
   try clear c22
   try clear c22b0
   try clear c22b1
   try clear c23
   try clear c23b0
   try clear c23b1
   try clear p23
   try clear q23
   try clear hx23
   try clear c24
   try clear c24b0
   try clear c24b1
   try clear hx17_0
   try clear hx235_0
   try clear hx235_1
   try clear hx236_0
   try clear hx236_1
   try clear p17
   try clear p2
   try clear p235
   try clear p236
   try clear p6
   try clear q17
   try clear q235
   try clear q236
   obtain ⟨x15_3, x16_3, x17_3, rfl, HA, HK3, HO_13, HO_15, HO_16, HB⟩ := hrel
   cases gk with
   | zero => exact absurd HA.out (by simp [spec_Blocked.l2])
   | succ k3 =>
    have H := HA.out
    clear HA
    simp only [spec_Blocked.l2] at H
    by_cases c30 : x17_3 = true
    rotate_left
    ·replace c30 := Bool.eq_false_iff.mpr c30
     subst c30
     have H1 : ((spec_l08Told.f k3 x15_3).bind fun t244 => ((spec_l08Told.f k3 x16_3).bind fun t247 => (some (t244, t247, 0)))) = some (r1, r2, r3) := by rw [if_neg (show ¬ (false = true) by decide)] at H; exact H
     clear H
     have H := H1
     clear H1
     replace H := Option.bind_eq_some_iff.mp H
     obtain ⟨t244, A760, H⟩ := H
     replace H : ((spec_l08Told.f k3 x16_3).bind fun t247 => (some (t244, t247, 0))) = some (r1, r2, r3) := H
     have A76 := Kp.a A760
     clear A760
     replace H := Option.bind_eq_some_iff.mp H
     obtain ⟨t247, A770, H⟩ := H
     replace H : (some (t244, t247, 0)) = some (r1, r2, r3) := H
     have A77 := Kp.a A770
     clear A770
     simp only [Option.some.injEq, Prod.mk.injEq] at H
     obtain ⟨rfl, rfl, rfl⟩ := H
     obtain ⟨Ao78, co78, eo78⟩ := Kd.R_slice HO_15.out
     subst eo78
     go_wp2_with (first | ((with_reducible refine gate_callee (f := 26) rfl ?_); refine goesL_ (some 131) rfl rfl Try.func26 (by kernel_rfl) rfl #[.slice Ao78 x15_3.length co78] rfl (by (try simp only [List.map_toArray, List.map_cons, List.map_nil]); first | done | rfl | (simp only [List.length_drop, List.length_take]; rfl)) ?_; (with_reducible refine (spec_l08Told.calls k3 _ _ x15_3 t244 _ ?side1 ?side2 A76.out).mono ?_); (case side1 => repeat (first | exact (Kd.R_reads' HO_15.out).2.2 | (with_reducible refine Kd.C_alloc ?_ _) | (with_reducible refine Kd.C_drewN ?_ _) | (with_reducible refine Kd.C_drew ?_))); (case side2 => exact (Kd.R_reads' HO_15.out).2.1); rintro e w79 ⟨v245, rfl, ho0, hb⟩; refine ⟨_, rfl, ?_⟩; have n0_ := Kp.a (Kd.R_elder' (Kp.kpR HO_13.out) (Kd.R_base ho0) hb); have n1_ := Kp.a (Kd.R_below (Kp.kpR HO_15.out) hb); have n2_ := Kp.a (Kd.R_below (Kp.kpR HO_16.out) hb); have n3_ := Kp.a (Kd.R_lower (Kd.R_new' ho0 (Kd.R_lt (Kp.kpR HO_13.out))) (below_size (Kp.kpL HB.out))); have n4_ := Kp.a (below_step (Kp.kpL HB.out) hb); clear HO_13; clear HO_15; clear HO_16; clear HB; have HO_13 := n0_; have HO_15 := n1_; have HO_16 := n2_; have HO246 := n3_; have HB := n4_; clear n0_ n1_ n2_ n3_ n4_; (try clear hb); (try clear hb2); (try clear hk); (try clear hi); (try clear ho0); obtain ⟨Ao80, co80, eo80⟩ := Kd.R_slice HO_16.out; subst eo80) | ((with_reducible refine gate_callee (f := 26) rfl ?_); refine goesL_ (some 133) rfl rfl Try.func26 (by kernel_rfl) rfl #[.slice Ao80 x16_3.length co80] rfl (by (try simp only [List.map_toArray, List.map_cons, List.map_nil]); first | done | rfl | (simp only [List.length_drop, List.length_take]; rfl)) ?_; (with_reducible refine (spec_l08Told.calls k3 _ _ x16_3 t247 _ ?side1 ?side2 A77.out).mono ?_); (case side1 => repeat (first | exact (Kd.R_reads' HO_16.out).2.2 | (with_reducible refine Kd.C_alloc ?_ _) | (with_reducible refine Kd.C_drewN ?_ _) | (with_reducible refine Kd.C_drew ?_))); (case side2 => exact (Kd.R_reads' HO_16.out).2.1); rintro e w81 ⟨v248, rfl, ho0, hb⟩; refine ⟨_, rfl, ?_⟩; have n0_ := Kp.a (Kd.R_elder' (Kp.kpR HO_13.out) (Kd.R_base ho0) hb); have n1_ := Kp.a (Kd.R_below (Kp.kpR HO_15.out) hb); have n2_ := Kp.a (Kd.R_below (Kp.kpR HO_16.out) hb); have n3_ := Kp.a (Kd.R_elder' (Kp.kpR HO246.out) (Kd.R_base ho0) hb); have n4_ := Kp.a (Kd.R_lower (Kd.R_new' (Kd.R_new' ho0 (Kd.R_lt (Kp.kpR HO_13.out))) (Kd.R_lt (Kp.kpR HO246.out))) (below_size (Kp.kpL HB.out))); have n5_ := Kp.a (below_step (Kp.kpL HB.out) hb); clear HO_13; clear HO_15; clear HO_16; clear HO246; clear HB; have HO_13 := n0_; have HO_15 := n1_; have HO_16 := n2_; have HO246 := n3_; have HO249 := n4_; have HB := n5_; clear n0_ n1_ n2_ n3_ n4_ n5_; (try clear hb); (try clear hb2); (try clear hk); (try clear hi); (try clear ho0)))
     go_ret3
     exact ⟨_, _, by first | rfl | (simp [errW_none, errW_some] <;> rfl) | (simp [*, errW_none, errW_some] <;> rfl), Kp.kpR (Kd.R_mono HO246.out (fun _ hk => hk.2)), Kp.kpR (Kd.R_mono HO249.out (fun _ hk => hk.2)), Kp.kpL HB.out⟩
    subst c30
    have H1 : (spec_Blocked.l3 k3 l0 l1 a2 a3 x13_2 x15_3 x16_3 false 0) = some (r1, r2, r3) := by rw [if_pos rfl] at H; exact H
    clear H
    have H := H1
    clear H1
    have H' := Kp.a H
    clear H
    go_wp2
    go_loopg [17, 18] k3 (fun kq v17 v18 w' => ∃ (x15_4 : List Bool) (x16_4 : List Bool) (x17_4 : Bool) (x18_4 : Int), v17 = .bool x17_4 ∧ v18 = .int .i64 x18_4 ∧ Aside0 (spec_Blocked.l3 kq l0 l1 a2 a3 x13_2 x15_4 x16_4 x17_4 x18_4 = some (r1, r2, r3)) ∧ Aside0 (kq ≤ k3) ∧ Aside0 (Kd.R (Kd.int .i64) 3 w' w.heap.size (fun _ => True) u13 x13_2) ∧ Aside0 (Kd.R Kd.bool 4 w' w.heap.size (fun k_ => some k_ ≠ (v242 : Value).ownBlock) v239 x15_4) ∧ Aside0 (Kd.R Kd.bool 4 w' w.heap.size (fun k_ => some k_ ≠ (v239 : Value).ownBlock) v242 x16_4) ∧ Aside0 (Below w.heap.size w w'))
    case atStart => exact ⟨(x15_3), (x16_3), (false), (0), (by first | rfl | (simp; done) | (simp [*]; done)), (by first | rfl | (simp; done) | (simp [*]; done)), H', ⟨Nat.le_refl _⟩, ⟨Kp.kpR HO_13.out⟩, ⟨Kp.kpR HO_15.out⟩, ⟨Kp.kpR HO_16.out⟩, ⟨Kp.kpL HB.out⟩⟩
    clear H'
    try clear c1
    try clear p1
    try clear q1
    try clear hx1
    try clear c2
    try clear p2
    try clear q2
    try clear hx2
    try clear c3
    try clear c6
    try clear c6b0
    try clear c6b1
    try clear p6
    try clear c10
    try clear c10b0
    try clear c11
    try clear c13
    try clear c13b0
    try clear c14
    try clear c14b0
    try clear c15
    try clear c15b0
    try clear c16
    try clear c16b0
    try clear p17
    try clear q17
    try clear hx17
    try clear hf17
    try clear c21
    try clear c21b0
    try clear c21b1
    try clear c22
    try clear c22b0
    try clear c22b1
    try clear c23
    try clear c23b0
    try clear c23b1
    try clear p23
    try clear q23
    try clear hx23
    try clear c24
    try clear c24b0
    try clear c24b1
    try clear c30
    try clear hx17_0
    try clear hx235_0
    try clear hx235_1
    try clear hx236_0
    try clear hx236_1
    try clear p1
    try clear p17
    try clear p2
    try clear p23
    try clear p235
    try clear p236
    try clear p6
    try clear q1
    try clear q17
    try clear q2
    try clear q23
    try clear q235
    try clear q236
    obtain ⟨x15_4, x16_4, x17_4, x18_4, rfl, rfl, HA, HK4, HO_13, HO_15, HO_16, HB⟩ := hrel
    cases gk with
    | zero => exact absurd HA.out (by simp [spec_Blocked.l3])
    | succ k4 =>
     have H := HA.out
     clear HA
     simp only [spec_Blocked.l3] at H
     by_cases c31 : x18_4 < (l0.length : Int)
     rotate_left
     ·rw [if_neg c31] at H
      have c31b0 : decide (x18_4 < (l0.length : Int)) = false := decide_eq_false c31
      clear c31
      have H' := Kp.a H
      clear H
      go_wp2
      go_roundg k4
      case measure => have := HK1.out; have := HK2.out; have := HK3.out; have := HK4.out; omega
      case rel => exact ⟨(x15_4), (x16_4), (x17_4), (by first | rfl | (simp; done) | (simp [*]; done)), H', ⟨by have := HK1.out; have := HK2.out; have := HK3.out; have := HK4.out; omega⟩, ⟨Kp.kpR HO_13.out⟩, ⟨Kp.kpR HO_15.out⟩, ⟨Kp.kpR HO_16.out⟩, ⟨Kp.kpL HB.out⟩⟩
     rw [if_pos c31] at H
     have c31b0 : decide (x18_4 < (l0.length : Int)) = true := decide_eq_true c31
     clear c31
     have HC32 := Kp.a H
     clear H
     go_upto_region 21 with (fail)
     go_cut [94] (fun v94 wc => ∃ (kq : Nat) (x94_31 : Bool), v94 = .bool x94_31 ∧ Aside0 (spec_Blocked.j4 kq l0 l1 a2 a3 x13_2 x15_4 x16_4 x17_4 x18_4 x94_31 = some (r1, r2, r3)) ∧ Aside0 (kq ≤ k4) ∧ Aside0 (Kd.R (Kd.int .i64) 3 wc w.heap.size (fun _ => True) u13 x13_2) ∧ Aside0 (Kd.R Kd.bool 4 wc w.heap.size (fun k_ => some k_ ≠ (v242 : Value).ownBlock) v239 x15_4) ∧ Aside0 (Kd.R Kd.bool 4 wc w.heap.size (fun k_ => some k_ ≠ (v239 : Value).ownBlock) v242 x16_4) ∧ Aside0 (Below w.heap.size w wc))
     case first =>
      have H := HC32.out
      clear HC32
      by_cases c33 : 0 ≤ x18_4
      rotate_left
      ·rw [if_neg c33] at H
       exact absurd H (by simp)
      rw [if_pos c33] at H
      have c33b0 : decide (0 ≤ x18_4) = true := decide_eq_true c33
      clear c33
      (first | rw [c33b0] | (simp only [i64_w, i32_w]; rw [c33b0]) | skip)
      by_cases c34 : x18_4 < (x15_4.length : Int)
      rotate_left
      ·rw [if_neg c34] at H
       exact absurd H (by simp)
      rw [if_pos c34] at H
      have c34b0 : decide (x18_4 < (x15_4.length : Int)) = true := decide_eq_true c34
      clear c34
      obtain ⟨bq35, hbq35⟩ : ∃ b_ : Bool, b_ = (rdOf false x15_4 x18_4) := ⟨_, rfl⟩
      replace H : (if bq35 = true then (spec_Blocked.j4 k4 l0 l1 a2 a3 x13_2 x15_4 x16_4 x17_4 x18_4 true) else (if x18_4 < (x13_2.length : Int) then (if (rd x13_2 x18_4) ≥ 0 then (if 0 ≤ (rd x13_2 x18_4) then (if (rd x13_2 x18_4) < (x16_4.length : Int) then (spec_Blocked.j4 k4 l0 l1 a2 a3 x13_2 x15_4 x16_4 x17_4 x18_4 (!(rdOf false x16_4 (rd x13_2 x18_4)))) else (none)) else (none)) else (spec_Blocked.j4 k4 l0 l1 a2 a3 x13_2 x15_4 x16_4 x17_4 x18_4 false)) else (none))) = some (r1, r2, r3) := by rw [← hbq35] at H; exact H
      have Nbq35 := Kp.a hbq35
      clear hbq35
      by_cases c36 : bq35 = true
      ·subst c36
       have H1 : (spec_Blocked.j4 k4 l0 l1 a2 a3 x13_2 x15_4 x16_4 x17_4 x18_4 true) = some (r1, r2, r3) := by rw [if_pos rfl] at H; exact H
       clear H
       have H := H1
       clear H1
       have H' := Kp.a H
       clear H
       obtain ⟨Ao37, co37, eo37⟩ := Kd.R_slice HO_15.out
       subst eo37
       have p250 : 0 ≤ (x18_4 : Int) := Kp.d
       have q250 : x18_4 < (x15_4.length : Int) := Kp.d
       obtain ⟨ad250, e250, hx250_0⟩ := Kd.at_bool (Kd.R_reads' HO_15.out).2.2 x18_4 p250 q250
       (try rw [← Nbq35.out] at hx250_0)
       cases e250
       replace p250 := eq_true p250
       replace q250 := eq_true q250
       go_wp2
       go_meet
       case rel => exact ⟨_, (true), (by first | rfl | (simp; done) | (simp [*]; done)), H', ⟨by have := HK1.out; have := HK2.out; have := HK3.out; have := HK4.out; first | omega | exact Nat.le_refl _⟩, ⟨Kp.kpR HO_13.out⟩, ⟨Kp.kpR HO_15.out⟩, ⟨Kp.kpR HO_16.out⟩, ⟨Kp.kpL HB.out⟩⟩
      replace c36 := Bool.eq_false_iff.mpr c36
      subst c36
      have H1 : (if x18_4 < (x13_2.length : Int) then (if (rd x13_2 x18_4) ≥ 0 then (if 0 ≤ (rd x13_2 x18_4) then (if (rd x13_2 x18_4) < (x16_4.length : Int) then (spec_Blocked.j4 k4 l0 l1 a2 a3 x13_2 x15_4 x16_4 x17_4 x18_4 (!(rdOf false x16_4 (rd x13_2 x18_4)))) else (none)) else (none)) else (spec_Blocked.j4 k4 l0 l1 a2 a3 x13_2 x15_4 x16_4 x17_4 x18_4 false)) else (none)) = some (r1, r2, r3) := by rw [if_neg (show ¬ (false = true) by decide)] at H; exact H
      clear H
      have H := H1
      clear H1
      by_cases c38 : x18_4 < (x13_2.length : Int)
      rotate_left
      ·rw [if_neg c38] at H
       exact absurd H (by simp)
      rw [if_pos c38] at H
      have c38b0 : decide (x18_4 < (x13_2.length : Int)) = true := decide_eq_true c38
      clear c38
      by_cases c39 : (rd x13_2 x18_4) ≥ 0
      rotate_left
      ·rw [if_neg c39] at H
       have c39b0 : decide (0 ≤ (rd x13_2 x18_4)) = false := decide_eq_false c39
       clear c39
       have H' := Kp.a H
       clear H
       obtain ⟨Ao45, co45, eo45⟩ := Kd.R_slice HO_15.out
       subst eo45
       have p250 : 0 ≤ (x18_4 : Int) := Kp.d
       have q250 : x18_4 < (x15_4.length : Int) := Kp.d
       obtain ⟨ad250, e250, hx250_0⟩ := Kd.at_bool (Kd.R_reads' HO_15.out).2.2 x18_4 p250 q250
       (try rw [← Nbq35.out] at hx250_0)
       cases e250
       replace p250 := eq_true p250
       replace q250 := eq_true q250
       obtain ⟨Ao46, co46, eo46⟩ := Kd.R_slice HO_13.out
       subst eo46
       have p251 : 0 ≤ (x18_4 : Int) := Kp.d
       have q251 : x18_4 < (x13_2.length : Int) := Kp.d
       obtain ⟨ad251, e251, hx251_0⟩ := Kd.at_int (Kd.R_reads' HO_13.out).2.2 x18_4 p251 q251
       cases e251
       replace p251 := eq_true p251
       replace q251 := eq_true q251
       go_wp2
       go_meet
       case rel => exact ⟨_, (false), (by first | rfl | (simp; done) | (simp [*]; done)), H', ⟨by have := HK1.out; have := HK2.out; have := HK3.out; have := HK4.out; first | omega | exact Nat.le_refl _⟩, ⟨Kp.kpR HO_13.out⟩, ⟨Kp.kpR HO_15.out⟩, ⟨Kp.kpR HO_16.out⟩, ⟨Kp.kpL HB.out⟩⟩
      rw [if_pos c39] at H
      have c39b0 : decide (0 ≤ (rd x13_2 x18_4)) = true := decide_eq_true c39
      clear c39
      by_cases c40 : 0 ≤ (rd x13_2 x18_4)
      rotate_left
      ·rw [if_neg c40] at H
       exact absurd H (by simp)
      rw [if_pos c40] at H
      have c40b0 : decide (0 ≤ (rd x13_2 x18_4)) = true := decide_eq_true c40
      clear c40
      by_cases c41 : (rd x13_2 x18_4) < (x16_4.length : Int)
      rotate_left
      ·rw [if_neg c41] at H
       exact absurd H (by simp)
      rw [if_pos c41] at H
      have c41b0 : decide ((rd x13_2 x18_4) < (x16_4.length : Int)) = true := decide_eq_true c41
      clear c41
      have H' := Kp.a H
      clear H
      obtain ⟨Ao42, co42, eo42⟩ := Kd.R_slice HO_15.out
      subst eo42
      have p250 : 0 ≤ (x18_4 : Int) := Kp.d
      have q250 : x18_4 < (x15_4.length : Int) := Kp.d
      obtain ⟨ad250, e250, hx250_0⟩ := Kd.at_bool (Kd.R_reads' HO_15.out).2.2 x18_4 p250 q250
      (try rw [← Nbq35.out] at hx250_0)
      cases e250
      replace p250 := eq_true p250
      replace q250 := eq_true q250
      obtain ⟨Ao43, co43, eo43⟩ := Kd.R_slice HO_13.out
      subst eo43
      have p251 : 0 ≤ (x18_4 : Int) := Kp.d
      have q251 : x18_4 < (x13_2.length : Int) := Kp.d
      obtain ⟨ad251, e251, hx251_0⟩ := Kd.at_int (Kd.R_reads' HO_13.out).2.2 x18_4 p251 q251
      cases e251
      replace p251 := eq_true p251
      replace q251 := eq_true q251
      have p252 : 0 ≤ (x18_4 : Int) := Kp.d
      have q252 : x18_4 < (x13_2.length : Int) := Kp.d
      obtain ⟨ad252, e252, hx252_0⟩ := Kd.at_int (Kd.R_reads' HO_13.out).2.2 x18_4 p252 q252
      obtain rfl : ad251 = ad252 := (by injection e252)
      replace p252 := eq_true p252
      replace q252 := eq_true q252
      obtain ⟨Ao44, co44, eo44⟩ := Kd.R_slice HO_16.out
      subst eo44
      have p253 : 0 ≤ ((rd x13_2 x18_4) : Int) := Kp.d
      have q253 : (rd x13_2 x18_4) < (x16_4.length : Int) := Kp.d
      obtain ⟨ad253, e253, hx253_0⟩ := Kd.at_bool (Kd.R_reads' HO_16.out).2.2 (rd x13_2 x18_4) p253 q253
      (try rw [← Nbq35.out] at hx253_0)
      cases e253
      replace p253 := eq_true p253
      replace q253 := eq_true q253
      go_wp2
      go_meet
      case rel => exact ⟨_, (!(rdOf false x16_4 (rd x13_2 x18_4))), (by first | rfl | (simp; done) | (simp [*]; done)), H', ⟨by have := HK1.out; have := HK2.out; have := HK3.out; have := HK4.out; first | omega | exact Nat.le_refl _⟩, ⟨Kp.kpR HO_13.out⟩, ⟨Kp.kpR HO_15.out⟩, ⟨Kp.kpR HO_16.out⟩, ⟨Kp.kpL HB.out⟩⟩
     clear HC32
     try clear c1
     try clear p1
     try clear q1
     try clear hx1
     try clear c2
     try clear p2
     try clear q2
     try clear hx2
     try clear c3
     try clear q3
     try clear c4
     try clear c6
     try clear c6b0
     try clear c6b1
     try clear p6
     try clear c10
     try clear c10b0
     try clear c11
     try clear c13
     try clear c13b0
     try clear c14
     try clear c14b0
     try clear c15
     try clear c15b0
     try clear c16
     try clear c16b0
     try clear p17
     try clear q17
     try clear hx17
     try clear hf17
     try clear c21
     try clear c21b0
     try clear c21b1
     try clear c22
     try clear c22b0
     try clear c22b1
     try clear c23
     try clear c23b0
     try clear c23b1
     try clear p23
     try clear q23
     try clear hx23
     try clear c24
     try clear c24b0
     try clear c24b1
     try clear p25
     try clear q25
     try clear hx25
     try clear c30
     try clear c31
     try clear c31b0
     try clear c33
     try clear c33b0
     try clear c34
     try clear c34b0
     try clear q35
     try clear c36
     try clear c38
     try clear c38b0
     try clear c39
     try clear c39b0
     try clear c40
     try clear c40b0
     try clear c41
     try clear c41b0
     try clear hx17_0
     try clear hx235_0
     try clear hx235_1
     try clear hx236_0
     try clear hx236_1
     try clear hx250_0
     try clear hx251_0
     try clear hx252_0
     try clear hx253_0
     try clear p1
     try clear p17
     try clear p2
     try clear p23
     try clear p235
     try clear p236
     try clear p250
     try clear p251
     try clear p252
     try clear p253
     try clear p6
     try clear q1
     try clear q17
     try clear q2
     try clear q23
     try clear q235
     try clear q236
     try clear q250
     try clear q251
     try clear q252
     try clear q253
     obtain ⟨kq, x94_31, rfl, HA, HJ31, HO_13, HO_15, HO_16, HB⟩ := hcut
     cases kq with
     | zero => exact absurd HA.out (by simp [spec_Blocked.j4])
     | succ kj31 =>
      have H := HA.out
      clear HA
      simp only [spec_Blocked.j4] at H
      by_cases c47 : x94_31 = true
      ·subst c47
       have H1 : (spec_Blocked.l3 kj31 l0 l1 a2 a3 x13_2 x15_4 x16_4 x17_4 (wrap64 (x18_4 + 1))) = some (r1, r2, r3) := by rw [if_pos rfl] at H; exact H
       clear H
       have H := H1
       clear H1
       have H' := Kp.a H
       clear H
       go_wp2
       go_roundg kj31
       case measure => have := HK1.out; have := HK2.out; have := HK3.out; have := HK4.out; have := HJ31.out; omega
       case rel => exact ⟨(x15_4), (x16_4), (x17_4), (wrap64 (x18_4 + 1)), (by first | rfl | (simp; done) | (simp [*]; done)), (by first | rfl | (simp; done) | (simp [*]; done)), H', ⟨by have := HK1.out; have := HK2.out; have := HK3.out; have := HK4.out; have := HJ31.out; omega⟩, ⟨Kp.kpR HO_13.out⟩, ⟨Kp.kpR HO_15.out⟩, ⟨Kp.kpR HO_16.out⟩, ⟨Kp.kpL HB.out⟩⟩
      replace c47 := Bool.eq_false_iff.mpr c47
      subst c47
      have H1 : (if 0 ≤ x18_4 then (if x18_4 < (x15_4.length : Int) then (spec_Blocked.l4 kj31 l0 l1 a2 a3 x13_2 (x15_4.set (x18_4 : Int).toNat true) x16_4 true x18_4 0) else (none)) else (none)) = some (r1, r2, r3) := by rw [if_neg (show ¬ (false = true) by decide)] at H; exact H
      clear H
      have H := H1
      clear H1
      by_cases c48 : 0 ≤ x18_4
      rotate_left
      ·rw [if_neg c48] at H
       exact absurd H (by simp)
      rw [if_pos c48] at H
      have c48b0 : decide (0 ≤ x18_4) = true := decide_eq_true c48
      clear c48
      by_cases c49 : x18_4 < (x15_4.length : Int)
      rotate_left
      ·rw [if_neg c49] at H
       exact absurd H (by simp)
      rw [if_pos c49] at H
      have c49b0 : decide (x18_4 < (x15_4.length : Int)) = true := decide_eq_true c49
      clear c49
      obtain ⟨y254, hy254⟩ : ∃ y_ : List Bool, y_ = (x15_4.set (x18_4 : Int).toNat true) := ⟨_, rfl⟩
      replace H : (spec_Blocked.l4 kj31 l0 l1 a2 a3 x13_2 y254 x16_4 true x18_4 0) = some (r1, r2, r3) := by first | (rw [hy254]; with_reducible exact H) | (have H2_ := (Option.bind_some _ _).symm.trans H; rw [hy254]; with_reducible exact H2_) | (have H2_ := (Option.bind_some _ _).symm.trans H; with_reducible exact H2_) | with_reducible exact H | (rw [hy254]; exact H) | exact H
      have Ny254 := Kp.a hy254
      clear hy254
      have H' := Kp.a H
      clear H
      have p50 : 0 ≤ (x18_4 : Int) := Kp.d
      have q50 : (x18_4 : Int) < ((x15_4.length : Int) : Int) := Kp.d
      obtain ⟨go50, co50, eo50, gb50, gl50, cl50, HG50⟩ := Kd.R_form HO_15.out (by omega)
      (first | cases eo50 | (injection eo50 with ea_ en_ ec_; (first | subst ea_ | (injection ea_ with ea_; subst ea_)); subst ec_; clear en_))
      have GB50 := Kp.a gb50
      have GG50 := Kp.a HG50
      clear gb50 gl50 HG50
      obtain ⟨hx50_0, hf50_0⟩ := Kd.R_celln false HO_15.out (x18_4 : Int) p50 q50
      replace p50 := eq_true p50
      replace q50 := eq_true q50
      have HP51 := Kd.R_putg HO_15.out (x18_4 : Int) true
      go_wp2_with (first | ((with_reducible refine gate_store (t := 4) (p := 97) rfl ?_); refine store_event (t := 4) (p := 97) (v := ?vo_w52) (w1 := (wc.setCell ⟨go50, (x18_4 : Int).toNat, none⟩ (.bool true))) ?hg ?ho ?hn ?hr ?_; (case ho => rfl); (case hg => rfl); (case hn => rfl); (case hr => first | (go_simp; done) | (go_simp; rfl)); intro w52 hw; have hg : wc.grownBy w52 (some go50) := (by rw [hw]; exact HP51.2); have hp_ : Kd.R Kd.bool 4 w52 w.heap.size (fun k_ => some k_ ≠ (v242 : Value).ownBlock) (.slice (some ⟨go50, 0, none⟩) x15_4.length co50) y254 := (by rw [hw, Ny254.out]; exact HP51.1); clear HP51; have n0_ := Kp.a (Kd.R_over' (v := (.slice (some ⟨go50, 0, none⟩) x15_4.length co50)) (Kp.kpR HO_13.out) (Kd.R_typed HO_15.out) (by decide) hg); have n1_ := Kp.a (hp_); have n2_ := Kp.a (Kd.R_after (v := (.slice (some ⟨go50, 0, none⟩) x15_4.length co50)) (v1 := (.slice (some ⟨go50, 0, none⟩) x15_4.length co50)) (ok := (fun _ => True)) (Kp.kpR (Kd.R_mono HO_16.out (fun _ hk => ⟨trivial, by first | exact hk | exact own_cut hk⟩))) hg (.inl rfl)); have n3_ := Kp.a ((by rw [hw]; exact below_set (HB.out) GB50.out : Below w.heap.size w w52)); clear HO_13; clear HO_15; clear HO_16; clear HB; have HO_13 := n0_; have HO_15 := n1_; have HO_16 := n2_; have HB := n3_; clear n0_ n1_ n2_ n3_; clear hg hw hp_))
      go_loopg [19] kj31 (fun kq v19 w' => ∃ (x16_6 : List Bool) (x19_6 : Int), v19 = .int .i64 x19_6 ∧ Aside0 (spec_Blocked.l4 kq l0 l1 a2 a3 x13_2 y254 x16_6 true x18_4 x19_6 = some (r1, r2, r3)) ∧ Aside0 (kq ≤ kj31) ∧ Aside0 (Kd.R (Kd.int .i64) 3 w' w.heap.size (fun _ => True) u13 x13_2) ∧ Aside0 (Kd.R Kd.bool 4 w' w.heap.size (fun k_ => some k_ ≠ (v242 : Value).ownBlock) (.slice (some ⟨go50, 0, none⟩) x15_4.length co50) y254) ∧ Aside0 (Kd.R Kd.bool 4 w' w.heap.size (fun k_ => some k_ ≠ ((.slice (some ⟨go50, 0, none⟩) x15_4.length co50) : Value).ownBlock) v242 x16_6) ∧ Aside0 (Below w.heap.size w w'))
      case atStart => exact ⟨(x16_4), (0), (by first | rfl | (simp; done) | (simp [*]; done)), H', ⟨Nat.le_refl _⟩, ⟨Kp.kpR HO_13.out⟩, ⟨Kp.kpR HO_15.out⟩, ⟨Kp.kpR (Kd.R_mono HO_16.out (fun _ hk => hk.2))⟩, ⟨Kp.kpL HB.out⟩⟩
      clear H'
      try clear c1
      try clear p1
      try clear q1
      try clear hx1
      try clear c2
      try clear p2
      try clear q2
      try clear hx2
      try clear c3
      try clear q3
      try clear c4
      try clear p5
      try clear q5
      try clear hx5
      try clear hf5
      try clear c6
      try clear c6b0
      try clear c6b1
      try clear p6
      try clear c10
      try clear c10b0
      try clear c11
      try clear c13
      try clear c13b0
      try clear c14
      try clear c14b0
      try clear c15
      try clear c15b0
      try clear c16
      try clear c16b0
      try clear p17
      try clear q17
      try clear hx17
      try clear hf17
      try clear c21
      try clear c21b0
      try clear c21b1
      try clear c22
      try clear c22b0
      try clear c22b1
      try clear c23
      try clear c23b0
      try clear c23b1
      try clear p23
      try clear q23
      try clear hx23
      try clear c24
      try clear c24b0
      try clear c24b1
      try clear p25
      try clear q25
      try clear hx25
      try clear c30
      try clear c31
      try clear c31b0
      try clear c33
      try clear c33b0
      try clear c34
      try clear c34b0
      try clear q35
      try clear c36
      try clear c38
      try clear c38b0
      try clear c39
      try clear c39b0
      try clear c40
      try clear c40b0
      try clear c41
      try clear c41b0
      try clear c47
      try clear c48
      try clear c48b0
      try clear c49
      try clear c49b0
      try clear p50
      try clear q50
      try clear hx50
      try clear hf50
      try clear hx17_0
      try clear hx235_0
      try clear hx235_1
      try clear hx236_0
      try clear hx236_1
      try clear hx250_0
      try clear hx251_0
      try clear hx252_0
      try clear hx253_0
      try clear hx50_0
      try clear p1
      try clear p17
      try clear p2
      try clear p23
      try clear p235
      try clear p236
      try clear p25
      try clear p250
      try clear p251
      try clear p252
      try clear p253
      try clear p50
      try clear p6
      try clear q1
      try clear q17
      try clear q2
      try clear q23
      try clear q235
      try clear q236
      try clear q25
      try clear q250
      try clear q251
      try clear q252
      try clear q253
      try clear q3
      try clear q35
      try clear q50
      obtain ⟨x16_6, x19_6, rfl, HA, HK6, HO_13, HO_15, HO_16, HB⟩ := hrel
      have hl15_6 := (Kd.R_reads' HO_15.out).1
      rw [hl15_6] at HO_15
      (try simp only [hl15_6])
      (try simp only [hl15_6] at HO_13)
      (try simp only [hl15_6] at HO_16)
      cases gk with
      | zero => exact absurd HA.out (by simp [spec_Blocked.l4])
      | succ k6 =>
       have H := HA.out
       clear HA
       simp only [spec_Blocked.l4] at H
       by_cases c53 : x19_6 < (l1.length : Int)
       rotate_left
       ·rw [if_neg c53] at H
        have c53b0 : decide (x19_6 < (l1.length : Int)) = false := decide_eq_false c53
        clear c53
        have H' := Kp.a H
        clear H
        go_wp2
        (try simp only [← hl15_6])
        go_roundg k6
        case measure => have := HK1.out; have := HK2.out; have := HK3.out; have := HK4.out; have := HJ31.out; have := HK6.out; omega
        case rel => exact ⟨(y254), (x16_6), (true), (wrap64 (x18_4 + 1)), (by first | rfl | (simp; done) | (simp [*]; done)), (by first | rfl | (simp; done) | (simp [*]; done)), H', ⟨by have := HK1.out; have := HK2.out; have := HK3.out; have := HK4.out; have := HJ31.out; have := HK6.out; omega⟩, ⟨by (try simp only [hl15_6]); (with_reducible repeat (first | apply Kd.R_alloc | apply Kd.R_drewN | apply Kd.R_drew)); exact HO_13.out⟩, ⟨by (try simp only [hl15_6]); (with_reducible repeat (first | apply Kd.R_alloc | apply Kd.R_drewN | apply Kd.R_drew)); exact HO_15.out⟩, ⟨by (try simp only [hl15_6]); (with_reducible repeat (first | apply Kd.R_alloc | apply Kd.R_drewN | apply Kd.R_drew)); exact HO_16.out⟩, ⟨Kp.kpL HB.out⟩⟩
       rw [if_pos c53] at H
       have c53b0 : decide (x19_6 < (l1.length : Int)) = true := decide_eq_true c53
       clear c53
       by_cases c54 : 0 ≤ x18_4
       rotate_left
       ·rw [if_neg c54] at H
        exact absurd H (by simp)
       rw [if_pos c54] at H
       have c54b0 : decide (0 ≤ x18_4) = true := decide_eq_true c54
       clear c54
       by_cases c55 : x18_4 < (l0.length : Int)
       rotate_left
       ·rw [if_neg c55] at H
        exact absurd H (by simp)
       rw [if_pos c55] at H
       have c55b0 : decide (x18_4 < (l0.length : Int)) = true := decide_eq_true c55
       clear c55
       by_cases c56 : 0 ≤ x19_6
       rotate_left
       ·rw [if_neg c56] at H
        exact absurd H (by simp)
       rw [if_pos c56] at H
       have c56b0 : decide (0 ≤ x19_6) = true := decide_eq_true c56
       clear c56
       by_cases c57 : x19_6 < (x16_6.length : Int)
       rotate_left
       ·rw [if_neg c57] at H
        exact absurd H (by simp)
       rw [if_pos c57] at H
       have c57b0 : decide (x19_6 < (x16_6.length : Int)) = true := decide_eq_true c57
       clear c57
       obtain ⟨bq58, hbq58⟩ : ∃ b_ : Bool, b_ = (rdOf false x16_6 x19_6) := ⟨_, rfl⟩
       replace H : (if bq58 = true then (spec_Blocked.l4 k6 l0 l1 a2 a3 x13_2 y254 (x16_6.set (x19_6 : Int).toNat true) true x18_4 (wrap64 (x19_6 + 1))) else (if (wrap64 ((rd l0 x18_4) - (rd l1 x19_6))) ≥ a2 then (spec_Blocked.l4 k6 l0 l1 a2 a3 x13_2 y254 (x16_6.set (x19_6 : Int).toNat (decide ((wrap64 ((rd l0 x18_4) - (rd l1 x19_6))) ≤ a3))) true x18_4 (wrap64 (x19_6 + 1))) else (spec_Blocked.l4 k6 l0 l1 a2 a3 x13_2 y254 (x16_6.set (x19_6 : Int).toNat false) true x18_4 (wrap64 (x19_6 + 1))))) = some (r1, r2, r3) := by rw [← hbq58] at H; exact H
       have Nbq58 := Kp.a hbq58
       clear hbq58
       by_cases c59 : bq58 = true
       ·subst c59
        have H1 : (spec_Blocked.l4 k6 l0 l1 a2 a3 x13_2 y254 (x16_6.set (x19_6 : Int).toNat true) true x18_4 (wrap64 (x19_6 + 1))) = some (r1, r2, r3) := by rw [if_pos rfl] at H; exact H
        clear H
        have H := H1
        clear H1
        obtain ⟨y258, hy258⟩ : ∃ y_ : List Bool, y_ = (x16_6.set (x19_6 : Int).toNat true) := ⟨_, rfl⟩
        replace H : (spec_Blocked.l4 k6 l0 l1 a2 a3 x13_2 y254 y258 true x18_4 (wrap64 (x19_6 + 1))) = some (r1, r2, r3) := by first | (rw [hy258]; with_reducible exact H) | (have H2_ := (Option.bind_some _ _).symm.trans H; rw [hy258]; with_reducible exact H2_) | (have H2_ := (Option.bind_some _ _).symm.trans H; with_reducible exact H2_) | with_reducible exact H | (rw [hy258]; exact H) | exact H
        have Ny258 := Kp.a hy258
        clear hy258
        have H' := Kp.a H
        clear H
        try go_wp2
        have n0_ := Kp.a (Kd.R_drew HO_13.out)
        have n1_ := Kp.a (Kd.R_drew HO_15.out)
        have n2_ := Kp.a (Kd.R_drew HO_16.out)
        have n3_ := Kp.a (below_drew1 HB.out)
        clear HO_13
        clear HO_15
        clear HO_16
        clear HB
        have HO_13 := n0_
        have HO_15 := n1_
        have HO_16 := n2_
        have HB := n3_
        clear n0_ n1_ n2_ n3_
        have p255 : 0 ≤ (x18_4 : Int) := Kp.d
        have q255 : x18_4 < (l0.length : Int) := Kp.d
        obtain ⟨ad255, e255, hx255_0⟩ := Kd.at_int HR0.out x18_4 p255 q255
        have hw255_0 := hx255_0
        cases e255
        replace hx255_0 := (HB.out.cell (World.block_lt_of_cell? w _ hx255_0)).trans hx255_0
        replace p255 := eq_true p255
        replace q255 := eq_true q255
        have p256 : 0 ≤ (x19_6 : Int) := Kp.d
        have q256 : x19_6 < (l1.length : Int) := Kp.d
        obtain ⟨ad256, e256, hx256_0⟩ := Kd.at_int HR1.out x19_6 p256 q256
        have hw256_0 := hx256_0
        cases e256
        replace hx256_0 := (HB.out.cell (World.block_lt_of_cell? w _ hx256_0)).trans hx256_0
        replace p256 := eq_true p256
        replace q256 := eq_true q256
        refine start_ (n := 10) (S := fun w' => w'.cell? (ad255.add (x18_4).toNat) = some (.int .i64 (rd l0 x18_4)) ∧ w'.cell? (ad256.add (x19_6).toNat) = some (.int .i64 (rd l1 x19_6))) (ds := []) #[false, false, false, false, false, false, false, false, false, false] (by kernel_rfl) rfl rfl ⟨((HB.out.cell (World.block_lt_of_cell? w _ hw255_0)).trans hw255_0), ((HB.out.cell (World.block_lt_of_cell? w _ hw256_0)).trans hw256_0)⟩ (fun hHeld => ?_); refine with_tabW spec_Blocked.tab27 spec_Blocked.bits27 (fun HT_ HW_ => ?_)
        generalize wr.drew = w61 at HO_13 HO_15 HO_16 HB hx255_0 hx256_0 hHeld ⊢
        refine pure_ (i := 0) (N := some 104) (v := ?_) (a' := ?_) #[true, false, false, false, false, false, false, false, false, false] rfl rfl (any_of HT_.out (by kernel_rfl)) (fun _ _ _ h => h) (Or.inl ⟨by rfl, ?_⟩) ?_ ?_
        rotate_left
        ·intro w'
         go_simp
         with_reducible rfl
        rotate_left
        ·simp only [Act.put, Kp.s0, Kp.s1, Kp.s2, i64_w, i32_w]
         rfl
        refine pure_ (i := 1) (N := some 105) (v := ?_) (a' := ?_) #[true, true, false, false, false, false, false, false, false, false] rfl rfl (any_of HT_.out (by kernel_rfl)) (fun _ _ _ h => h) (Or.inl ⟨by rfl, ?_⟩) ?_ ?_
        rotate_left
        ·intro w'
         go_simp
         with_reducible rfl
        rotate_left
        ·simp only [Act.put, Kp.s0, Kp.s1, Kp.s2, i64_w, i32_w]
         rfl
        refine pure_ (i := 2) (N := some 106) (v := ?_) (a' := ?_) #[true, true, true, false, false, false, false, false, false, false] rfl rfl (any_of HT_.out (by kernel_rfl)) (fun _ _ _ h => h) (Or.inl ⟨by rfl, ?_⟩) ?_ ?_
        rotate_left
        ·intro w'
         go_simp
         with_reducible rfl
        rotate_left
        ·simp only [Act.put, Kp.s0, Kp.s1, Kp.s2, i64_w, i32_w]
         rfl
        refine pure_ (i := 4) (N := some 108) (v := ?_) (a' := ?_) #[true, true, true, false, true, false, false, false, false, false] rfl rfl (any_of HT_.out (by kernel_rfl)) (fun _ _ _ h => h) (Or.inl ⟨by rfl, ?_⟩) ?_ ?_
        rotate_left
        ·intro w'
         go_simp
         with_reducible rfl
        rotate_left
        ·simp only [Act.put, Kp.s0, Kp.s1, Kp.s2, i64_w, i32_w]
         rfl
        refine pure_ (i := 5) (N := some 109) (v := ?_) (a' := ?_) #[true, true, true, false, true, true, false, false, false, false] rfl rfl (any_of HT_.out (by kernel_rfl)) (fun _ _ _ h => h) (Or.inl ⟨by rfl, ?_⟩) ?_ ?_
        rotate_left
        ·intro w'
         go_simp
         with_reducible rfl
        rotate_left
        ·simp only [Act.put, Kp.s0, Kp.s1, Kp.s2, i64_w, i32_w]
         rfl
        refine pure_ (i := 6) (N := some 110) (v := ?_) (a' := ?_) #[true, true, true, false, true, true, true, false, false, false] rfl rfl (any_of HT_.out (by kernel_rfl)) (fun _ _ _ h => h) (Or.inl ⟨by rfl, ?_⟩) ?_ ?_
        rotate_left
        ·intro w'
         go_simp
         with_reducible rfl
        rotate_left
        ·simp only [Act.put, Kp.s0, Kp.s1, Kp.s2, i64_w, i32_w]
         rfl
        refine take_ (i := 3) (N := some 107) (v := ?_) (a' := ?_) #[true, true, true, true, true, true, true, false, false, false] rfl rfl (take_ofW HT_.out HW_.out (by kernel_rfl)) (fun _ _ _ h => h) (Or.inl ⟨by rfl, ?_⟩) hHeld ?_ ?_
        rotate_left
        ·rintro w' ⟨s0, s1⟩
         go_simp
         with_reducible rfl
        rotate_left
        ·simp only [Act.put, Kp.s0, Kp.s1, Kp.s2, i64_w, i32_w]
         rfl
        refine take_ (i := 7) (N := some 111) (v := ?_) (a' := ?_) #[true, true, true, true, true, true, true, true, false, false] rfl rfl (take_ofW HT_.out HW_.out (by kernel_rfl)) (fun _ _ _ h => h) (Or.inl ⟨by rfl, ?_⟩) hHeld ?_ ?_
        rotate_left
        ·rintro w' ⟨s0, s1⟩
         go_simp
         with_reducible rfl
        rotate_left
        ·simp only [Act.put, Kp.s0, Kp.s1, Kp.s2, i64_w, i32_w]
         rfl
        refine pure_ (i := 8) (N := some 112) (v := ?_) (a' := ?_) #[true, true, true, true, true, true, true, true, true, false] rfl rfl (any_of HT_.out (by kernel_rfl)) (fun _ _ _ h => h) (Or.inl ⟨by rfl, ?_⟩) ?_ ?_
        rotate_left
        ·intro w'
         go_simp
         with_reducible rfl
        rotate_left
        ·simp only [Act.put, Kp.s0, Kp.s1, Kp.s2, i64_w, i32_w]
         rfl
        refine pure_ (i := 9) (N := some 20) (v := ?_) (a' := ?_) #[true, true, true, true, true, true, true, true, true, true] rfl rfl (any_of HT_.out (by kernel_rfl)) (fun _ _ _ h => h) (Or.inl ⟨by rfl, ?_⟩) ?_ ?_
        rotate_left
        ·intro w'
         go_simp
         with_reducible rfl
        rotate_left
        ·simp only [Act.put, Kp.s0, Kp.s1, Kp.s2, i64_w, i32_w]
         rfl
        refine done_ (done_of HT_.out (by kernel_rfl)) ?_
        obtain ⟨Ao62, co62, eo62⟩ := Kd.R_slice HO_16.out
        subst eo62
        have p257 : 0 ≤ (x19_6 : Int) := Kp.d
        have q257 : x19_6 < (x16_6.length : Int) := Kp.d
        obtain ⟨ad257, e257, hx257_0⟩ := Kd.at_bool (Kd.R_reads' HO_16.out).2.2 x19_6 p257 q257
        (try rw [← Nbq58.out] at hx257_0)
        cases e257
        replace p257 := eq_true p257
        replace q257 := eq_true q257
        have p60 : 0 ≤ (x19_6 : Int) := Kp.d
        have q60 : (x19_6 : Int) < ((x16_6.length : Int) : Int) := Kp.d
        obtain ⟨go60, co60, eo60, gb60, gl60, cl60, HG60⟩ := Kd.R_form HO_16.out (by omega)
        (first | cases eo60 | (injection eo60 with ea_ en_ ec_; (first | subst ea_ | (injection ea_ with ea_; subst ea_)); subst ec_; clear en_))
        have GB60 := Kp.a gb60
        have GG60 := Kp.a HG60
        clear gb60 gl60 HG60
        (first | simp only [add_plain] at hx257_0 | skip)
        obtain ⟨hx60_0, hf60_0⟩ := Kd.R_celln false HO_16.out (x19_6 : Int) p60 q60
        replace p60 := eq_true p60
        replace q60 := eq_true q60
        obtain ⟨hy63_, hz63_⟩ := Kd.R_celln false HO_16.out (x19_6 : Int) (Kp.d) (Kp.d)
        have HP63 := Kd.R_putg HO_16.out (x19_6 : Int) true
        try go_wp2_with (first | ((with_reducible refine gate_store (t := 4) (p := 129) rfl ?_); refine store_event (t := 4) (p := 129) (v := ?vo_w64) (w1 := (w61.setCell ⟨go60, (x19_6 : Int).toNat, none⟩ (.bool true))) ?hg ?ho ?hn ?hr ?_; (case ho => rfl); (case hg => rfl); (case hn => rfl); (case hr => first | (go_simp; done) | (go_simp; rfl)); intro w64 hw; have hg : w61.grownBy w64 (some go60) := (by rw [hw]; exact HP63.2); have hp_ : Kd.R Kd.bool 4 w64 w.heap.size (fun k_ => some k_ ≠ (.slice (some ⟨go50, 0, none⟩) y254.length co50 : Value).ownBlock) (.slice (some ⟨go60, 0, none⟩) x16_6.length co62) y258 := (by rw [hw, Ny258.out]; exact HP63.1); clear HP63; have n0_ := Kp.a (Kd.R_over' (v := (.slice (some ⟨go60, 0, none⟩) x16_6.length co62)) (Kp.kpR HO_13.out) (Kd.R_typed HO_16.out) (by decide) hg); have n1_ := Kp.a (Kd.R_after (v := (.slice (some ⟨go60, 0, none⟩) x16_6.length co62)) (v1 := (.slice (some ⟨go60, 0, none⟩) x16_6.length co62)) (ok := (fun _ => True)) (Kp.kpR (Kd.R_mono HO_15.out (fun _ hk => ⟨trivial, by first | exact hk | exact own_cut hk⟩))) hg (.inl rfl)); have n2_ := Kp.a (hp_); have n3_ := Kp.a ((by rw [hw]; exact below_set (HB.out) GB60.out : Below w.heap.size w w64)); clear HO_13; clear HO_15; clear HO_16; clear HB; have HO_13 := n0_; have HO_15 := n1_; have HO_16 := n2_; have HB := n3_; clear n0_ n1_ n2_ n3_; clear hg hw hp_))
        (try simp only [← hl15_6])
        go_roundg k6
        case measure => have := HK1.out; have := HK2.out; have := HK3.out; have := HK4.out; have := HJ31.out; have := HK6.out; omega
        case rel => exact ⟨(y258), (wrap64 (x19_6 + 1)), (by first | rfl | (simp; done) | (simp [*]; done)), H', ⟨by have := HK1.out; have := HK2.out; have := HK3.out; have := HK4.out; have := HJ31.out; have := HK6.out; omega⟩, ⟨by (try simp only [hl15_6]); (with_reducible repeat (first | apply Kd.R_alloc | apply Kd.R_drewN | apply Kd.R_drew)); exact HO_13.out⟩, ⟨by (try simp only [hl15_6]); (with_reducible repeat (first | apply Kd.R_alloc | apply Kd.R_drewN | apply Kd.R_drew)); exact Kd.R_mono HO_15.out (fun _ hk => hk.2)⟩, ⟨by (try simp only [hl15_6]); (with_reducible repeat (first | apply Kd.R_alloc | apply Kd.R_drewN | apply Kd.R_drew)); exact HO_16.out⟩, ⟨Kp.kpL HB.out⟩⟩
       replace c59 := Bool.eq_false_iff.mpr c59
       subst c59
       have H1 : (if (wrap64 ((rd l0 x18_4) - (rd l1 x19_6))) ≥ a2 then (spec_Blocked.l4 k6 l0 l1 a2 a3 x13_2 y254 (x16_6.set (x19_6 : Int).toNat (decide ((wrap64 ((rd l0 x18_4) - (rd l1 x19_6))) ≤ a3))) true x18_4 (wrap64 (x19_6 + 1))) else (spec_Blocked.l4 k6 l0 l1 a2 a3 x13_2 y254 (x16_6.set (x19_6 : Int).toNat false) true x18_4 (wrap64 (x19_6 + 1)))) = some (r1, r2, r3) := by rw [if_neg (show ¬ (false = true) by decide)] at H; exact H
       clear H
       have H := H1
       clear H1
       by_cases c65 : (wrap64 ((rd l0 x18_4) - (rd l1 x19_6))) ≥ a2
       ·rw [if_pos c65] at H
        have c65b0 : decide (a2 ≤ (wrap64 ((rd l0 x18_4) - (rd l1 x19_6)))) = true := decide_eq_true c65
        clear c65
        obtain ⟨y259, hy259⟩ : ∃ y_ : List Bool, y_ = (x16_6.set (x19_6 : Int).toNat (decide ((wrap64 ((rd l0 x18_4) - (rd l1 x19_6))) ≤ a3))) := ⟨_, rfl⟩
        replace H : (spec_Blocked.l4 k6 l0 l1 a2 a3 x13_2 y254 y259 true x18_4 (wrap64 (x19_6 + 1))) = some (r1, r2, r3) := by first | (rw [hy259]; with_reducible exact H) | (have H2_ := (Option.bind_some _ _).symm.trans H; rw [hy259]; with_reducible exact H2_) | (have H2_ := (Option.bind_some _ _).symm.trans H; with_reducible exact H2_) | with_reducible exact H | (rw [hy259]; exact H) | exact H
        have Ny259 := Kp.a hy259
        clear hy259
        have H' := Kp.a H
        clear H
        try go_wp2
        have n0_ := Kp.a (Kd.R_drew HO_13.out)
        have n1_ := Kp.a (Kd.R_drew HO_15.out)
        have n2_ := Kp.a (Kd.R_drew HO_16.out)
        have n3_ := Kp.a (below_drew1 HB.out)
        clear HO_13
        clear HO_15
        clear HO_16
        clear HB
        have HO_13 := n0_
        have HO_15 := n1_
        have HO_16 := n2_
        have HB := n3_
        clear n0_ n1_ n2_ n3_
        have p255 : 0 ≤ (x18_4 : Int) := Kp.d
        have q255 : x18_4 < (l0.length : Int) := Kp.d
        obtain ⟨ad255, e255, hx255_0⟩ := Kd.at_int HR0.out x18_4 p255 q255
        have hw255_0 := hx255_0
        cases e255
        replace hx255_0 := (HB.out.cell (World.block_lt_of_cell? w _ hx255_0)).trans hx255_0
        replace p255 := eq_true p255
        replace q255 := eq_true q255
        have p256 : 0 ≤ (x19_6 : Int) := Kp.d
        have q256 : x19_6 < (l1.length : Int) := Kp.d
        obtain ⟨ad256, e256, hx256_0⟩ := Kd.at_int HR1.out x19_6 p256 q256
        have hw256_0 := hx256_0
        cases e256
        replace hx256_0 := (HB.out.cell (World.block_lt_of_cell? w _ hx256_0)).trans hx256_0
        replace p256 := eq_true p256
        replace q256 := eq_true q256
        refine start_ (n := 10) (S := fun w' => w'.cell? (ad255.add (x18_4).toNat) = some (.int .i64 (rd l0 x18_4)) ∧ w'.cell? (ad256.add (x19_6).toNat) = some (.int .i64 (rd l1 x19_6))) (ds := []) #[false, false, false, false, false, false, false, false, false, false] (by kernel_rfl) rfl rfl ⟨((HB.out.cell (World.block_lt_of_cell? w _ hw255_0)).trans hw255_0), ((HB.out.cell (World.block_lt_of_cell? w _ hw256_0)).trans hw256_0)⟩ (fun hHeld => ?_); refine with_tabW spec_Blocked.tab27 spec_Blocked.bits27 (fun HT_ HW_ => ?_)
        generalize wr.drew = w67 at HO_13 HO_15 HO_16 HB hx255_0 hx256_0 hHeld ⊢
        refine pure_ (i := 0) (N := some 104) (v := ?_) (a' := ?_) #[true, false, false, false, false, false, false, false, false, false] rfl rfl (any_of HT_.out (by kernel_rfl)) (fun _ _ _ h => h) (Or.inl ⟨by rfl, ?_⟩) ?_ ?_
        rotate_left
        ·intro w'
         go_simp
         with_reducible rfl
        rotate_left
        ·simp only [Act.put, Kp.s0, Kp.s1, Kp.s2, i64_w, i32_w]
         rfl
        refine pure_ (i := 1) (N := some 105) (v := ?_) (a' := ?_) #[true, true, false, false, false, false, false, false, false, false] rfl rfl (any_of HT_.out (by kernel_rfl)) (fun _ _ _ h => h) (Or.inl ⟨by rfl, ?_⟩) ?_ ?_
        rotate_left
        ·intro w'
         go_simp
         with_reducible rfl
        rotate_left
        ·simp only [Act.put, Kp.s0, Kp.s1, Kp.s2, i64_w, i32_w]
         rfl
        refine pure_ (i := 2) (N := some 106) (v := ?_) (a' := ?_) #[true, true, true, false, false, false, false, false, false, false] rfl rfl (any_of HT_.out (by kernel_rfl)) (fun _ _ _ h => h) (Or.inl ⟨by rfl, ?_⟩) ?_ ?_
        rotate_left
        ·intro w'
         go_simp
         with_reducible rfl
        rotate_left
        ·simp only [Act.put, Kp.s0, Kp.s1, Kp.s2, i64_w, i32_w]
         rfl
        refine pure_ (i := 4) (N := some 108) (v := ?_) (a' := ?_) #[true, true, true, false, true, false, false, false, false, false] rfl rfl (any_of HT_.out (by kernel_rfl)) (fun _ _ _ h => h) (Or.inl ⟨by rfl, ?_⟩) ?_ ?_
        rotate_left
        ·intro w'
         go_simp
         with_reducible rfl
        rotate_left
        ·simp only [Act.put, Kp.s0, Kp.s1, Kp.s2, i64_w, i32_w]
         rfl
        refine pure_ (i := 5) (N := some 109) (v := ?_) (a' := ?_) #[true, true, true, false, true, true, false, false, false, false] rfl rfl (any_of HT_.out (by kernel_rfl)) (fun _ _ _ h => h) (Or.inl ⟨by rfl, ?_⟩) ?_ ?_
        rotate_left
        ·intro w'
         go_simp
         with_reducible rfl
        rotate_left
        ·simp only [Act.put, Kp.s0, Kp.s1, Kp.s2, i64_w, i32_w]
         rfl
        refine pure_ (i := 6) (N := some 110) (v := ?_) (a' := ?_) #[true, true, true, false, true, true, true, false, false, false] rfl rfl (any_of HT_.out (by kernel_rfl)) (fun _ _ _ h => h) (Or.inl ⟨by rfl, ?_⟩) ?_ ?_
        rotate_left
        ·intro w'
         go_simp
         with_reducible rfl
        rotate_left
        ·simp only [Act.put, Kp.s0, Kp.s1, Kp.s2, i64_w, i32_w]
         rfl
        refine take_ (i := 3) (N := some 107) (v := ?_) (a' := ?_) #[true, true, true, true, true, true, true, false, false, false] rfl rfl (take_ofW HT_.out HW_.out (by kernel_rfl)) (fun _ _ _ h => h) (Or.inl ⟨by rfl, ?_⟩) hHeld ?_ ?_
        rotate_left
        ·rintro w' ⟨s0, s1⟩
         go_simp
         with_reducible rfl
        rotate_left
        ·simp only [Act.put, Kp.s0, Kp.s1, Kp.s2, i64_w, i32_w]
         rfl
        refine take_ (i := 7) (N := some 111) (v := ?_) (a' := ?_) #[true, true, true, true, true, true, true, true, false, false] rfl rfl (take_ofW HT_.out HW_.out (by kernel_rfl)) (fun _ _ _ h => h) (Or.inl ⟨by rfl, ?_⟩) hHeld ?_ ?_
        rotate_left
        ·rintro w' ⟨s0, s1⟩
         go_simp
         with_reducible rfl
        rotate_left
        ·simp only [Act.put, Kp.s0, Kp.s1, Kp.s2, i64_w, i32_w]
         rfl
        refine pure_ (i := 8) (N := some 112) (v := ?_) (a' := ?_) #[true, true, true, true, true, true, true, true, true, false] rfl rfl (any_of HT_.out (by kernel_rfl)) (fun _ _ _ h => h) (Or.inl ⟨by rfl, ?_⟩) ?_ ?_
        rotate_left
        ·intro w'
         go_simp
         with_reducible rfl
        rotate_left
        ·simp only [Act.put, Kp.s0, Kp.s1, Kp.s2, i64_w, i32_w]
         rfl
        refine pure_ (i := 9) (N := some 20) (v := ?_) (a' := ?_) #[true, true, true, true, true, true, true, true, true, true] rfl rfl (any_of HT_.out (by kernel_rfl)) (fun _ _ _ h => h) (Or.inl ⟨by rfl, ?_⟩) ?_ ?_
        rotate_left
        ·intro w'
         go_simp
         with_reducible rfl
        rotate_left
        ·simp only [Act.put, Kp.s0, Kp.s1, Kp.s2, i64_w, i32_w]
         rfl
        refine done_ (done_of HT_.out (by kernel_rfl)) ?_
        obtain ⟨Ao68, co68, eo68⟩ := Kd.R_slice HO_16.out
        subst eo68
        have p257 : 0 ≤ (x19_6 : Int) := Kp.d
        have q257 : x19_6 < (x16_6.length : Int) := Kp.d
        obtain ⟨ad257, e257, hx257_0⟩ := Kd.at_bool (Kd.R_reads' HO_16.out).2.2 x19_6 p257 q257
        (try rw [← Nbq58.out] at hx257_0)
        cases e257
        replace p257 := eq_true p257
        replace q257 := eq_true q257
        have p66 : 0 ≤ (x19_6 : Int) := Kp.d
        have q66 : (x19_6 : Int) < ((x16_6.length : Int) : Int) := Kp.d
        obtain ⟨go66, co66, eo66, gb66, gl66, cl66, HG66⟩ := Kd.R_form HO_16.out (by omega)
        (first | cases eo66 | (injection eo66 with ea_ en_ ec_; (first | subst ea_ | (injection ea_ with ea_; subst ea_)); subst ec_; clear en_))
        have GB66 := Kp.a gb66
        have GG66 := Kp.a HG66
        clear gb66 gl66 HG66
        (first | simp only [add_plain] at hx257_0 | skip)
        obtain ⟨hx66_0, hf66_0⟩ := Kd.R_celln false HO_16.out (x19_6 : Int) p66 q66
        replace p66 := eq_true p66
        replace q66 := eq_true q66
        obtain ⟨hy69_, hz69_⟩ := Kd.R_celln false HO_16.out (x19_6 : Int) (Kp.d) (Kp.d)
        have HP69 := Kd.R_putg HO_16.out (x19_6 : Int) (decide ((wrap64 ((rd l0 x18_4) - (rd l1 x19_6))) ≤ a3))
        try go_wp2_with (first | ((with_reducible refine gate_store (t := 4) (p := 129) rfl ?_); refine store_event (t := 4) (p := 129) (v := ?vo_w70) (w1 := (w67.setCell ⟨go66, (x19_6 : Int).toNat, none⟩ (.bool (decide ((wrap64 ((rd l0 x18_4) - (rd l1 x19_6))) ≤ a3))))) ?hg ?ho ?hn ?hr ?_; (case ho => rfl); (case hg => rfl); (case hn => rfl); (case hr => first | (go_simp; done) | (go_simp; rfl)); intro w70 hw; have hg : w67.grownBy w70 (some go66) := (by rw [hw]; exact HP69.2); have hp_ : Kd.R Kd.bool 4 w70 w.heap.size (fun k_ => some k_ ≠ (.slice (some ⟨go50, 0, none⟩) y254.length co50 : Value).ownBlock) (.slice (some ⟨go66, 0, none⟩) x16_6.length co68) y259 := (by rw [hw, Ny259.out]; exact HP69.1); clear HP69; have n0_ := Kp.a (Kd.R_over' (v := (.slice (some ⟨go66, 0, none⟩) x16_6.length co68)) (Kp.kpR HO_13.out) (Kd.R_typed HO_16.out) (by decide) hg); have n1_ := Kp.a (Kd.R_after (v := (.slice (some ⟨go66, 0, none⟩) x16_6.length co68)) (v1 := (.slice (some ⟨go66, 0, none⟩) x16_6.length co68)) (ok := (fun _ => True)) (Kp.kpR (Kd.R_mono HO_15.out (fun _ hk => ⟨trivial, by first | exact hk | exact own_cut hk⟩))) hg (.inl rfl)); have n2_ := Kp.a (hp_); have n3_ := Kp.a ((by rw [hw]; exact below_set (HB.out) GB66.out : Below w.heap.size w w70)); clear HO_13; clear HO_15; clear HO_16; clear HB; have HO_13 := n0_; have HO_15 := n1_; have HO_16 := n2_; have HB := n3_; clear n0_ n1_ n2_ n3_; clear hg hw hp_))
        (try simp only [← hl15_6])
        go_roundg k6
        case measure => have := HK1.out; have := HK2.out; have := HK3.out; have := HK4.out; have := HJ31.out; have := HK6.out; omega
        case rel => exact ⟨(y259), (wrap64 (x19_6 + 1)), (by first | rfl | (simp; done) | (simp [*]; done)), H', ⟨by have := HK1.out; have := HK2.out; have := HK3.out; have := HK4.out; have := HJ31.out; have := HK6.out; omega⟩, ⟨by (try simp only [hl15_6]); (with_reducible repeat (first | apply Kd.R_alloc | apply Kd.R_drewN | apply Kd.R_drew)); exact HO_13.out⟩, ⟨by (try simp only [hl15_6]); (with_reducible repeat (first | apply Kd.R_alloc | apply Kd.R_drewN | apply Kd.R_drew)); exact Kd.R_mono HO_15.out (fun _ hk => hk.2)⟩, ⟨by (try simp only [hl15_6]); (with_reducible repeat (first | apply Kd.R_alloc | apply Kd.R_drewN | apply Kd.R_drew)); exact HO_16.out⟩, ⟨Kp.kpL HB.out⟩⟩
       rw [if_neg c65] at H
       have c65b0 : decide (a2 ≤ (wrap64 ((rd l0 x18_4) - (rd l1 x19_6)))) = false := decide_eq_false c65
       clear c65
       obtain ⟨y260, hy260⟩ : ∃ y_ : List Bool, y_ = (x16_6.set (x19_6 : Int).toNat false) := ⟨_, rfl⟩
       replace H : (spec_Blocked.l4 k6 l0 l1 a2 a3 x13_2 y254 y260 true x18_4 (wrap64 (x19_6 + 1))) = some (r1, r2, r3) := by first | (rw [hy260]; with_reducible exact H) | (have H2_ := (Option.bind_some _ _).symm.trans H; rw [hy260]; with_reducible exact H2_) | (have H2_ := (Option.bind_some _ _).symm.trans H; with_reducible exact H2_) | with_reducible exact H | (rw [hy260]; exact H) | exact H
       have Ny260 := Kp.a hy260
       clear hy260
       have H' := Kp.a H
       clear H
       try go_wp2
       have n0_ := Kp.a (Kd.R_drew HO_13.out)
       have n1_ := Kp.a (Kd.R_drew HO_15.out)
       have n2_ := Kp.a (Kd.R_drew HO_16.out)
       have n3_ := Kp.a (below_drew1 HB.out)
       clear HO_13
       clear HO_15
       clear HO_16
       clear HB
       have HO_13 := n0_
       have HO_15 := n1_
       have HO_16 := n2_
       have HB := n3_
       clear n0_ n1_ n2_ n3_
       have p255 : 0 ≤ (x18_4 : Int) := Kp.d
       have q255 : x18_4 < (l0.length : Int) := Kp.d
       obtain ⟨ad255, e255, hx255_0⟩ := Kd.at_int HR0.out x18_4 p255 q255
       have hw255_0 := hx255_0
       cases e255
       replace hx255_0 := (HB.out.cell (World.block_lt_of_cell? w _ hx255_0)).trans hx255_0
       replace p255 := eq_true p255
       replace q255 := eq_true q255
       have p256 : 0 ≤ (x19_6 : Int) := Kp.d
       have q256 : x19_6 < (l1.length : Int) := Kp.d
       obtain ⟨ad256, e256, hx256_0⟩ := Kd.at_int HR1.out x19_6 p256 q256
       have hw256_0 := hx256_0
       cases e256
       replace hx256_0 := (HB.out.cell (World.block_lt_of_cell? w _ hx256_0)).trans hx256_0
       replace p256 := eq_true p256
       replace q256 := eq_true q256
       refine start_ (n := 10) (S := fun w' => w'.cell? (ad255.add (x18_4).toNat) = some (.int .i64 (rd l0 x18_4)) ∧ w'.cell? (ad256.add (x19_6).toNat) = some (.int .i64 (rd l1 x19_6))) (ds := []) #[false, false, false, false, false, false, false, false, false, false] (by kernel_rfl) rfl rfl ⟨((HB.out.cell (World.block_lt_of_cell? w _ hw255_0)).trans hw255_0), ((HB.out.cell (World.block_lt_of_cell? w _ hw256_0)).trans hw256_0)⟩ (fun hHeld => ?_); refine with_tabW spec_Blocked.tab27 spec_Blocked.bits27 (fun HT_ HW_ => ?_)
       generalize wr.drew = w72 at HO_13 HO_15 HO_16 HB hx255_0 hx256_0 hHeld ⊢
       refine pure_ (i := 0) (N := some 104) (v := ?_) (a' := ?_) #[true, false, false, false, false, false, false, false, false, false] rfl rfl (any_of HT_.out (by kernel_rfl)) (fun _ _ _ h => h) (Or.inl ⟨by rfl, ?_⟩) ?_ ?_
       rotate_left
       ·intro w'
        go_simp
        with_reducible rfl
       rotate_left
       ·simp only [Act.put, Kp.s0, Kp.s1, Kp.s2, i64_w, i32_w]
        rfl
       refine pure_ (i := 1) (N := some 105) (v := ?_) (a' := ?_) #[true, true, false, false, false, false, false, false, false, false] rfl rfl (any_of HT_.out (by kernel_rfl)) (fun _ _ _ h => h) (Or.inl ⟨by rfl, ?_⟩) ?_ ?_
       rotate_left
       ·intro w'
        go_simp
        with_reducible rfl
       rotate_left
       ·simp only [Act.put, Kp.s0, Kp.s1, Kp.s2, i64_w, i32_w]
        rfl
       refine pure_ (i := 2) (N := some 106) (v := ?_) (a' := ?_) #[true, true, true, false, false, false, false, false, false, false] rfl rfl (any_of HT_.out (by kernel_rfl)) (fun _ _ _ h => h) (Or.inl ⟨by rfl, ?_⟩) ?_ ?_
       rotate_left
       ·intro w'
        go_simp
        with_reducible rfl
       rotate_left
       ·simp only [Act.put, Kp.s0, Kp.s1, Kp.s2, i64_w, i32_w]
        rfl
       refine pure_ (i := 4) (N := some 108) (v := ?_) (a' := ?_) #[true, true, true, false, true, false, false, false, false, false] rfl rfl (any_of HT_.out (by kernel_rfl)) (fun _ _ _ h => h) (Or.inl ⟨by rfl, ?_⟩) ?_ ?_
       rotate_left
       ·intro w'
        go_simp
        with_reducible rfl
       rotate_left
       ·simp only [Act.put, Kp.s0, Kp.s1, Kp.s2, i64_w, i32_w]
        rfl
       refine pure_ (i := 5) (N := some 109) (v := ?_) (a' := ?_) #[true, true, true, false, true, true, false, false, false, false] rfl rfl (any_of HT_.out (by kernel_rfl)) (fun _ _ _ h => h) (Or.inl ⟨by rfl, ?_⟩) ?_ ?_
       rotate_left
       ·intro w'
        go_simp
        with_reducible rfl
       rotate_left
       ·simp only [Act.put, Kp.s0, Kp.s1, Kp.s2, i64_w, i32_w]
        rfl
       refine pure_ (i := 6) (N := some 110) (v := ?_) (a' := ?_) #[true, true, true, false, true, true, true, false, false, false] rfl rfl (any_of HT_.out (by kernel_rfl)) (fun _ _ _ h => h) (Or.inl ⟨by rfl, ?_⟩) ?_ ?_
       rotate_left
       ·intro w'
        go_simp
        with_reducible rfl
       rotate_left
       ·simp only [Act.put, Kp.s0, Kp.s1, Kp.s2, i64_w, i32_w]
        rfl
       refine take_ (i := 3) (N := some 107) (v := ?_) (a' := ?_) #[true, true, true, true, true, true, true, false, false, false] rfl rfl (take_ofW HT_.out HW_.out (by kernel_rfl)) (fun _ _ _ h => h) (Or.inl ⟨by rfl, ?_⟩) hHeld ?_ ?_
       rotate_left
       ·rintro w' ⟨s0, s1⟩
        go_simp
        with_reducible rfl
       rotate_left
       ·simp only [Act.put, Kp.s0, Kp.s1, Kp.s2, i64_w, i32_w]
        rfl
       refine take_ (i := 7) (N := some 111) (v := ?_) (a' := ?_) #[true, true, true, true, true, true, true, true, false, false] rfl rfl (take_ofW HT_.out HW_.out (by kernel_rfl)) (fun _ _ _ h => h) (Or.inl ⟨by rfl, ?_⟩) hHeld ?_ ?_
       rotate_left
       ·rintro w' ⟨s0, s1⟩
        go_simp
        with_reducible rfl
       rotate_left
       ·simp only [Act.put, Kp.s0, Kp.s1, Kp.s2, i64_w, i32_w]
        rfl
       refine pure_ (i := 8) (N := some 112) (v := ?_) (a' := ?_) #[true, true, true, true, true, true, true, true, true, false] rfl rfl (any_of HT_.out (by kernel_rfl)) (fun _ _ _ h => h) (Or.inl ⟨by rfl, ?_⟩) ?_ ?_
       rotate_left
       ·intro w'
        go_simp
        with_reducible rfl
       rotate_left
       ·simp only [Act.put, Kp.s0, Kp.s1, Kp.s2, i64_w, i32_w]
        rfl
       refine pure_ (i := 9) (N := some 20) (v := ?_) (a' := ?_) #[true, true, true, true, true, true, true, true, true, true] rfl rfl (any_of HT_.out (by kernel_rfl)) (fun _ _ _ h => h) (Or.inl ⟨by rfl, ?_⟩) ?_ ?_
       rotate_left
       ·intro w'
        go_simp
        with_reducible rfl
       rotate_left
       ·simp only [Act.put, Kp.s0, Kp.s1, Kp.s2, i64_w, i32_w]
        rfl
       refine done_ (done_of HT_.out (by kernel_rfl)) ?_
       obtain ⟨Ao73, co73, eo73⟩ := Kd.R_slice HO_16.out
       subst eo73
       have p257 : 0 ≤ (x19_6 : Int) := Kp.d
       have q257 : x19_6 < (x16_6.length : Int) := Kp.d
       obtain ⟨ad257, e257, hx257_0⟩ := Kd.at_bool (Kd.R_reads' HO_16.out).2.2 x19_6 p257 q257
       (try rw [← Nbq58.out] at hx257_0)
       cases e257
       replace p257 := eq_true p257
       replace q257 := eq_true q257
       have p71 : 0 ≤ (x19_6 : Int) := Kp.d
       have q71 : (x19_6 : Int) < ((x16_6.length : Int) : Int) := Kp.d
       obtain ⟨go71, co71, eo71, gb71, gl71, cl71, HG71⟩ := Kd.R_form HO_16.out (by omega)
       (first | cases eo71 | (injection eo71 with ea_ en_ ec_; (first | subst ea_ | (injection ea_ with ea_; subst ea_)); subst ec_; clear en_))
       have GB71 := Kp.a gb71
       have GG71 := Kp.a HG71
       clear gb71 gl71 HG71
       (first | simp only [add_plain] at hx257_0 | skip)
       obtain ⟨hx71_0, hf71_0⟩ := Kd.R_celln false HO_16.out (x19_6 : Int) p71 q71
       replace p71 := eq_true p71
       replace q71 := eq_true q71
       obtain ⟨hy74_, hz74_⟩ := Kd.R_celln false HO_16.out (x19_6 : Int) (Kp.d) (Kp.d)
       have HP74 := Kd.R_putg HO_16.out (x19_6 : Int) false
       try go_wp2_with (first | ((with_reducible refine gate_store (t := 4) (p := 129) rfl ?_); refine store_event (t := 4) (p := 129) (v := ?vo_w75) (w1 := (w72.setCell ⟨go71, (x19_6 : Int).toNat, none⟩ (.bool false))) ?hg ?ho ?hn ?hr ?_; (case ho => rfl); (case hg => rfl); (case hn => rfl); (case hr => first | (go_simp; done) | (go_simp; rfl)); intro w75 hw; have hg : w72.grownBy w75 (some go71) := (by rw [hw]; exact HP74.2); have hp_ : Kd.R Kd.bool 4 w75 w.heap.size (fun k_ => some k_ ≠ (.slice (some ⟨go50, 0, none⟩) y254.length co50 : Value).ownBlock) (.slice (some ⟨go71, 0, none⟩) x16_6.length co73) y260 := (by rw [hw, Ny260.out]; exact HP74.1); clear HP74; have n0_ := Kp.a (Kd.R_over' (v := (.slice (some ⟨go71, 0, none⟩) x16_6.length co73)) (Kp.kpR HO_13.out) (Kd.R_typed HO_16.out) (by decide) hg); have n1_ := Kp.a (Kd.R_after (v := (.slice (some ⟨go71, 0, none⟩) x16_6.length co73)) (v1 := (.slice (some ⟨go71, 0, none⟩) x16_6.length co73)) (ok := (fun _ => True)) (Kp.kpR (Kd.R_mono HO_15.out (fun _ hk => ⟨trivial, by first | exact hk | exact own_cut hk⟩))) hg (.inl rfl)); have n2_ := Kp.a (hp_); have n3_ := Kp.a ((by rw [hw]; exact below_set (HB.out) GB71.out : Below w.heap.size w w75)); clear HO_13; clear HO_15; clear HO_16; clear HB; have HO_13 := n0_; have HO_15 := n1_; have HO_16 := n2_; have HB := n3_; clear n0_ n1_ n2_ n3_; clear hg hw hp_))
       (try simp only [← hl15_6])
       go_roundg k6
       case measure => have := HK1.out; have := HK2.out; have := HK3.out; have := HK4.out; have := HJ31.out; have := HK6.out; omega
       case rel => exact ⟨(y260), (wrap64 (x19_6 + 1)), (by first | rfl | (simp; done) | (simp [*]; done)), H', ⟨by have := HK1.out; have := HK2.out; have := HK3.out; have := HK4.out; have := HJ31.out; have := HK6.out; omega⟩, ⟨by (try simp only [hl15_6]); (with_reducible repeat (first | apply Kd.R_alloc | apply Kd.R_drewN | apply Kd.R_drew)); exact HO_13.out⟩, ⟨by (try simp only [hl15_6]); (with_reducible repeat (first | apply Kd.R_alloc | apply Kd.R_drewN | apply Kd.R_drew)); exact Kd.R_mono HO_15.out (fun _ hk => hk.2)⟩, ⟨by (try simp only [hl15_6]); (with_reducible repeat (first | apply Kd.R_alloc | apply Kd.R_drewN | apply Kd.R_drew)); exact HO_16.out⟩, ⟨Kp.kpL HB.out⟩⟩
end Go.Proofs.Ytkijhilmgljegaa.PB


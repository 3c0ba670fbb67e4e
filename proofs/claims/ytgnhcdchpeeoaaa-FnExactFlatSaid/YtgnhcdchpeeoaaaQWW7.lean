import Derived.Test.YtgnhcdchpeeoaaaQWW0
import Derived.Test.YtgnhcdchpeeoaaaVWk
import Derived.Test.YtgnhcdchpeeoaaaQWW6
namespace Go.Proofs.Ytgnhcdchpeeoaaa.PW
open Go.RowKit Go.Proofs.YtgnhcdchpeeoaaaW.PrintWords Go.Proofs.YtgnhcdchpeeoaaaW.PrintLast Go.Proofs.YtgnhcdchpeeoaaaW.PrintMore
attribute [local go_sem] max2_int min2_int max_two min_two max_three min_three max_four min_four
set_option linter.unusedVariables false
set_option linter.unusedSimpArgs false
mutual
def spec_l16Bent.l0 : Nat → List Int → List Int → Int → Int → List (S34) → Int → Int → Int → Option ((List (S34)) × Int)
 | 0, _, _, _, _, _, _, _, _ => none
 | k + 1, x0, x1, x7, x8, x9, x10, x156000, x156001 => if x10 < (x0.length : Int) then (if x10 > 0 then (if 0 ≤ (wrap64 (x10 - 1)) then (if (wrap64 (x10 - 1)) < (x1.length : Int) then (spec_l16Bent.j1 k x0 x1 x7 x8 x9 x10 ((rd x1 (wrap64 (x10 - 1))) != 0) x156000 x156001) else (none)) else (none)) else (spec_l16Bent.j1 k x0 x1 x7 x8 x9 x10 false x156000 x156001)) else (some (x9, (-1)))
def spec_l16Bent.j1 : Nat → List Int → List Int → Int → Int → List (S34) → Int → Bool → Int → Int → Option ((List (S34)) × Int)
 | 0, _, _, _, _, _, _, _, _, _ => none
 | k + 1, x0, x1, x7, x8, x9, x10, x34, x156000, x156001 => if x34 = true then (if 0 ≤ (wrap64 (x10 - 1)) then (if (wrap64 (x10 - 1)) < (x1.length : Int) then (spec_l16Bent.j2 k x0 x1 (wrap64 ((wrap64 (-x8)) * (rd x1 (wrap64 (x10 - 1))))) (wrap64 (x7 * (rd x1 (wrap64 (x10 - 1))))) x9 x10 x156000 x156001) else (none)) else (none)) else (spec_l16Bent.j2 k x0 x1 x7 x8 x9 x10 x156000 x156001)
def spec_l16Bent.j2 : Nat → List Int → List Int → Int → Int → List (S34) → Int → Int → Int → Option ((List (S34)) × Int)
 | 0, _, _, _, _, _, _, _, _ => none
 | k + 1, x0, x1, x7, x8, x9, x10, x156000, x156001 => if 0 ≤ x10 then (if x10 < (x0.length : Int) then (spec_l16Bent.l1 k x0 x1 x7 x8 x9 x10 0 x156000 x156001 (wrap64 (x156000 + (wrap64 (x7 * (rd x0 x10))))) (wrap64 (x156001 + (wrap64 (x8 * (rd x0 x10)))))) else (none)) else (none)
def spec_l16Bent.l1 : Nat → List Int → List Int → Int → Int → List (S34) → Int → Int → Int → Int → Int → Int → Option ((List (S34)) × Int)
 | 0, _, _, _, _, _, _, _, _, _, _, _ => none
 | k + 1, x0, x1, x7, x8, x9, x10, x13, x156000, x156001, x165000, x165001 => if x13 < x10 then (if 0 ≤ x13 then (if x13 < (x9.length : Int) then (if 0 ≤ (wrap64 (x13 + 1)) then (if (wrap64 (x13 + 1)) < (x9.length : Int) then ((spec_l03Cross.f k ((rd_T34 x9 x13).f0) ((rd_T34 x9 x13).f1) ((rd_T34 x9 (wrap64 (x13 + 1))).f0) ((rd_T34 x9 (wrap64 (x13 + 1))).f1) x156000 x156001 x165000 x165001).bind fun t170 => (if x13 = (wrap64 (x10 - 1)) then (if (t170.length : Int) > 1 then (some (x9, x10)) else (spec_l16Bent.l1 k x0 x1 x7 x8 x9 x10 (wrap64 (x13 + 1)) x156000 x156001 x165000 x165001)) else (if (t170.length : Int) > 0 then (some (x9, x10)) else (spec_l16Bent.l1 k x0 x1 x7 x8 x9 x10 (wrap64 (x13 + 1)) x156000 x156001 x165000 x165001)))) else (none)) else (none)) else (none)) else (none)) else (if x9.length < 8796093022208 then (spec_l16Bent.l0 k x0 x1 x7 x8 (x9 ++ [(⟨x165000, x165001⟩ : S34)]) (wrap64 (x10 + 1)) x165000 x165001) else (none))
end
def spec_l16Bent.f (k : Nat) (l0 : List Int) (l1 : List Int) : Option ((List (S34)) × Int) := spec_l16Bent.l0 k l0 l1 1 0 (([(⟨0, 0⟩ : S34)] : List (S34))) 0 0 0
def spec_l16Bent.T12 : Bool × List (List Nat × List Nat) := (true, [([], []), ([0], [0]), ([], []), ([], []), ([], []), ([3, 4], [3, 4]), ([5], [5]), ([2, 6], [2, 6]), ([1, 7], [1, 7]), ([], []), ([9], [9]), ([], []), ([], []), ([], []), ([12, 13], [12, 13]), ([14], [14]), ([11, 15], [11, 15]), ([10, 16], [10, 16]), ([8, 17], [8, 17]), ([], []), ([19, 18, 0, 1, 2, 3, 4, 5, 6, 7, 8, 9, 10, 11, 12, 13, 14, 15, 16, 17, 18, 19], [18, 19])])
def spec_l16Bent.B12 : List Nat := [0, 1, 0, 0, 0, 24, 56, 124, 255, 0, 512, 0, 0, 0, 12288, 28672, 63488, 130560, 262143, 0, 1048575]
theorem spec_l16Bent.tab12 : rtab .any (opsOf Try.f82 12) = spec_l16Bent.T12 := by kernel_rfl
theorem spec_l16Bent.bits12 : waitsOk spec_l16Bent.T12.2 spec_l16Bent.B12 = true := by kernel_rfl
def spec_l16Bent.T16 : Bool × List (List Nat × List Nat) := (true, [([], []), ([], []), ([0, 1], [0, 1]), ([2], [2]), ([], []), ([], []), ([5], [5]), ([4, 6], [4, 6]), ([7], [7]), ([], []), ([], []), ([3, 8, 9, 10], [3, 8, 9, 10]), ([11, 11, 0, 1, 2, 3, 4, 5, 6, 7, 8, 9, 10, 11], [11])])
def spec_l16Bent.B16 : List Nat := [0, 0, 3, 7, 0, 0, 32, 112, 240, 0, 0, 2047, 4095]
theorem spec_l16Bent.tab16 : rtab .any (opsOf Try.f82 16) = spec_l16Bent.T16 := by kernel_rfl
theorem spec_l16Bent.bits16 : waitsOk spec_l16Bent.T16.2 spec_l16Bent.B16 = true := by kernel_rfl
set_option maxHeartbeats 8000000 in
set_option maxRecDepth 100000 in
theorem spec_l16Bent.calls (k : Nat) (A0 : Option Addr) (c0 : Nat) (l0 : List Int) (A1 : Option Addr) (c1 : Nat) (l1 : List Int) (r1 : List (S34)) (r2 : Int) (w : World) (hr0 : Kd.C (Kd.int .i64) w A0 l0.length l0) (hc0 : l0.length ≤ c0) (hr1 : Kd.C (Kd.int .i64) w A1 l1.length l1) (hc1 : l1.length ≤ c1) (h : spec_l16Bent.f k l0 l1 = some (r1, r2)) :
  Calls Try.prog 82 #[.slice A0 l0.length c0, .slice A1 l1.length c1] w fun e w' => ∃ v0_ : Value, e = .returned (.tuple #[v0_, .int .i64 r2]) ∧ Kd.R k34 34 w' w.heap.size (fun _ => True) v0_ r1 ∧ Below w.heap.size w w' := by
 have hu34 := Try.underlying34
 have HR0 := Kp.a hr0
 have HC0 := Kp.a hc0
 clear hr0 hc0
 have HR1 := Kp.a hr1
 have HC1 := Kp.a hc1
 clear hr1 hc1
 have HB := Kp.a (Below.refl w.heap.size w)
 have H : (spec_l16Bent.l0 k l0 l1 1 0 (([(⟨0, 0⟩ : S34)] : List (S34))) 0 0 0) = some (r1, r2) := h
 clear h
 obtain ⟨y156, hy156⟩ : ∃ y_ : List (S34), y_ = (([(⟨0, 0⟩ : S34)] : List (S34))) := ⟨_, rfl⟩
 replace H : (spec_l16Bent.l0 k l0 l1 1 0 y156 0 0 0) = some (r1, r2) := by first | (rw [hy156]; with_reducible exact H) | (have H2_ := (Option.bind_some _ _).symm.trans H; rw [hy156]; with_reducible exact H2_) | (have H2_ := (Option.bind_some _ _).symm.trans H; with_reducible exact H2_) | with_reducible exact H | (rw [hy156]; exact H) | exact H
 have Ny156 := Kp.a hy156
 clear hy156
 have H' := Kp.a H
 clear H
 go_enter Try.func82, Try.ntmps82
 go_wp2_with (first | ((with_reducible refine gate_dst (N := 6) rfl ?_); refine box_event ?hg (N := 6) ?hd (cs := #[.int .i64 0, .int .i64 0]) (t := 34) ?hr ?_; (case hd => rfl); (case hg => rfl); (case hr => first | (go_simp; done) | (go_simp; rfl)); intro gb155 hg w3 hbox hb; have n0_ := Kp.a (below_step (Kp.kpL HB.out) hb); have n1_ := Kp.a (hbox); have n2_ := Kp.a ((by rw [hg]; exact (below_size (Kp.kpL HB.out)) : w.heap.size ≤ gb155)); have n3_ := Kp.a ((by rw [hg]; exact (below_size (Kp.kpL HB.out)) : w.heap.size ≤ gb155)); clear HB; have HB := n0_; have BK155 := n1_; have GW155 := n2_; have GE155 := n3_; clear n0_ n1_ n2_ n3_; clear hb hbox hg; have hcz4_0 : w3.cell? ⟨gb155, 0, none⟩ = some (.int .i64 0) := (blk_cell BK155.out 0).trans rfl; have hcz4_1 : w3.cell? ⟨gb155, 1, none⟩ = some (.int .i64 0) := (blk_cell BK155.out 1).trans rfl; have hfz4_0 := blk_frozen BK155.out 0; have hfz4_1 := blk_frozen BK155.out 1) | ((with_reducible refine gate_dst (N := 18) rfl ?_); refine Kd.R_lit k34 _ 34 ?hg (N := 18) ?hd (xs := ([(⟨0, 0⟩ : S34)] : List (S34))) (inner := [.int .i64 0, .int .i64 0]) (ok := fun _ => True) (okp := fun _ => True) ?hr ?hp (fun _ hk => hk) trivial (Below.refl _ _) (Nat.le_refl _) (by simp) ?_; (case hd => rfl); (case hg => rfl); (case hr => first | (go_simp; done) | (go_simp; rfl)); (case hp => exact (Reps.c2 (show Kd.M k34 _ _ _ (⟨0, 0⟩ : S34) [.int .i64 0, .int .i64 0] from (k34_mkM _ _ _ (⟨0, 0⟩ : S34) )) (Reps.none _ _))); intro v157 w5 ho6 hb hg_ hnew_; clear hg_ hnew_; (first | rw [← Ny156.out] at ho6 | (simp only [Int.reduceToNat] at ho6; rw [← Ny156.out] at ho6)); have n0_ := Kp.a (Kd.R_lower (Kd.R_newB ho6 (g := gb155) (o := .cells #[.int .i64 0, .int .i64 0] 34 (0, 0)) (by (with_reducible repeat (first | refine blk_drewN ?_ _ | refine blk_drew ?_ | refine blk_alloc ?_ _)); refine blk_put (cs := #[.int .i64 0, .int .i64 0]) ?_ 1 _ rfl; (with_reducible repeat (first | refine blk_drewN ?_ _ | refine blk_drew ?_ | refine blk_alloc ?_ _)); refine blk_put (cs := #[.int .i64 0, .int .i64 0]) ?_ 0 _ rfl; (with_reducible repeat (first | refine blk_drewN ?_ _ | refine blk_drew ?_ | refine blk_alloc ?_ _)); exact BK155.out)) (below_size (by repeat (first | (with_reducible first | exact HB.out | apply below_alloc | apply pw_below_drewN | apply below_drew1 | refine below_set ?_ GE155.out) | exact HB.out)))); have n1_ := Kp.a (blk_below (g := gb155) (o := .cells #[.int .i64 0, .int .i64 0] 34 (0, 0)) (by (with_reducible repeat (first | refine blk_drewN ?_ _ | refine blk_drew ?_ | refine blk_alloc ?_ _)); refine blk_put (cs := #[.int .i64 0, .int .i64 0]) ?_ 1 _ rfl; (with_reducible repeat (first | refine blk_drewN ?_ _ | refine blk_drew ?_ | refine blk_alloc ?_ _)); refine blk_put (cs := #[.int .i64 0, .int .i64 0]) ?_ 0 _ rfl; (with_reducible repeat (first | refine blk_drewN ?_ _ | refine blk_drew ?_ | refine blk_alloc ?_ _)); exact BK155.out) hb); have n2_ := Kp.a (below_step (by repeat (first | (with_reducible first | exact HB.out | apply below_alloc | apply pw_below_drewN | apply below_drew1 | refine below_set ?_ GE155.out) | exact HB.out)) hb); clear BK155; clear HB; have HO158 := n0_; have BK155 := n1_; have HB := n2_; clear n0_ n1_ n2_; clear hb ho6))
 go_loopg [7, 8, 9, 10] k (fun kq v7 v8 v9 v10 w' => ∃ (x7_1 : Int) (x8_1 : Int) (x9_1 : List (S34)) (x10_1 : Int) (x156000_1 : Int) (x156001_1 : Int), v7 = .int .i64 x7_1 ∧ v8 = .int .i64 x8_1 ∧ v10 = .int .i64 x10_1 ∧ Aside0 (spec_l16Bent.l0 kq l0 l1 x7_1 x8_1 x9_1 x10_1 x156000_1 x156001_1 = some (r1, r2)) ∧ Aside0 (kq ≤ k) ∧ Aside0 (Kd.R k34 34 w' w.heap.size (fun k_ => k_ ≠ gb155) v9 x9_1) ∧ Aside0 (w'.heap[gb155]? = some (.cells #[.int .i64 x156000_1, .int .i64 x156001_1] 34 (0, 0))) ∧ Aside0 (Below w.heap.size w w'))
 case atStart => exact ⟨(1), (0), (y156), (0), (0), (0), (by first | rfl | (simp; done) | (simp [*]; done)), (by first | rfl | (simp; done) | (simp [*]; done)), (by first | rfl | (simp; done) | (simp [*]; done)), H', ⟨Nat.le_refl _⟩, ⟨Kp.kpR (Kd.R_mono HO158.out (fun _ hk => hk.2))⟩, ⟨Kp.kpB BK155.out⟩, ⟨by repeat (first | (with_reducible first | exact HB.out | apply below_alloc | apply pw_below_drewN | apply below_drew1 | refine below_set ?_ GE155.out) | exact HB.out)⟩⟩
 case round =>
  clear H'
  try clear c1
  try clear c2
  try clear p2
  try clear hcz4_0
  try clear hcz4_1
  try clear hfz4_0
  try clear hfz4_1
  obtain ⟨x7_1, x8_1, x9_1, x10_1, x156000_1, x156001_1, rfl, rfl, rfl, HA, HK1, HO_9, BK155, HB⟩ := hrel
  cases gk with
  | zero => exact absurd HA.out (by simp [spec_l16Bent.l0])
  | succ k1 =>
   have H := HA.out
   clear HA
   simp only [spec_l16Bent.l0] at H
   by_cases c7 : x10_1 < (l0.length : Int)
   rotate_left
   ·rw [if_neg c7] at H
    have c7b0 : decide (x10_1 < (l0.length : Int)) = false := decide_eq_false c7
    clear c7
    simp only [Option.some.injEq, Prod.mk.injEq] at H
    obtain ⟨rfl, rfl⟩ := H
    go_wp2
    go_ret2
    exact ⟨_, by first | rfl | (simp [errW_none, errW_some] <;> rfl) | (simp [*, errW_none, errW_some] <;> rfl), Kp.kpR (Kd.R_mono HO_9.out (fun _ hk => trivial)), by repeat (first | (with_reducible first | exact HB.out | apply below_alloc | apply pw_below_drewN | apply below_drew1 | refine below_set ?_ GE155.out) | exact HB.out)⟩
   rw [if_pos c7] at H
   have c7b0 : decide (x10_1 < (l0.length : Int)) = true := decide_eq_true c7
   clear c7
   have HC8 := Kp.a H
   clear H
   go_upto_region 8 with (fail)
   go_cut [34] (fun v34 wc => ∃ (kq : Nat) (x34_7 : Bool), v34 = .bool x34_7 ∧ Aside0 (spec_l16Bent.j1 kq l0 l1 x7_1 x8_1 x9_1 x10_1 x34_7 x156000_1 x156001_1 = some (r1, r2)) ∧ Aside0 (kq ≤ k1) ∧ Aside0 (Kd.R k34 34 wc w.heap.size (fun k_ => k_ ≠ gb155) u9 x9_1) ∧ Aside0 (wc.heap[gb155]? = some (.cells #[.int .i64 x156000_1, .int .i64 x156001_1] 34 (0, 0))) ∧ Aside0 (Below w.heap.size w wc))
   case first =>
    have H := HC8.out
    clear HC8
    by_cases c9 : x10_1 > 0
    rotate_left
    ·rw [if_neg c9] at H
     have c9b0 : decide (0 < x10_1) = false := decide_eq_false c9
     clear c9
     (first | rw [c9b0] | (simp only [i64_w, i32_w]; rw [c9b0]) | skip)
     have H' := Kp.a H
     clear H
     go_wp2
     go_meet
     case rel => exact ⟨_, (false), (by first | rfl | (simp; done) | (simp [*]; done)), H', ⟨by have := HK1.out; first | omega | exact Nat.le_refl _⟩, ⟨Kp.kpR HO_9.out⟩, ⟨Kp.kpB BK155.out⟩, ⟨by repeat (first | (with_reducible first | exact HB.out | apply below_alloc | apply pw_below_drewN | apply below_drew1 | refine below_set ?_ GE155.out) | exact HB.out)⟩⟩
    rw [if_pos c9] at H
    have c9b0 : decide (0 < x10_1) = true := decide_eq_true c9
    clear c9
    (first | rw [c9b0] | (simp only [i64_w, i32_w]; rw [c9b0]) | skip)
    obtain ⟨ji10, hji10⟩ : ∃ j_ : Int, (wrap64 (x10_1 - 1)) = j_ := ⟨_, rfl⟩
    replace H : (if 0 ≤ (ji10) then (if (ji10) < (l1.length : Int) then (spec_l16Bent.j1 k1 l0 l1 x7_1 x8_1 x9_1 x10_1 ((rd l1 (ji10)) != 0) x156000_1 x156001_1) else (none)) else (none)) = some (r1, r2) := by first | (rw [hji10] at H; exact H) | (simp only [hji10] at H ⊢; exact H)
    have hji10w : (IntKind.i64.wrap (x10_1 - 1)) = ji10 := (i64_w _).trans hji10
    by_cases c11 : 0 ≤ (ji10)
    rotate_left
    ·rw [if_neg c11] at H
     exact absurd H (by simp)
    rw [if_pos c11] at H
    have c11b0 : decide (0 ≤ (ji10)) = true := decide_eq_true c11
    clear c11
    by_cases c12 : (ji10) < (l1.length : Int)
    rotate_left
    ·rw [if_neg c12] at H
     exact absurd H (by simp)
    rw [if_pos c12] at H
    have c12b0 : decide ((ji10) < (l1.length : Int)) = true := decide_eq_true c12
    clear c12
    have H' := Kp.a H
    clear H
    have p159 : 0 ≤ ((ji10) : Int) := Kp.d
    have q159 : (ji10) < (l1.length : Int) := Kp.d
    obtain ⟨ad159, e159, hx159_0⟩ := Kd.at_int HR1.out (ji10) p159 q159
    cases e159
    replace hx159_0 := (HB.out.cell (World.block_lt_of_cell? w _ hx159_0)).trans hx159_0
    replace p159 := eq_true p159
    replace q159 := eq_true q159
    go_wp2
    go_meet
    case rel => exact ⟨_, (((rd l1 (ji10)) != 0)), (by first | rfl | (simp; done) | (simp only [← hji10] <;> (first | rfl | simp)) | (simp [*]; done)), H', ⟨by have := HK1.out; first | omega | exact Nat.le_refl _⟩, ⟨Kp.kpR HO_9.out⟩, ⟨Kp.kpB BK155.out⟩, ⟨by repeat (first | (with_reducible first | exact HB.out | apply below_alloc | apply pw_below_drewN | apply below_drew1 | refine below_set ?_ GE155.out) | exact HB.out)⟩⟩
   case rest =>
    clear HC8
    try clear c1
    try clear p1
    try clear q1
    try clear hx1
    try clear c2
    try clear p2
    try clear p6
    try clear c7
    try clear c7b0
    try clear c8
    try clear c9
    try clear c9b0
    try clear c11
    try clear c11b0
    try clear c12
    try clear c12b0
    try clear hcz4_0
    try clear hcz4_1
    try clear hfz4_0
    try clear hfz4_1
    try clear hx159_0
    try clear p159
    try clear p2
    try clear q159
    obtain ⟨kq, x34_7, rfl, HA, HJ7, HO_9, BK155, HB⟩ := hcut
    cases kq with
    | zero => exact absurd HA.out (by simp [spec_l16Bent.j1])
    | succ kj7 =>
     have H := HA.out
     clear HA
     simp only [spec_l16Bent.j1] at H
     have HC13 := Kp.a H
     clear H
     go_upto_if 34 with (fail)
     go_cut [7, 8] (fun v7 v8 wc => ∃ (kq : Nat) (x7_12 : Int) (x8_12 : Int), v7 = .int .i64 x7_12 ∧ v8 = .int .i64 x8_12 ∧ Aside0 (spec_l16Bent.j2 kq l0 l1 x7_12 x8_12 x9_1 x10_1 x156000_1 x156001_1 = some (r1, r2)) ∧ Aside0 (kq ≤ kj7) ∧ Aside0 (Kd.R k34 34 wc w.heap.size (fun k_ => k_ ≠ gb155) u9 x9_1) ∧ Aside0 (wc.heap[gb155]? = some (.cells #[.int .i64 x156000_1, .int .i64 x156001_1] 34 (0, 0))) ∧ Aside0 (Below w.heap.size w wc))
     case first =>
      have H := HC13.out
      clear HC13
      by_cases c14 : x34_7 = true
      rotate_left
      ·replace c14 := Bool.eq_false_iff.mpr c14
       subst c14
       have H1 : (spec_l16Bent.j2 kj7 l0 l1 x7_1 x8_1 x9_1 x10_1 x156000_1 x156001_1) = some (r1, r2) := by rw [if_neg (show ¬ (false = true) by decide)] at H; exact H
       clear H
       have H := H1
       clear H1
       have H' := Kp.a H
       clear H
       go_wp2
       go_meet
       case rel => exact ⟨_, (x7_1), (x8_1), (by first | rfl | (simp; done) | (simp [*]; done)), (by first | rfl | (simp; done) | (simp [*]; done)), H', ⟨by have := HK1.out; have := HJ7.out; first | omega | exact Nat.le_refl _⟩, ⟨Kp.kpR HO_9.out⟩, ⟨Kp.kpB BK155.out⟩, ⟨by repeat (first | (with_reducible first | exact HB.out | apply below_alloc | apply pw_below_drewN | apply below_drew1 | refine below_set ?_ GE155.out) | exact HB.out)⟩⟩
      subst c14
      have H1 : (if 0 ≤ (wrap64 (x10_1 - 1)) then (if (wrap64 (x10_1 - 1)) < (l1.length : Int) then (spec_l16Bent.j2 kj7 l0 l1 (wrap64 ((wrap64 (-x8_1)) * (rd l1 (wrap64 (x10_1 - 1))))) (wrap64 (x7_1 * (rd l1 (wrap64 (x10_1 - 1))))) x9_1 x10_1 x156000_1 x156001_1) else (none)) else (none)) = some (r1, r2) := by rw [if_pos rfl] at H; exact H
      clear H
      have H := H1
      clear H1
      obtain ⟨ji15, hji15⟩ : ∃ j_ : Int, (wrap64 (x10_1 - 1)) = j_ := ⟨_, rfl⟩
      replace H : (if 0 ≤ (ji15) then (if (ji15) < (l1.length : Int) then (spec_l16Bent.j2 kj7 l0 l1 (wrap64 ((wrap64 (-x8_1)) * (rd l1 (ji15)))) (wrap64 (x7_1 * (rd l1 (ji15)))) x9_1 x10_1 x156000_1 x156001_1) else (none)) else (none)) = some (r1, r2) := by first | (rw [hji15] at H; exact H) | (simp only [hji15] at H ⊢; exact H)
      have hji15w : (IntKind.i64.wrap (x10_1 - 1)) = ji15 := (i64_w _).trans hji15
      by_cases c16 : 0 ≤ (ji15)
      rotate_left
      ·rw [if_neg c16] at H
       exact absurd H (by simp)
      rw [if_pos c16] at H
      have c16b0 : decide (0 ≤ (ji15)) = true := decide_eq_true c16
      clear c16
      (first | rw [c16b0] | (simp only [i64_w, i32_w]; rw [c16b0]) | skip)
      by_cases c17 : (ji15) < (l1.length : Int)
      rotate_left
      ·rw [if_neg c17] at H
       exact absurd H (by simp)
      rw [if_pos c17] at H
      have c17b0 : decide ((ji15) < (l1.length : Int)) = true := decide_eq_true c17
      clear c17
      have H' := Kp.a H
      clear H
      have p160 : 0 ≤ ((ji15) : Int) := Kp.d
      have q160 : (ji15) < (l1.length : Int) := Kp.d
      obtain ⟨ad160, e160, hx160_0⟩ := Kd.at_int HR1.out (ji15) p160 q160
      cases e160
      replace hx160_0 := (HB.out.cell (World.block_lt_of_cell? w _ hx160_0)).trans hx160_0
      replace p160 := eq_true p160
      replace q160 := eq_true q160
      have p161 : 0 ≤ ((ji15) : Int) := Kp.d
      have q161 : (ji15) < (l1.length : Int) := Kp.d
      obtain ⟨ad161, e161, hx161_0⟩ := Kd.at_int HR1.out (ji15) p161 q161
      obtain rfl : ad160 = ad161 := (by injection e161)
      replace hx161_0 := (HB.out.cell (World.block_lt_of_cell? w _ hx161_0)).trans hx161_0
      replace p161 := eq_true p161
      replace q161 := eq_true q161
      go_wp2
      go_meet
      case rel => exact ⟨_, (wrap64 ((wrap64 (-x8_1)) * (rd l1 (ji15)))), (wrap64 (x7_1 * (rd l1 (ji15)))), (by first | rfl | (simp; done) | (simp only [← hji15] <;> (first | rfl | simp)) | (simp [*]; done)), (by first | rfl | (simp; done) | (simp only [← hji15] <;> (first | rfl | simp)) | (simp [*]; done)), H', ⟨by have := HK1.out; have := HJ7.out; first | omega | exact Nat.le_refl _⟩, ⟨Kp.kpR HO_9.out⟩, ⟨Kp.kpB BK155.out⟩, ⟨by repeat (first | (with_reducible first | exact HB.out | apply below_alloc | apply pw_below_drewN | apply below_drew1 | refine below_set ?_ GE155.out) | exact HB.out)⟩⟩
     case rest =>
      clear HC13
      try clear c1
      try clear p1
      try clear q1
      try clear hx1
      try clear c2
      try clear p2
      try clear p6
      try clear c7
      try clear c7b0
      try clear c8
      try clear c9
      try clear c9b0
      try clear c11
      try clear c11b0
      try clear c12
      try clear c12b0
      try clear c14
      try clear p15
      try clear q15
      try clear hx15
      try clear c16
      try clear c16b0
      try clear p16
      try clear q16
      try clear hx16
      try clear c17
      try clear c17b0
      try clear hcz4_0
      try clear hcz4_1
      try clear hfz4_0
      try clear hfz4_1
      try clear hx159_0
      try clear hx160_0
      try clear hx161_0
      try clear p1
      try clear p159
      try clear p160
      try clear p161
      try clear p2
      try clear p6
      try clear q1
      try clear q159
      try clear q160
      try clear q161
      obtain ⟨kq, x7_12, x8_12, rfl, rfl, HA, HJ12, HO_9, BK155, HB⟩ := hcut
      cases kq with
      | zero => exact absurd HA.out (by simp [spec_l16Bent.j2])
      | succ kj12 =>
       have H := HA.out
       clear HA
       simp only [spec_l16Bent.j2] at H
       by_cases c18 : 0 ≤ x10_1
       rotate_left
       ·rw [if_neg c18] at H
        exact absurd H (by simp)
       rw [if_pos c18] at H
       have c18b0 : decide (0 ≤ x10_1) = true := decide_eq_true c18
       clear c18
       by_cases c19 : x10_1 < (l0.length : Int)
       rotate_left
       ·rw [if_neg c19] at H
        exact absurd H (by simp)
       rw [if_pos c19] at H
       have c19b0 : decide (x10_1 < (l0.length : Int)) = true := decide_eq_true c19
       clear c19
       have H' := Kp.a H
       clear H
       try go_wp2
       have n0_ := Kp.a (Kd.R_drew HO_9.out)
       have n1_ := Kp.a (blk_drew BK155.out)
       have n2_ := Kp.a (below_drew1 HB.out)
       clear HO_9
       clear BK155
       clear HB
       have HO_9 := n0_
       have BK155 := n1_
       have HB := n2_
       clear n0_ n1_ n2_
       have p162 : 0 ≤ (x10_1 : Int) := Kp.d
       have q162 : x10_1 < (l0.length : Int) := Kp.d
       obtain ⟨ad162, e162, hx162_0⟩ := Kd.at_int HR0.out x10_1 p162 q162
       have hw162_0 := hx162_0
       cases e162
       replace hx162_0 := (HB.out.cell (World.block_lt_of_cell? w _ hx162_0)).trans hx162_0
       replace p162 := eq_true p162
       replace q162 := eq_true q162
       have p163 : 0 ≤ (x10_1 : Int) := Kp.d
       have q163 : x10_1 < (l0.length : Int) := Kp.d
       obtain ⟨ad163, e163, hx163_0⟩ := Kd.at_int HR0.out x10_1 p163 q163
       have hw163_0 := hx163_0
       obtain rfl : ad162 = ad163 := (by injection e163)
       replace hx163_0 := (HB.out.cell (World.block_lt_of_cell? w _ hx163_0)).trans hx163_0
       replace p163 := eq_true p163
       replace q163 := eq_true q163
       refine start_ (n := 21) (S := fun w' => w'.cell? ⟨gb155, 0, none⟩ = some (.int .i64 x156000_1) ∧ w'.cell? ⟨gb155, 1, none⟩ = some (.int .i64 x156001_1) ∧ w'.cell? (ad162.add (x10_1).toNat) = some (.int .i64 (rd l0 x10_1)) ∧ w'.cell? (ad162.add (x10_1).toNat) = some (.int .i64 (rd l0 x10_1))) (ds := []) #[false, false, false, false, false, false, false, false, false, false, false, false, false, false, false, false, false, false, false, false, false] (by kernel_rfl) rfl rfl ⟨(blk_cell BK155.out 0).trans rfl, (blk_cell BK155.out 1).trans rfl, ((HB.out.cell (World.block_lt_of_cell? w _ hw162_0)).trans hw162_0), ((HB.out.cell (World.block_lt_of_cell? w _ hw163_0)).trans hw163_0)⟩ (fun hHeld => ?_); refine with_tabW spec_l16Bent.tab12 spec_l16Bent.bits12 (fun HT_ HW_ => ?_)
       generalize wc.drew = w20 at HO_9 BK155 HB hx162_0 hx163_0 hHeld ⊢
       refine pure_ (i := 0) (N := some 51) (v := ?_) (a' := ?_) #[true, false, false, false, false, false, false, false, false, false, false, false, false, false, false, false, false, false, false, false, false] rfl rfl (any_of HT_.out (by kernel_rfl)) (fun _ _ _ h => h) (Or.inl ⟨by rfl, ?_⟩) ?_ ?_
       rotate_left
       ·intro w'
        go_simp
        with_reducible rfl
       rotate_left
       ·simp only [Act.put, Kp.s0, Kp.s1, Kp.s2, i64_w, i32_w]
        rfl
       refine pure_ (i := 2) (N := some 53) (v := ?_) (a' := ?_) #[true, false, true, false, false, false, false, false, false, false, false, false, false, false, false, false, false, false, false, false, false] rfl rfl (any_of HT_.out (by kernel_rfl)) (fun _ _ _ h => h) (Or.inl ⟨by rfl, ?_⟩) ?_ ?_
       rotate_left
       ·intro w'
        go_simp
        with_reducible rfl
       rotate_left
       ·simp only [Act.put, Kp.s0, Kp.s1, Kp.s2, i64_w, i32_w]
        rfl
       refine pure_ (i := 3) (N := some 54) (v := ?_) (a' := ?_) #[true, false, true, true, false, false, false, false, false, false, false, false, false, false, false, false, false, false, false, false, false] rfl rfl (any_of HT_.out (by kernel_rfl)) (fun _ _ _ h => h) (Or.inl ⟨by rfl, ?_⟩) ?_ ?_
       rotate_left
       ·intro w'
        go_simp
        with_reducible rfl
       rotate_left
       ·simp only [Act.put, Kp.s0, Kp.s1, Kp.s2, i64_w, i32_w]
        rfl
       refine pure_ (i := 4) (N := some 55) (v := ?_) (a' := ?_) #[true, false, true, true, true, false, false, false, false, false, false, false, false, false, false, false, false, false, false, false, false] rfl rfl (any_of HT_.out (by kernel_rfl)) (fun _ _ _ h => h) (Or.inl ⟨by rfl, ?_⟩) ?_ ?_
       rotate_left
       ·intro w'
        go_simp
        with_reducible rfl
       rotate_left
       ·simp only [Act.put, Kp.s0, Kp.s1, Kp.s2, i64_w, i32_w]
        rfl
       refine pure_ (i := 5) (N := some 56) (v := ?_) (a' := ?_) #[true, false, true, true, true, true, false, false, false, false, false, false, false, false, false, false, false, false, false, false, false] rfl rfl (any_of HT_.out (by kernel_rfl)) (fun _ _ _ h => h) (Or.inl ⟨by rfl, ?_⟩) ?_ ?_
       rotate_left
       ·intro w'
        go_simp
        with_reducible rfl
       rotate_left
       ·simp only [Act.put, Kp.s0, Kp.s1, Kp.s2, i64_w, i32_w]
        rfl
       refine pure_ (i := 9) (N := some 60) (v := ?_) (a' := ?_) #[true, false, true, true, true, true, false, false, false, true, false, false, false, false, false, false, false, false, false, false, false] rfl rfl (any_of HT_.out (by kernel_rfl)) (fun _ _ _ h => h) (Or.inl ⟨by rfl, ?_⟩) ?_ ?_
       rotate_left
       ·intro w'
        go_simp
        with_reducible rfl
       rotate_left
       ·simp only [Act.put, Kp.s0, Kp.s1, Kp.s2, i64_w, i32_w]
        rfl
       refine pure_ (i := 11) (N := some 62) (v := ?_) (a' := ?_) #[true, false, true, true, true, true, false, false, false, true, false, true, false, false, false, false, false, false, false, false, false] rfl rfl (any_of HT_.out (by kernel_rfl)) (fun _ _ _ h => h) (Or.inl ⟨by rfl, ?_⟩) ?_ ?_
       rotate_left
       ·intro w'
        go_simp
        with_reducible rfl
       rotate_left
       ·simp only [Act.put, Kp.s0, Kp.s1, Kp.s2, i64_w, i32_w]
        rfl
       refine pure_ (i := 12) (N := some 63) (v := ?_) (a' := ?_) #[true, false, true, true, true, true, false, false, false, true, false, true, true, false, false, false, false, false, false, false, false] rfl rfl (any_of HT_.out (by kernel_rfl)) (fun _ _ _ h => h) (Or.inl ⟨by rfl, ?_⟩) ?_ ?_
       rotate_left
       ·intro w'
        go_simp
        with_reducible rfl
       rotate_left
       ·simp only [Act.put, Kp.s0, Kp.s1, Kp.s2, i64_w, i32_w]
        rfl
       refine pure_ (i := 13) (N := some 64) (v := ?_) (a' := ?_) #[true, false, true, true, true, true, false, false, false, true, false, true, true, true, false, false, false, false, false, false, false] rfl rfl (any_of HT_.out (by kernel_rfl)) (fun _ _ _ h => h) (Or.inl ⟨by rfl, ?_⟩) ?_ ?_
       rotate_left
       ·intro w'
        go_simp
        with_reducible rfl
       rotate_left
       ·simp only [Act.put, Kp.s0, Kp.s1, Kp.s2, i64_w, i32_w]
        rfl
       refine pure_ (i := 14) (N := some 65) (v := ?_) (a' := ?_) #[true, false, true, true, true, true, false, false, false, true, false, true, true, true, true, false, false, false, false, false, false] rfl rfl (any_of HT_.out (by kernel_rfl)) (fun _ _ _ h => h) (Or.inl ⟨by rfl, ?_⟩) ?_ ?_
       rotate_left
       ·intro w'
        go_simp
        with_reducible rfl
       rotate_left
       ·simp only [Act.put, Kp.s0, Kp.s1, Kp.s2, i64_w, i32_w]
        rfl
       refine take_ (i := 1) (N := some 52) (v := ?_) (a' := ?_) #[true, true, true, true, true, true, false, false, false, true, false, true, true, true, true, false, false, false, false, false, false] rfl rfl (take_ofW HT_.out HW_.out (by kernel_rfl)) (fun _ _ _ h => h) (Or.inl ⟨by rfl, ?_⟩) hHeld ?_ ?_
       rotate_left
       ·rintro w' ⟨s0, s1, s2, s3⟩
        go_simp
        with_reducible rfl
       rotate_left
       ·simp only [Act.put, Kp.s0, Kp.s1, Kp.s2, i64_w, i32_w]
        rfl
       refine take_ (i := 6) (N := some 57) (v := ?_) (a' := ?_) #[true, true, true, true, true, true, true, false, false, true, false, true, true, true, true, false, false, false, false, false, false] rfl rfl (take_ofW HT_.out HW_.out (by kernel_rfl)) (fun _ _ _ h => h) (Or.inl ⟨by rfl, ?_⟩) hHeld ?_ ?_
       rotate_left
       ·rintro w' ⟨s0, s1, s2, s3⟩
        go_simp
        with_reducible rfl
       rotate_left
       ·simp only [Act.put, Kp.s0, Kp.s1, Kp.s2, i64_w, i32_w]
        rfl
       refine pure_ (i := 7) (N := some 58) (v := ?_) (a' := ?_) #[true, true, true, true, true, true, true, true, false, true, false, true, true, true, true, false, false, false, false, false, false] rfl rfl (any_of HT_.out (by kernel_rfl)) (fun _ _ _ h => h) (Or.inl ⟨by rfl, ?_⟩) ?_ ?_
       rotate_left
       ·intro w'
        go_simp
        with_reducible rfl
       rotate_left
       ·simp only [Act.put, Kp.s0, Kp.s1, Kp.s2, i64_w, i32_w]
        rfl
       refine pure_ (i := 8) (N := some 59) (v := ?_) (a' := ?_) #[true, true, true, true, true, true, true, true, true, true, false, true, true, true, true, false, false, false, false, false, false] rfl rfl (any_of HT_.out (by kernel_rfl)) (fun _ _ _ h => h) (Or.inl ⟨by rfl, ?_⟩) ?_ ?_
       rotate_left
       ·intro w'
        go_simp
        with_reducible rfl
       rotate_left
       ·simp only [Act.put, Kp.s0, Kp.s1, Kp.s2, i64_w, i32_w]
        rfl
       refine take_ (i := 10) (N := some 61) (v := ?_) (a' := ?_) #[true, true, true, true, true, true, true, true, true, true, true, true, true, true, true, false, false, false, false, false, false] rfl rfl (take_ofW HT_.out HW_.out (by kernel_rfl)) (fun _ _ _ h => h) (Or.inl ⟨by rfl, ?_⟩) hHeld ?_ ?_
       rotate_left
       ·rintro w' ⟨s0, s1, s2, s3⟩
        go_simp
        with_reducible rfl
       rotate_left
       ·simp only [Act.put, Kp.s0, Kp.s1, Kp.s2, i64_w, i32_w]
        rfl
       refine take_ (i := 15) (N := some 66) (v := ?_) (a' := ?_) #[true, true, true, true, true, true, true, true, true, true, true, true, true, true, true, true, false, false, false, false, false] rfl rfl (take_ofW HT_.out HW_.out (by kernel_rfl)) (fun _ _ _ h => h) (Or.inl ⟨by rfl, ?_⟩) hHeld ?_ ?_
       rotate_left
       ·rintro w' ⟨s0, s1, s2, s3⟩
        go_simp
        with_reducible rfl
       rotate_left
       ·simp only [Act.put, Kp.s0, Kp.s1, Kp.s2, i64_w, i32_w]
        rfl
       refine pure_ (i := 16) (N := some 67) (v := ?_) (a' := ?_) #[true, true, true, true, true, true, true, true, true, true, true, true, true, true, true, true, true, false, false, false, false] rfl rfl (any_of HT_.out (by kernel_rfl)) (fun _ _ _ h => h) (Or.inl ⟨by rfl, ?_⟩) ?_ ?_
       rotate_left
       ·intro w'
        go_simp
        with_reducible rfl
       rotate_left
       ·simp only [Act.put, Kp.s0, Kp.s1, Kp.s2, i64_w, i32_w]
        rfl
       refine pure_ (i := 17) (N := some 68) (v := ?_) (a' := ?_) #[true, true, true, true, true, true, true, true, true, true, true, true, true, true, true, true, true, true, false, false, false] rfl rfl (any_of HT_.out (by kernel_rfl)) (fun _ _ _ h => h) (Or.inl ⟨by rfl, ?_⟩) ?_ ?_
       rotate_left
       ·intro w'
        go_simp
        with_reducible rfl
       rotate_left
       ·simp only [Act.put, Kp.s0, Kp.s1, Kp.s2, i64_w, i32_w]
        rfl
       refine pure_ (i := 18) (N := some 69) (v := ?_) (a' := ?_) #[true, true, true, true, true, true, true, true, true, true, true, true, true, true, true, true, true, true, true, false, false] rfl rfl (any_of HT_.out (by kernel_rfl)) (fun _ _ _ h => h) (Or.inl ⟨by rfl, ?_⟩) ?_ ?_
       rotate_left
       ·intro w'
        go_simp
        with_reducible rfl
       rotate_left
       ·simp only [Act.put, Kp.s0, Kp.s1, Kp.s2, i64_w, i32_w]
        rfl
       refine one_ (i := 19) (N := some 12) #[true, true, true, true, true, true, true, true, true, true, true, true, true, true, true, true, true, true, true, true, false] rfl rfl (one_of HT_.out (by kernel_rfl)) (by decide) (fun K hK => ?_)
       refine box_step ?hg (N := 12) ?hd (cs := #[.int .i64 0, .int .i64 0]) (t := 34) ?hr ?_; (case hd => rfl); (case hg => rfl); (case hr => first | (go_simp; done) | (go_simp; rfl))
       intro gb164 hg w21 hbox hb
       have n0_ := Kp.a (Kd.R_below (Kd.R_elderB (Kp.kpR HO_9.out) gb164 (Nat.le_of_eq hg.symm)) hb)
       have n1_ := Kp.a (blk_below (g := gb155) (o := .cells #[.int .i64 x156000_1, .int .i64 x156001_1] 34 (0, 0)) (Kp.kpB BK155.out) hb)
       have n2_ := Kp.a (below_step (by repeat (first | (with_reducible first | exact HB.out | apply below_alloc | apply pw_below_drewN | apply below_drew1 | refine below_set ?_ GE155.out) | exact HB.out)) hb)
       have n3_ := Kp.a (hbox)
       have n4_ := Kp.a ((by rw [hg]; exact (below_size (by repeat (first | (with_reducible first | exact HB.out | apply below_alloc | apply pw_below_drewN | apply below_drew1 | refine below_set ?_ GE155.out) | exact HB.out))) : w.heap.size ≤ gb164))
       have n5_ := Kp.a ((by rw [hg]; exact (below_size (by repeat (first | (with_reducible first | exact HB.out | apply below_alloc | apply pw_below_drewN | apply below_drew1 | refine below_set ?_ GE155.out) | exact HB.out))) : w.heap.size ≤ gb164))
       have n6_ := Kp.a ((by rw [hg]; exact Nat.ne_of_lt (blk_lt (g := gb155) (o := .cells #[.int .i64 x156000_1, .int .i64 x156001_1] 34 (0, 0)) (Kp.kpB BK155.out)) : gb155 ≠ gb164))
       have n7_ := Kp.a ((by rw [hg]; exact Nat.ne_of_gt (blk_lt (g := gb155) (o := .cells #[.int .i64 x156000_1, .int .i64 x156001_1] 34 (0, 0)) (Kp.kpB BK155.out)) : gb164 ≠ gb155))
       clear HO_9
       clear BK155
       clear HB
       have HO_9 := n0_
       have BK155 := n1_
       have HB := n2_
       have BK164 := n3_
       have GW164 := n4_
       have GE164 := n5_
       have NB155_164 := n6_
       have NB164_155 := n7_
       clear n0_ n1_ n2_ n3_ n4_ n5_ n6_ n7_
       clear hb hbox hg
       refine hK.out _ _ ⟨(blk_cell BK155.out 0).trans rfl, (blk_cell BK155.out 1).trans rfl, ((HB.out.cell (World.block_lt_of_cell? w _ hw162_0)).trans hw162_0), ((HB.out.cell (World.block_lt_of_cell? w _ hw163_0)).trans hw163_0)⟩ (fun hHeld => ?_)
       clear hK K
       refine norm_ (a' := ?_) ?_ ?_
       rotate_left
       ·show Act.put _ (some 12) _ = _
        simp only [Act.put, Kp.s0, Kp.s1, Kp.s2, i64_w, i32_w]
        rfl
       refine one_ (i := 20) (N := none) #[true, true, true, true, true, true, true, true, true, true, true, true, true, true, true, true, true, true, true, true, true] rfl rfl (one_of HT_.out (by kernel_rfl)) (by decide) (fun K hK => ?_)
       have hs22 : w21.cell? ⟨gb164, 0, none⟩ = some (.int .i64 0) := (blk_cell BK164.out 0).trans rfl
       have hfs22 := blk_frozen BK164.out 0
       have hns22_0 := NB155_164.out
       have hms22_0 := NB164_155.out
       have hs23 : w21.cell? ⟨gb164, 1, none⟩ = some (.int .i64 0) := (blk_cell BK164.out 1).trans rfl
       have hfs23 := blk_frozen BK164.out 1
       have hns23_0 := NB155_164.out
       have hms23_0 := NB164_155.out
       refine skip_ (w1 := ?_) (by rfl) rfl ?_ ?_
       rotate_left
       ·go_simp
        rfl
       refine hK.out _ _ ⟨((cell_far (p := ⟨gb164, _, none⟩) NB155_164.out _).trans (((cell_far (p := ⟨gb164, _, none⟩) NB155_164.out _).trans (hHeld.1)))), ((cell_far (p := ⟨gb164, _, none⟩) NB155_164.out _).trans (((cell_far (p := ⟨gb164, _, none⟩) NB155_164.out _).trans (hHeld.2.1)))), ((cell_far (p := ⟨gb164, _, none⟩) (by first | exact Nat.ne_of_lt (Nat.lt_of_lt_of_le (by have := World.block_lt_of_cell? _ _ hw162_0; first | rwa [add_block] at this | exact this) GW164.out) | (rw [add_block]; exact Nat.ne_of_lt (Nat.lt_of_lt_of_le (by have := World.block_lt_of_cell? _ _ hw162_0; first | rwa [add_block] at this | exact this) GW164.out)) | (show (Addr.add _ _).block ≠ _; rw [add_block]; exact Nat.ne_of_lt (Nat.lt_of_lt_of_le (by have := World.block_lt_of_cell? _ _ hw162_0; first | rwa [add_block] at this | exact this) GW164.out)) | (dsimp only; exact Nat.ne_of_lt (Nat.lt_of_lt_of_le (by have := World.block_lt_of_cell? _ _ hw162_0; first | rwa [add_block] at this | exact this) GW164.out))) _).trans (((cell_far (p := ⟨gb164, _, none⟩) (by first | exact Nat.ne_of_lt (Nat.lt_of_lt_of_le (by have := World.block_lt_of_cell? _ _ hw162_0; first | rwa [add_block] at this | exact this) GW164.out) | (rw [add_block]; exact Nat.ne_of_lt (Nat.lt_of_lt_of_le (by have := World.block_lt_of_cell? _ _ hw162_0; first | rwa [add_block] at this | exact this) GW164.out)) | (show (Addr.add _ _).block ≠ _; rw [add_block]; exact Nat.ne_of_lt (Nat.lt_of_lt_of_le (by have := World.block_lt_of_cell? _ _ hw162_0; first | rwa [add_block] at this | exact this) GW164.out)) | (dsimp only; exact Nat.ne_of_lt (Nat.lt_of_lt_of_le (by have := World.block_lt_of_cell? _ _ hw162_0; first | rwa [add_block] at this | exact this) GW164.out))) _).trans (hHeld.2.2.1)))), ((cell_far (p := ⟨gb164, _, none⟩) (by first | exact Nat.ne_of_lt (Nat.lt_of_lt_of_le (by have := World.block_lt_of_cell? _ _ hw163_0; first | rwa [add_block] at this | exact this) GW164.out) | (rw [add_block]; exact Nat.ne_of_lt (Nat.lt_of_lt_of_le (by have := World.block_lt_of_cell? _ _ hw163_0; first | rwa [add_block] at this | exact this) GW164.out)) | (show (Addr.add _ _).block ≠ _; rw [add_block]; exact Nat.ne_of_lt (Nat.lt_of_lt_of_le (by have := World.block_lt_of_cell? _ _ hw163_0; first | rwa [add_block] at this | exact this) GW164.out)) | (dsimp only; exact Nat.ne_of_lt (Nat.lt_of_lt_of_le (by have := World.block_lt_of_cell? _ _ hw163_0; first | rwa [add_block] at this | exact this) GW164.out))) _).trans (((cell_far (p := ⟨gb164, _, none⟩) (by first | exact Nat.ne_of_lt (Nat.lt_of_lt_of_le (by have := World.block_lt_of_cell? _ _ hw163_0; first | rwa [add_block] at this | exact this) GW164.out) | (rw [add_block]; exact Nat.ne_of_lt (Nat.lt_of_lt_of_le (by have := World.block_lt_of_cell? _ _ hw163_0; first | rwa [add_block] at this | exact this) GW164.out)) | (show (Addr.add _ _).block ≠ _; rw [add_block]; exact Nat.ne_of_lt (Nat.lt_of_lt_of_le (by have := World.block_lt_of_cell? _ _ hw163_0; first | rwa [add_block] at this | exact this) GW164.out)) | (dsimp only; exact Nat.ne_of_lt (Nat.lt_of_lt_of_le (by have := World.block_lt_of_cell? _ _ hw163_0; first | rwa [add_block] at this | exact this) GW164.out))) _).trans (hHeld.2.2.2))))⟩ (fun hHeld => ?_)
       clear hK K
       refine done_ (done_of HT_.out (by kernel_rfl)) ?_
       try go_wp2
       go_loopg [13] kj12 (fun kq v13 w' => ∃ (x13_4 : Int), v13 = .int .i64 x13_4 ∧ Aside0 (spec_l16Bent.l1 kq l0 l1 x7_12 x8_12 x9_1 x10_1 x13_4 x156000_1 x156001_1 (wrap64 (x156000_1 + (wrap64 (x7_12 * (rd l0 x10_1))))) (wrap64 (x156001_1 + (wrap64 (x8_12 * (rd l0 x10_1))))) = some (r1, r2)) ∧ Aside0 (kq ≤ kj12) ∧ Aside0 (Kd.R k34 34 w' w.heap.size (fun k_ => k_ ≠ gb155 ∧ k_ ≠ gb164) u9 x9_1) ∧ Aside0 (w'.heap[gb155]? = some (.cells #[.int .i64 x156000_1, .int .i64 x156001_1] 34 (0, 0))) ∧ Aside0 (w'.heap[gb164]? = some (.cells #[.int .i64 (wrap64 (x156000_1 + (wrap64 (x7_12 * (rd l0 x10_1))))), .int .i64 (wrap64 (x156001_1 + (wrap64 (x8_12 * (rd l0 x10_1)))))] 34 (0, 0))) ∧ Aside0 (Below w.heap.size w w'))
       case atStart => exact ⟨(0), (by first | rfl | (simp; done) | (simp [*]; done)), H', ⟨Nat.le_refl _⟩, ⟨Kp.kpR (Kd.R_mono (Kd.R_far (p := ⟨gb164, 1, none⟩) (Kd.R_far (p := ⟨gb164, 0, none⟩) (Kd.R_mono HO_9.out (fun k_ hk => (⟨hk, hk.2⟩ : _ ∧ k_ ≠ gb164))) (fun _ hk => hk.2) (.int .i64 (wrap64 (x156000_1 + (wrap64 (x7_12 * (rd l0 x10_1))))))) (fun _ hk => hk.2) (.int .i64 (wrap64 (x156001_1 + (wrap64 (x8_12 * (rd l0 x10_1))))))) (fun _ hk => ⟨hk.1.1, hk.1.2⟩))⟩, ⟨by (with_reducible repeat (first | refine blk_drewN ?_ _ | refine blk_drew ?_ | refine blk_alloc ?_ _)); refine blk_far ?_ NB155_164.out _; (with_reducible repeat (first | refine blk_drewN ?_ _ | refine blk_drew ?_ | refine blk_alloc ?_ _)); refine blk_far ?_ NB155_164.out _; (with_reducible repeat (first | refine blk_drewN ?_ _ | refine blk_drew ?_ | refine blk_alloc ?_ _)); exact BK155.out⟩, ⟨by (with_reducible repeat (first | refine blk_drewN ?_ _ | refine blk_drew ?_ | refine blk_alloc ?_ _)); refine blk_put (cs := #[.int .i64 (wrap64 (x156000_1 + (wrap64 (x7_12 * (rd l0 x10_1))))), .int .i64 0]) ?_ 1 _ rfl; (with_reducible repeat (first | refine blk_drewN ?_ _ | refine blk_drew ?_ | refine blk_alloc ?_ _)); refine blk_put (cs := #[.int .i64 0, .int .i64 0]) ?_ 0 _ rfl; (with_reducible repeat (first | refine blk_drewN ?_ _ | refine blk_drew ?_ | refine blk_alloc ?_ _)); exact BK164.out⟩, ⟨by repeat (first | (with_reducible first | exact HB.out | apply below_alloc | apply pw_below_drewN | apply below_drew1 | refine below_set ?_ GE155.out | refine below_set ?_ GE164.out) | exact HB.out)⟩⟩
       case round =>
        clear H'
        try clear c1
        try clear p1
        try clear q1
        try clear hx1
        try clear c2
        try clear p2
        try clear p6
        try clear c7
        try clear c7b0
        try clear c8
        try clear c9
        try clear c9b0
        try clear c11
        try clear c11b0
        try clear c12
        try clear c12b0
        try clear c14
        try clear p15
        try clear q15
        try clear hx15
        try clear c16
        try clear c16b0
        try clear p16
        try clear q16
        try clear hx16
        try clear c17
        try clear c17b0
        try clear c18
        try clear c18b0
        try clear c19
        try clear c19b0
        try clear hcz4_0
        try clear hcz4_1
        try clear hfz4_0
        try clear hfz4_1
        try clear hx159_0
        try clear hx160_0
        try clear hx161_0
        try clear hx162_0
        try clear hx163_0
        try clear p1
        try clear p15
        try clear p159
        try clear p16
        try clear p160
        try clear p161
        try clear p162
        try clear p163
        try clear p2
        try clear p6
        try clear q1
        try clear q15
        try clear q159
        try clear q16
        try clear q160
        try clear q161
        try clear q162
        try clear q163
        obtain ⟨x13_4, rfl, HA, HK4, HO_9, BK155, BK164, HB⟩ := hrel
        cases gk with
        | zero => exact absurd HA.out (by simp [spec_l16Bent.l1])
        | succ k4 =>
         have H := HA.out
         clear HA
         simp only [spec_l16Bent.l1] at H
         by_cases c24 : x13_4 < x10_1
         rotate_left
         ·rw [if_neg c24] at H
          have c24b0 : decide (x13_4 < x10_1) = false := decide_eq_false c24
          clear c24
          by_cases c50 : x9_1.length < 8796093022208
          rotate_left
          ·rw [if_neg c50] at H
           exact absurd H (by simp)
          rw [if_pos c50] at H
          have LMc50 := Kp.a c50
          clear c50
          obtain ⟨y165, hy165⟩ : ∃ y_ : List (S34), y_ = (x9_1 ++ [(⟨(wrap64 (x156000_1 + (wrap64 (x7_12 * (rd l0 x10_1))))), (wrap64 (x156001_1 + (wrap64 (x8_12 * (rd l0 x10_1)))))⟩ : S34)]) := ⟨_, rfl⟩
          replace H : (spec_l16Bent.l0 k4 l0 l1 x7_12 x8_12 y165 (wrap64 (x10_1 + 1)) (wrap64 (x156000_1 + (wrap64 (x7_12 * (rd l0 x10_1))))) (wrap64 (x156001_1 + (wrap64 (x8_12 * (rd l0 x10_1)))))) = some (r1, r2) := by first | (rw [hy165]; with_reducible exact H) | (have H2_ := (Option.bind_some _ _).symm.trans H; rw [hy165]; with_reducible exact H2_) | (have H2_ := (Option.bind_some _ _).symm.trans H; with_reducible exact H2_) | with_reducible exact H | (rw [hy165]; exact H) | exact H
          have Ny165 := Kp.a hy165
          clear hy165
          have H' := Kp.a H
          clear H
          have hnb51 := NB164_155.out
          have hnc51 := NB155_164.out
          have hcz52_0 : wr.cell? ⟨gb164, 0, none⟩ = some (.int .i64 (wrap64 (x156000_1 + (wrap64 (x7_12 * (rd l0 x10_1)))))) := (blk_cell BK164.out 0).trans rfl
          have hcz52_1 : wr.cell? ⟨gb164, 1, none⟩ = some (.int .i64 (wrap64 (x156001_1 + (wrap64 (x8_12 * (rd l0 x10_1)))))) := (blk_cell BK164.out 1).trans rfl
          have hfz52_0 := blk_frozen BK164.out 0
          have hfz52_1 := blk_frozen BK164.out 1
          have hcz53_0 : wr.cell? ⟨gb155, 0, none⟩ = some (.int .i64 x156000_1) := (blk_cell BK155.out 0).trans rfl
          have hcz53_1 : wr.cell? ⟨gb155, 1, none⟩ = some (.int .i64 x156001_1) := (blk_cell BK155.out 1).trans rfl
          have hfz53_0 := blk_frozen BK155.out 0
          have hfz53_1 := blk_frozen BK155.out 1
          go_wp2_with (first | ((with_reducible refine gate_builtin (b := .append) (xs := #[.tmp 98, .tmp 100]) rfl ?_); at_builtin; refine Kd.R_append k34 (w0 := w) w.heap.size rfl (.tmp 98) (.tmp 100) 24 34 (.agg #[(.int .i64 0), (.int .i64 0)]) 16 rfl Try.underlying24 info34 rfl (by decide) (by omega) u9 x9_1 (⟨(wrap64 (x156000_1 + (wrap64 (x7_12 * (rd l0 x10_1))))), (wrap64 (x156001_1 + (wrap64 (x8_12 * (rd l0 x10_1)))))⟩ : S34) [.int .i64 (wrap64 (x156000_1 + (wrap64 (x7_12 * (rd l0 x10_1))))), .int .i64 (wrap64 (x156001_1 + (wrap64 (x8_12 * (rd l0 x10_1)))))] (fun k_ => k_ ≠ gb155 ∧ k_ ≠ gb164) (fun _ => False) rfl (by first | (go_simp; done) | (go_simp; rfl)) ?aP (fun _ hk => hk.elim) ?aF ?aO ?aB ?aS ?aL ?_; (case aP => exact k34_mkM _ _ _ (⟨(wrap64 (x156000_1 + (wrap64 (x7_12 * (rd l0 x10_1))))), (wrap64 (x156001_1 + (wrap64 (x8_12 * (rd l0 x10_1)))))⟩ : S34)); (case aB => exact (by repeat (first | (with_reducible first | exact HB.out | apply below_alloc | apply pw_below_drewN | apply below_drew1 | refine below_set ?_ GE155.out | refine below_set ?_ GE164.out) | exact HB.out))); (case aF => exact (fun k_ hk => ⟨Kd.freshB (g := gb155) (o := .cells #[.int .i64 (wrap64 (x156000_1 + (wrap64 (x7_12 * (rd l0 x10_1))))), .int .i64 (wrap64 (x156001_1 + (wrap64 (x8_12 * (rd l0 x10_1)))))] 34 (0, 0)) (by (with_reducible repeat (first | refine blk_drewN ?_ _ | refine blk_drew ?_ | refine blk_alloc ?_ _)); refine blk_put (cs := #[.int .i64 (wrap64 (x156000_1 + (wrap64 (x7_12 * (rd l0 x10_1))))), .int .i64 x156001_1]) ?_ 1 _ rfl; (with_reducible repeat (first | refine blk_drewN ?_ _ | refine blk_drew ?_ | refine blk_alloc ?_ _)); refine blk_put (cs := #[.int .i64 x156000_1, .int .i64 x156001_1]) ?_ 0 _ rfl; (with_reducible repeat (first | refine blk_drewN ?_ _ | refine blk_drew ?_ | refine blk_alloc ?_ _)); exact BK155.out) k_ hk, Kd.freshB (g := gb164) (o := .cells #[.int .i64 (wrap64 (x156000_1 + (wrap64 (x7_12 * (rd l0 x10_1))))), .int .i64 (wrap64 (x156001_1 + (wrap64 (x8_12 * (rd l0 x10_1)))))] 34 (0, 0)) (by (with_reducible repeat (first | refine blk_drewN ?_ _ | refine blk_drew ?_ | refine blk_alloc ?_ _)); refine blk_far ?_ NB164_155.out _; (with_reducible repeat (first | refine blk_drewN ?_ _ | refine blk_drew ?_ | refine blk_alloc ?_ _)); refine blk_far ?_ NB164_155.out _; (with_reducible repeat (first | refine blk_drewN ?_ _ | refine blk_drew ?_ | refine blk_alloc ?_ _)); exact BK164.out) k_ hk⟩)); (case aO => exact (Kp.kpR (Kd.R_mono (Kd.R_far (p := ⟨gb155, 1, none⟩) (Kd.R_far (p := ⟨gb155, 0, none⟩) (Kd.R_mono HO_9.out (fun k_ hk => (⟨hk, hk.1⟩ : _ ∧ k_ ≠ gb155))) (fun _ hk => hk.2) (.int .i64 (wrap64 (x156000_1 + (wrap64 (x7_12 * (rd l0 x10_1))))))) (fun _ hk => hk.2) (.int .i64 (wrap64 (x156001_1 + (wrap64 (x8_12 * (rd l0 x10_1))))))) (fun _ hk => ⟨hk.1.1, hk.1.2⟩)))); (case aS => exact (below_size (by repeat (first | (with_reducible first | exact HB.out | apply below_alloc | apply pw_below_drewN | apply below_drew1 | refine below_set ?_ GE155.out | refine below_set ?_ GE164.out) | exact HB.out)))); (case aL => have := LMc50.out; omega); intro v166 w54 ho hb hg hat; rw [← Ny165.out] at ho; have n0_ := Kp.a (blk_grown (g := gb155) (o := .cells #[.int .i64 (wrap64 (x156000_1 + (wrap64 (x7_12 * (rd l0 x10_1))))), .int .i64 (wrap64 (x156001_1 + (wrap64 (x8_12 * (rd l0 x10_1)))))] 34 (0, 0)) (by (with_reducible repeat (first | refine blk_drewN ?_ _ | refine blk_drew ?_ | refine blk_alloc ?_ _)); refine blk_put (cs := #[.int .i64 (wrap64 (x156000_1 + (wrap64 (x7_12 * (rd l0 x10_1))))), .int .i64 x156001_1]) ?_ 1 _ rfl; (with_reducible repeat (first | refine blk_drewN ?_ _ | refine blk_drew ?_ | refine blk_alloc ?_ _)); refine blk_put (cs := #[.int .i64 x156000_1, .int .i64 x156001_1]) ?_ 0 _ rfl; (with_reducible repeat (first | refine blk_drewN ?_ _ | refine blk_drew ?_ | refine blk_alloc ?_ _)); exact BK155.out) hg (Kd.R_away HO_9.out (fun _ hk => hk.1))); have n1_ := Kp.a (blk_grown (g := gb164) (o := .cells #[.int .i64 (wrap64 (x156000_1 + (wrap64 (x7_12 * (rd l0 x10_1))))), .int .i64 (wrap64 (x156001_1 + (wrap64 (x8_12 * (rd l0 x10_1)))))] 34 (0, 0)) (by (with_reducible repeat (first | refine blk_drewN ?_ _ | refine blk_drew ?_ | refine blk_alloc ?_ _)); refine blk_far ?_ NB164_155.out _; (with_reducible repeat (first | refine blk_drewN ?_ _ | refine blk_drew ?_ | refine blk_alloc ?_ _)); refine blk_far ?_ NB164_155.out _; (with_reducible repeat (first | refine blk_drewN ?_ _ | refine blk_drew ?_ | refine blk_alloc ?_ _)); exact BK164.out) hg (Kd.R_away HO_9.out (fun _ hk => hk.2))); have n2_ := Kp.a (hb); have n3_ := Kp.a (ho); clear BK155; clear BK164; clear HB; clear HO_9; have BK155 := n0_; have BK164 := n1_; have HB := n2_; have HO167 := n3_; clear n0_ n1_ n2_ n3_; clear ho hb hg hat))
          go_roundg k4
          case measure => have := HK1.out; have := HJ7.out; have := HJ12.out; have := HK4.out; omega
          case rel => exact ⟨(x7_12), (x8_12), (y165), (wrap64 (x10_1 + 1)), ((wrap64 (x156000_1 + (wrap64 (x7_12 * (rd l0 x10_1)))))), ((wrap64 (x156001_1 + (wrap64 (x8_12 * (rd l0 x10_1)))))), (by first | rfl | (simp; done) | (simp [*]; done)), (by first | rfl | (simp; done) | (simp [*]; done)), (by first | rfl | (simp; done) | (simp [*]; done)), H', ⟨by have := HK1.out; have := HJ7.out; have := HJ12.out; have := HK4.out; omega⟩, ⟨Kp.kpR (Kd.R_mono HO167.out (fun _ hk => hk.1))⟩, ⟨Kp.kpB BK155.out⟩, ⟨by repeat (first | (with_reducible first | exact HB.out | apply below_alloc | apply pw_below_drewN | apply below_drew1 | refine below_set ?_ GE155.out | refine below_set ?_ GE164.out) | exact HB.out)⟩⟩
         rw [if_pos c24] at H
         have c24b0 : decide (x13_4 < x10_1) = true := decide_eq_true c24
         clear c24
         by_cases c25 : 0 ≤ x13_4
         rotate_left
         ·rw [if_neg c25] at H
          exact absurd H (by simp)
         rw [if_pos c25] at H
         have c25b0 : decide (0 ≤ x13_4) = true := decide_eq_true c25
         clear c25
         by_cases c26 : x13_4 < (x9_1.length : Int)
         rotate_left
         ·rw [if_neg c26] at H
          exact absurd H (by simp)
         rw [if_pos c26] at H
         have c26b0 : decide (x13_4 < (x9_1.length : Int)) = true := decide_eq_true c26
         clear c26
         obtain ⟨ji27, hji27⟩ : ∃ j_ : Int, (wrap64 (x13_4 + 1)) = j_ := ⟨_, rfl⟩
         replace H : (if 0 ≤ (ji27) then (if (ji27) < (x9_1.length : Int) then ((spec_l03Cross.f k4 ((rd_T34 x9_1 x13_4).f0) ((rd_T34 x9_1 x13_4).f1) ((rd_T34 x9_1 (ji27)).f0) ((rd_T34 x9_1 (ji27)).f1) x156000_1 x156001_1 (wrap64 (x156000_1 + (wrap64 (x7_12 * (rd l0 x10_1))))) (wrap64 (x156001_1 + (wrap64 (x8_12 * (rd l0 x10_1)))))).bind fun t170 => (if x13_4 = (wrap64 (x10_1 - 1)) then (if (t170.length : Int) > 1 then (some (x9_1, x10_1)) else (spec_l16Bent.l1 k4 l0 l1 x7_12 x8_12 x9_1 x10_1 ji27 x156000_1 x156001_1 (wrap64 (x156000_1 + (wrap64 (x7_12 * (rd l0 x10_1))))) (wrap64 (x156001_1 + (wrap64 (x8_12 * (rd l0 x10_1))))))) else (if (t170.length : Int) > 0 then (some (x9_1, x10_1)) else (spec_l16Bent.l1 k4 l0 l1 x7_12 x8_12 x9_1 x10_1 ji27 x156000_1 x156001_1 (wrap64 (x156000_1 + (wrap64 (x7_12 * (rd l0 x10_1))))) (wrap64 (x156001_1 + (wrap64 (x8_12 * (rd l0 x10_1))))))))) else (none)) else (none)) = some (r1, r2) := by first | (rw [hji27] at H; exact H) | (simp only [hji27] at H ⊢; exact H)
         have hji27w : (IntKind.i64.wrap (x13_4 + 1)) = ji27 := (i64_w _).trans hji27
         by_cases c28 : 0 ≤ (ji27)
         rotate_left
         ·rw [if_neg c28] at H
          exact absurd H (by simp)
         rw [if_pos c28] at H
         have c28b0 : decide (0 ≤ (ji27)) = true := decide_eq_true c28
         clear c28
         by_cases c29 : (ji27) < (x9_1.length : Int)
         rotate_left
         ·rw [if_neg c29] at H
          exact absurd H (by simp)
         rw [if_pos c29] at H
         have c29b0 : decide ((ji27) < (x9_1.length : Int)) = true := decide_eq_true c29
         clear c29
         replace H := Option.bind_eq_some_iff.mp H
         obtain ⟨t170, A300, H⟩ := H
         replace H : (if x13_4 = (wrap64 (x10_1 - 1)) then (if (t170.length : Int) > 1 then (some (x9_1, x10_1)) else (spec_l16Bent.l1 k4 l0 l1 x7_12 x8_12 x9_1 x10_1 ji27 x156000_1 x156001_1 (wrap64 (x156000_1 + (wrap64 (x7_12 * (rd l0 x10_1))))) (wrap64 (x156001_1 + (wrap64 (x8_12 * (rd l0 x10_1))))))) else (if (t170.length : Int) > 0 then (some (x9_1, x10_1)) else (spec_l16Bent.l1 k4 l0 l1 x7_12 x8_12 x9_1 x10_1 ji27 x156000_1 x156001_1 (wrap64 (x156000_1 + (wrap64 (x7_12 * (rd l0 x10_1))))) (wrap64 (x156001_1 + (wrap64 (x8_12 * (rd l0 x10_1)))))))) = some (r1, r2) := H
         have A30 := Kp.a A300
         clear A300
         by_cases c31 : x13_4 = (wrap64 (x10_1 - 1))
         ·rw [if_pos c31] at H
          have c31b0 : (x13_4 == (wrap64 (x10_1 - 1))) = true := beq_iff_eq.mpr c31
          have c31b1 : (x13_4 != (wrap64 (x10_1 - 1))) = false := bne_eq_false_iff_eq.mpr c31
          clear c31
          by_cases c32 : (t170.length : Int) > 1
          ·rw [if_pos c32] at H
           have c32b0 : decide (1 < (t170.length : Int)) = true := decide_eq_true c32
           have c32b1 : decide (1 < t170.length) = true := decide_eq_true (by omega)
           clear c32
           simp only [Option.some.injEq, Prod.mk.injEq] at H
           obtain ⟨rfl, rfl⟩ := H
           try go_wp2
           have n0_ := Kp.a (Kd.R_drew HO_9.out)
           have n1_ := Kp.a (blk_drew BK155.out)
           have n2_ := Kp.a (blk_drew BK164.out)
           have n3_ := Kp.a (below_drew1 HB.out)
           clear HO_9
           clear BK155
           clear BK164
           clear HB
           have HO_9 := n0_
           have BK155 := n1_
           have BK164 := n2_
           have HB := n3_
           clear n0_ n1_ n2_ n3_
           obtain ⟨Ao34, co34, eo34⟩ := Kd.R_slice HO_9.out
           (first | subst eo34 | (injection eo34 with f1_ f2_ f3_; have f4_ := f1_.symm; have f5_ := f3_.symm; clear f1_ f2_ f3_; subst f4_; subst f5_))
           have p168 : 0 ≤ (x13_4 : Int) := Kp.d
           have q168 : x13_4 < (x9_1.length : Int) := Kp.d
           obtain ⟨ad168, e168, hx168_0, hx168_1⟩ := at_T34 (Kd.R_reads' HO_9.out).2.2 x13_4 p168 q168
           cases e168
           replace p168 := eq_true p168
           replace q168 := eq_true q168
           have p169 : 0 ≤ ((ji27) : Int) := Kp.d
           have q169 : (ji27) < (x9_1.length : Int) := Kp.d
           obtain ⟨ad169, e169, hx169_0, hx169_1⟩ := at_T34 (Kd.R_reads' HO_9.out).2.2 (ji27) p169 q169
           obtain rfl : ad168 = ad169 := (by injection e169)
           replace p169 := eq_true p169
           replace q169 := eq_true q169
           refine start_ (n := 13) (S := fun w' => w'.cell? ⟨gb155, 0, none⟩ = some (.int .i64 x156000_1) ∧ w'.cell? ⟨gb155, 1, none⟩ = some (.int .i64 x156001_1) ∧ w'.cell? ⟨gb164, 0, none⟩ = some (.int .i64 (wrap64 (x156000_1 + (wrap64 (x7_12 * (rd l0 x10_1)))))) ∧ w'.cell? ⟨gb164, 1, none⟩ = some (.int .i64 (wrap64 (x156001_1 + (wrap64 (x8_12 * (rd l0 x10_1)))))) ∧ w'.cell? (ad168.add ((x13_4).toNat * 2)) = some (.int .i64 ((rd_T34 x9_1 x13_4).f0)) ∧ w'.cell? ⟨(ad168.add ((x13_4).toNat * 2)).block, (ad168.add ((x13_4).toNat * 2)).off + 1, none⟩ = some (.int .i64 ((rd_T34 x9_1 x13_4).f1)) ∧ w'.cell? (ad168.add (((ji27)).toNat * 2)) = some (.int .i64 ((rd_T34 x9_1 (ji27)).f0)) ∧ w'.cell? ⟨(ad168.add (((ji27)).toNat * 2)).block, (ad168.add (((ji27)).toNat * 2)).off + 1, none⟩ = some (.int .i64 ((rd_T34 x9_1 (ji27)).f1))) (ds := []) #[false, false, false, false, false, false, false, false, false, false, false, false, false] (by kernel_rfl) rfl rfl ⟨(blk_cell BK155.out 0).trans rfl, (blk_cell BK155.out 1).trans rfl, (blk_cell BK164.out 0).trans rfl, (blk_cell BK164.out 1).trans rfl, hx168_0, hx168_1, hx169_0, hx169_1⟩ (fun hHeld => ?_); refine with_tabW spec_l16Bent.tab16 spec_l16Bent.bits16 (fun HT_ HW_ => ?_)
           generalize wr.drew = w33 at HO_9 BK155 BK164 HB hx168_0 hx168_1 hx169_0 hx169_1 hHeld ⊢
           refine pure_ (i := 0) (N := some 75) (v := ?_) (a' := ?_) #[true, false, false, false, false, false, false, false, false, false, false, false, false] rfl rfl (any_of HT_.out (by kernel_rfl)) (fun _ _ _ h => h) (Or.inl ⟨by rfl, ?_⟩) ?_ ?_
           rotate_left
           ·intro w'
            go_simp
            with_reducible rfl
           rotate_left
           ·simp only [Act.put, Kp.s0, Kp.s1, Kp.s2, i64_w, i32_w]
            rfl
           refine pure_ (i := 1) (N := some 76) (v := ?_) (a' := ?_) #[true, true, false, false, false, false, false, false, false, false, false, false, false] rfl rfl (any_of HT_.out (by kernel_rfl)) (fun _ _ _ h => h) (Or.inl ⟨by rfl, ?_⟩) ?_ ?_
           rotate_left
           ·intro w'
            go_simp
            with_reducible rfl
           rotate_left
           ·simp only [Act.put, Kp.s0, Kp.s1, Kp.s2, i64_w, i32_w]
            rfl
           refine pure_ (i := 2) (N := some 77) (v := ?_) (a' := ?_) #[true, true, true, false, false, false, false, false, false, false, false, false, false] rfl rfl (any_of HT_.out (by kernel_rfl)) (fun _ _ _ h => h) (Or.inl ⟨by rfl, ?_⟩) ?_ ?_
           rotate_left
           ·intro w'
            go_simp
            with_reducible rfl
           rotate_left
           ·simp only [Act.put, Kp.s0, Kp.s1, Kp.s2, i64_w, i32_w]
            rfl
           refine pure_ (i := 4) (N := some 79) (v := ?_) (a' := ?_) #[true, true, true, false, true, false, false, false, false, false, false, false, false] rfl rfl (any_of HT_.out (by kernel_rfl)) (fun _ _ _ h => h) (Or.inl ⟨by rfl, ?_⟩) ?_ ?_
           rotate_left
           ·intro w'
            go_simp
            with_reducible rfl
           rotate_left
           ·simp only [Act.put, Kp.s0, Kp.s1, Kp.s2, i64_w, i32_w]
            rfl
           refine pure_ (i := 5) (N := some 80) (v := ?_) (a' := ?_) #[true, true, true, false, true, true, false, false, false, false, false, false, false] rfl rfl (any_of HT_.out (by kernel_rfl)) (fun _ _ _ h => h) (Or.inl ⟨by rfl, ?_⟩) ?_ ?_
           rotate_left
           ·intro w'
            go_simp
            with_reducible rfl
           rotate_left
           ·simp only [Act.put, Kp.s0, Kp.s1, Kp.s2, i64_w, i32_w]
            rfl
           refine pure_ (i := 6) (N := some 81) (v := ?_) (a' := ?_) #[true, true, true, false, true, true, true, false, false, false, false, false, false] rfl rfl (any_of HT_.out (by kernel_rfl)) (fun _ _ _ h => h) (Or.inl ⟨by rfl, ?_⟩) ?_ ?_
           rotate_left
           ·intro w'
            go_simp
            with_reducible rfl
           rotate_left
           ·simp only [Act.put, Kp.s0, Kp.s1, Kp.s2, i64_w, i32_w]
            rfl
           refine pure_ (i := 7) (N := some 82) (v := ?_) (a' := ?_) #[true, true, true, false, true, true, true, true, false, false, false, false, false] rfl rfl (any_of HT_.out (by kernel_rfl)) (fun _ _ _ h => h) (Or.inl ⟨by rfl, ?_⟩) ?_ ?_
           rotate_left
           ·intro w'
            go_simp
            with_reducible rfl
           rotate_left
           ·simp only [Act.put, Kp.s0, Kp.s1, Kp.s2, i64_w, i32_w]
            rfl
           refine take_ (i := 3) (N := some 78) (v := ?_) (a' := ?_) #[true, true, true, true, true, true, true, true, false, false, false, false, false] rfl rfl (take_ofW HT_.out HW_.out (by kernel_rfl)) (fun _ _ _ h => h) (Or.inl ⟨by rfl, ?_⟩) hHeld ?_ ?_
           rotate_left
           ·rintro w' ⟨s0, s1, s2, s3, s4, s5, s6, s7⟩
            go_simp
            with_reducible rfl
           rotate_left
           ·simp only [Act.put, Kp.s0, Kp.s1, Kp.s2, i64_w, i32_w]
            rfl
           refine take_ (i := 8) (N := some 83) (v := ?_) (a' := ?_) #[true, true, true, true, true, true, true, true, true, false, false, false, false] rfl rfl (take_ofW HT_.out HW_.out (by kernel_rfl)) (fun _ _ _ h => h) (Or.inl ⟨by rfl, ?_⟩) hHeld ?_ ?_
           rotate_left
           ·rintro w' ⟨s0, s1, s2, s3, s4, s5, s6, s7⟩
            go_simp
            with_reducible rfl
           rotate_left
           ·simp only [Act.put, Kp.s0, Kp.s1, Kp.s2, i64_w, i32_w]
            rfl
           refine take_ (i := 9) (N := some 84) (v := ?_) (a' := ?_) #[true, true, true, true, true, true, true, true, true, true, false, false, false] rfl rfl (take_ofW HT_.out HW_.out (by kernel_rfl)) (fun _ _ _ h => h) (Or.inl ⟨by rfl, ?_⟩) hHeld ?_ ?_
           rotate_left
           ·rintro w' ⟨s0, s1, s2, s3, s4, s5, s6, s7⟩
            go_simp
            with_reducible rfl
           rotate_left
           ·simp only [Act.put, Kp.s0, Kp.s1, Kp.s2, i64_w, i32_w]
            rfl
           refine take_ (i := 10) (N := some 85) (v := ?_) (a' := ?_) #[true, true, true, true, true, true, true, true, true, true, true, false, false] rfl rfl (take_ofW HT_.out HW_.out (by kernel_rfl)) (fun _ _ _ h => h) (Or.inl ⟨by rfl, ?_⟩) hHeld ?_ ?_
           rotate_left
           ·rintro w' ⟨s0, s1, s2, s3, s4, s5, s6, s7⟩
            go_simp
            with_reducible rfl
           rotate_left
           ·simp only [Act.put, Kp.s0, Kp.s1, Kp.s2, i64_w, i32_w]
            rfl
           refine one_ (i := 11) (N := some 86) #[true, true, true, true, true, true, true, true, true, true, true, true, false] rfl rfl (one_of HT_.out (by kernel_rfl)) (by decide) (fun K hK => ?_)
           refine goes_ Try.func75 (by kernel_rfl) rfl #[.agg #[.int .i64 ((rd_T34 x9_1 x13_4).f0), .int .i64 ((rd_T34 x9_1 x13_4).f1)], .agg #[.int .i64 ((rd_T34 x9_1 (ji27)).f0), .int .i64 ((rd_T34 x9_1 (ji27)).f1)], .agg #[.int .i64 x156000_1, .int .i64 x156001_1], .agg #[.int .i64 (wrap64 (x156000_1 + (wrap64 (x7_12 * (rd l0 x10_1))))), .int .i64 (wrap64 (x156001_1 + (wrap64 (x8_12 * (rd l0 x10_1)))))]] (by rfl) rfl rfl (by (try simp only [List.map_toArray, List.map_cons, List.map_nil]); first | done | (simp only [hji27]; rfl) | rfl | (simp only [List.length_drop, List.length_take]; rfl)) ?_
           with_reducible refine (spec_l03Cross.calls k4 ((rd_T34 x9_1 x13_4).f0) ((rd_T34 x9_1 x13_4).f1) ((rd_T34 x9_1 (ji27)).f0) ((rd_T34 x9_1 (ji27)).f1) x156000_1 x156001_1 (wrap64 (x156000_1 + (wrap64 (x7_12 * (rd l0 x10_1))))) (wrap64 (x156001_1 + (wrap64 (x8_12 * (rd l0 x10_1))))) t170 _ A30.out).mono ?_
           rintro e w35 ⟨v171, rfl, ho0, hb⟩
           have HS4_ := (hb.cell (World.block_lt_of_cell? _ _ (hHeld.2.2.2.2.1))).trans (hHeld.2.2.2.2.1)
           have HS5_ := (hb.cell (World.block_lt_of_cell? _ _ (hHeld.2.2.2.2.2.1))).trans (hHeld.2.2.2.2.2.1)
           have HS6_ := (hb.cell (World.block_lt_of_cell? _ _ (hHeld.2.2.2.2.2.2.1))).trans (hHeld.2.2.2.2.2.2.1)
           have HS7_ := (hb.cell (World.block_lt_of_cell? _ _ (hHeld.2.2.2.2.2.2.2))).trans (hHeld.2.2.2.2.2.2.2)
           refine ⟨_, rfl, ?_⟩
           have n0_ := Kp.a (Kd.R_below (Kp.kpR HO_9.out) hb)
           have n1_ := Kp.a (Kd.R_lower ho0 (below_size (by repeat (first | (with_reducible first | exact HB.out | apply below_alloc | apply pw_below_drewN | apply below_drew1 | refine below_set ?_ GE155.out | refine below_set ?_ GE164.out) | exact HB.out))))
           have n2_ := Kp.a (blk_below (g := gb155) (o := .cells #[.int .i64 x156000_1, .int .i64 x156001_1] 34 (0, 0)) (Kp.kpB BK155.out) hb)
           have n3_ := Kp.a (blk_below (g := gb164) (o := .cells #[.int .i64 (wrap64 (x156000_1 + (wrap64 (x7_12 * (rd l0 x10_1))))), .int .i64 (wrap64 (x156001_1 + (wrap64 (x8_12 * (rd l0 x10_1)))))] 34 (0, 0)) (Kp.kpB BK164.out) hb)
           have n4_ := Kp.a (below_step (by repeat (first | (with_reducible first | exact HB.out | apply below_alloc | apply pw_below_drewN | apply below_drew1 | refine below_set ?_ GE155.out | refine below_set ?_ GE164.out) | exact HB.out)) hb)
           clear HO_9
           clear BK155
           clear BK164
           clear HB
           have HO_9 := n0_
           have HO172 := n1_
           have BK155 := n2_
           have BK164 := n3_
           have HB := n4_
           clear n0_ n1_ n2_ n3_ n4_
           (try clear hb)
           (try clear hb2)
           (try clear hk)
           (try clear hi)
           (try clear ho0)
           refine hK.out _ _ ⟨(blk_cell BK155.out 0).trans rfl, (blk_cell BK155.out 1).trans rfl, (blk_cell BK164.out 0).trans rfl, (blk_cell BK164.out 1).trans rfl, HS4_, HS5_, HS6_, HS7_⟩ (fun hHeld => ?_)
           clear hK K
           refine norm_ (a' := ?_) ?_ ?_
           rotate_left
           ·show Act.put _ (some 86) _ = _
            simp only [Act.put, Kp.s0, Kp.s1, Kp.s2, i64_w, i32_w]
            rfl
           refine pure_ (i := 12) (N := some 14) (v := ?_) (a' := ?_) #[true, true, true, true, true, true, true, true, true, true, true, true, true] rfl rfl (any_of HT_.out (by kernel_rfl)) (fun _ _ _ h => h) (Or.inl ⟨by rfl, ?_⟩) ?_ ?_
           rotate_left
           ·intro w'
            go_simp
            with_reducible rfl
           rotate_left
           ·simp only [Act.put, Kp.s0, Kp.s1, Kp.s2, i64_w, i32_w]
            rfl
           refine done_ (done_of HT_.out (by kernel_rfl)) ?_
           obtain ⟨Ao36, co36, eo36⟩ := Kd.R_slice HO172.out
           subst eo36
           try go_wp2
           go_ret2
           exact ⟨_, by first | rfl | (simp [errW_none, errW_some] <;> rfl) | (simp only [← hji27]; first | rfl | (simp [errW_none, errW_some] <;> rfl)) | (simp [*, errW_none, errW_some] <;> rfl), Kp.kpR (Kd.R_mono HO_9.out (fun _ hk => trivial)), by repeat (first | (with_reducible first | exact HB.out | apply below_alloc | apply pw_below_drewN | apply below_drew1 | refine below_set ?_ GE155.out | refine below_set ?_ GE164.out) | exact HB.out)⟩
          rw [if_neg c32] at H
          have c32b0 : decide (1 < (t170.length : Int)) = false := decide_eq_false c32
          have c32b1 : decide (1 < t170.length) = false := decide_eq_false (by omega)
          clear c32
          have H' := Kp.a H
          clear H
          try go_wp2
          have n0_ := Kp.a (Kd.R_drew HO_9.out)
          have n1_ := Kp.a (blk_drew BK155.out)
          have n2_ := Kp.a (blk_drew BK164.out)
          have n3_ := Kp.a (below_drew1 HB.out)
          clear HO_9
          clear BK155
          clear BK164
          clear HB
          have HO_9 := n0_
          have BK155 := n1_
          have BK164 := n2_
          have HB := n3_
          clear n0_ n1_ n2_ n3_
          obtain ⟨Ao38, co38, eo38⟩ := Kd.R_slice HO_9.out
          (first | subst eo38 | (injection eo38 with f1_ f2_ f3_; have f4_ := f1_.symm; have f5_ := f3_.symm; clear f1_ f2_ f3_; subst f4_; subst f5_))
          have p168 : 0 ≤ (x13_4 : Int) := Kp.d
          have q168 : x13_4 < (x9_1.length : Int) := Kp.d
          obtain ⟨ad168, e168, hx168_0, hx168_1⟩ := at_T34 (Kd.R_reads' HO_9.out).2.2 x13_4 p168 q168
          cases e168
          replace p168 := eq_true p168
          replace q168 := eq_true q168
          have p169 : 0 ≤ ((ji27) : Int) := Kp.d
          have q169 : (ji27) < (x9_1.length : Int) := Kp.d
          obtain ⟨ad169, e169, hx169_0, hx169_1⟩ := at_T34 (Kd.R_reads' HO_9.out).2.2 (ji27) p169 q169
          obtain rfl : ad168 = ad169 := (by injection e169)
          replace p169 := eq_true p169
          replace q169 := eq_true q169
          refine start_ (n := 13) (S := fun w' => w'.cell? ⟨gb155, 0, none⟩ = some (.int .i64 x156000_1) ∧ w'.cell? ⟨gb155, 1, none⟩ = some (.int .i64 x156001_1) ∧ w'.cell? ⟨gb164, 0, none⟩ = some (.int .i64 (wrap64 (x156000_1 + (wrap64 (x7_12 * (rd l0 x10_1)))))) ∧ w'.cell? ⟨gb164, 1, none⟩ = some (.int .i64 (wrap64 (x156001_1 + (wrap64 (x8_12 * (rd l0 x10_1)))))) ∧ w'.cell? (ad168.add ((x13_4).toNat * 2)) = some (.int .i64 ((rd_T34 x9_1 x13_4).f0)) ∧ w'.cell? ⟨(ad168.add ((x13_4).toNat * 2)).block, (ad168.add ((x13_4).toNat * 2)).off + 1, none⟩ = some (.int .i64 ((rd_T34 x9_1 x13_4).f1)) ∧ w'.cell? (ad168.add (((ji27)).toNat * 2)) = some (.int .i64 ((rd_T34 x9_1 (ji27)).f0)) ∧ w'.cell? ⟨(ad168.add (((ji27)).toNat * 2)).block, (ad168.add (((ji27)).toNat * 2)).off + 1, none⟩ = some (.int .i64 ((rd_T34 x9_1 (ji27)).f1))) (ds := []) #[false, false, false, false, false, false, false, false, false, false, false, false, false] (by kernel_rfl) rfl rfl ⟨(blk_cell BK155.out 0).trans rfl, (blk_cell BK155.out 1).trans rfl, (blk_cell BK164.out 0).trans rfl, (blk_cell BK164.out 1).trans rfl, hx168_0, hx168_1, hx169_0, hx169_1⟩ (fun hHeld => ?_); refine with_tabW spec_l16Bent.tab16 spec_l16Bent.bits16 (fun HT_ HW_ => ?_)
          generalize wr.drew = w37 at HO_9 BK155 BK164 HB hx168_0 hx168_1 hx169_0 hx169_1 hHeld ⊢
          refine pure_ (i := 0) (N := some 75) (v := ?_) (a' := ?_) #[true, false, false, false, false, false, false, false, false, false, false, false, false] rfl rfl (any_of HT_.out (by kernel_rfl)) (fun _ _ _ h => h) (Or.inl ⟨by rfl, ?_⟩) ?_ ?_
          rotate_left
          ·intro w'
           go_simp
           with_reducible rfl
          rotate_left
          ·simp only [Act.put, Kp.s0, Kp.s1, Kp.s2, i64_w, i32_w]
           rfl
          refine pure_ (i := 1) (N := some 76) (v := ?_) (a' := ?_) #[true, true, false, false, false, false, false, false, false, false, false, false, false] rfl rfl (any_of HT_.out (by kernel_rfl)) (fun _ _ _ h => h) (Or.inl ⟨by rfl, ?_⟩) ?_ ?_
          rotate_left
          ·intro w'
           go_simp
           with_reducible rfl
          rotate_left
          ·simp only [Act.put, Kp.s0, Kp.s1, Kp.s2, i64_w, i32_w]
           rfl
          refine pure_ (i := 2) (N := some 77) (v := ?_) (a' := ?_) #[true, true, true, false, false, false, false, false, false, false, false, false, false] rfl rfl (any_of HT_.out (by kernel_rfl)) (fun _ _ _ h => h) (Or.inl ⟨by rfl, ?_⟩) ?_ ?_
          rotate_left
          ·intro w'
           go_simp
           with_reducible rfl
          rotate_left
          ·simp only [Act.put, Kp.s0, Kp.s1, Kp.s2, i64_w, i32_w]
           rfl
          refine pure_ (i := 4) (N := some 79) (v := ?_) (a' := ?_) #[true, true, true, false, true, false, false, false, false, false, false, false, false] rfl rfl (any_of HT_.out (by kernel_rfl)) (fun _ _ _ h => h) (Or.inl ⟨by rfl, ?_⟩) ?_ ?_
          rotate_left
          ·intro w'
           go_simp
           with_reducible rfl
          rotate_left
          ·simp only [Act.put, Kp.s0, Kp.s1, Kp.s2, i64_w, i32_w]
           rfl
          refine pure_ (i := 5) (N := some 80) (v := ?_) (a' := ?_) #[true, true, true, false, true, true, false, false, false, false, false, false, false] rfl rfl (any_of HT_.out (by kernel_rfl)) (fun _ _ _ h => h) (Or.inl ⟨by rfl, ?_⟩) ?_ ?_
          rotate_left
          ·intro w'
           go_simp
           with_reducible rfl
          rotate_left
          ·simp only [Act.put, Kp.s0, Kp.s1, Kp.s2, i64_w, i32_w]
           rfl
          refine pure_ (i := 6) (N := some 81) (v := ?_) (a' := ?_) #[true, true, true, false, true, true, true, false, false, false, false, false, false] rfl rfl (any_of HT_.out (by kernel_rfl)) (fun _ _ _ h => h) (Or.inl ⟨by rfl, ?_⟩) ?_ ?_
          rotate_left
          ·intro w'
           go_simp
           with_reducible rfl
          rotate_left
          ·simp only [Act.put, Kp.s0, Kp.s1, Kp.s2, i64_w, i32_w]
           rfl
          refine pure_ (i := 7) (N := some 82) (v := ?_) (a' := ?_) #[true, true, true, false, true, true, true, true, false, false, false, false, false] rfl rfl (any_of HT_.out (by kernel_rfl)) (fun _ _ _ h => h) (Or.inl ⟨by rfl, ?_⟩) ?_ ?_
          rotate_left
          ·intro w'
           go_simp
           with_reducible rfl
          rotate_left
          ·simp only [Act.put, Kp.s0, Kp.s1, Kp.s2, i64_w, i32_w]
           rfl
          refine take_ (i := 3) (N := some 78) (v := ?_) (a' := ?_) #[true, true, true, true, true, true, true, true, false, false, false, false, false] rfl rfl (take_ofW HT_.out HW_.out (by kernel_rfl)) (fun _ _ _ h => h) (Or.inl ⟨by rfl, ?_⟩) hHeld ?_ ?_
          rotate_left
          ·rintro w' ⟨s0, s1, s2, s3, s4, s5, s6, s7⟩
           go_simp
           with_reducible rfl
          rotate_left
          ·simp only [Act.put, Kp.s0, Kp.s1, Kp.s2, i64_w, i32_w]
           rfl
          refine take_ (i := 8) (N := some 83) (v := ?_) (a' := ?_) #[true, true, true, true, true, true, true, true, true, false, false, false, false] rfl rfl (take_ofW HT_.out HW_.out (by kernel_rfl)) (fun _ _ _ h => h) (Or.inl ⟨by rfl, ?_⟩) hHeld ?_ ?_
          rotate_left
          ·rintro w' ⟨s0, s1, s2, s3, s4, s5, s6, s7⟩
           go_simp
           with_reducible rfl
          rotate_left
          ·simp only [Act.put, Kp.s0, Kp.s1, Kp.s2, i64_w, i32_w]
           rfl
          refine take_ (i := 9) (N := some 84) (v := ?_) (a' := ?_) #[true, true, true, true, true, true, true, true, true, true, false, false, false] rfl rfl (take_ofW HT_.out HW_.out (by kernel_rfl)) (fun _ _ _ h => h) (Or.inl ⟨by rfl, ?_⟩) hHeld ?_ ?_
          rotate_left
          ·rintro w' ⟨s0, s1, s2, s3, s4, s5, s6, s7⟩
           go_simp
           with_reducible rfl
          rotate_left
          ·simp only [Act.put, Kp.s0, Kp.s1, Kp.s2, i64_w, i32_w]
           rfl
          refine take_ (i := 10) (N := some 85) (v := ?_) (a' := ?_) #[true, true, true, true, true, true, true, true, true, true, true, false, false] rfl rfl (take_ofW HT_.out HW_.out (by kernel_rfl)) (fun _ _ _ h => h) (Or.inl ⟨by rfl, ?_⟩) hHeld ?_ ?_
          rotate_left
          ·rintro w' ⟨s0, s1, s2, s3, s4, s5, s6, s7⟩
           go_simp
           with_reducible rfl
          rotate_left
          ·simp only [Act.put, Kp.s0, Kp.s1, Kp.s2, i64_w, i32_w]
           rfl
          refine one_ (i := 11) (N := some 86) #[true, true, true, true, true, true, true, true, true, true, true, true, false] rfl rfl (one_of HT_.out (by kernel_rfl)) (by decide) (fun K hK => ?_)
          refine goes_ Try.func75 (by kernel_rfl) rfl #[.agg #[.int .i64 ((rd_T34 x9_1 x13_4).f0), .int .i64 ((rd_T34 x9_1 x13_4).f1)], .agg #[.int .i64 ((rd_T34 x9_1 (ji27)).f0), .int .i64 ((rd_T34 x9_1 (ji27)).f1)], .agg #[.int .i64 x156000_1, .int .i64 x156001_1], .agg #[.int .i64 (wrap64 (x156000_1 + (wrap64 (x7_12 * (rd l0 x10_1))))), .int .i64 (wrap64 (x156001_1 + (wrap64 (x8_12 * (rd l0 x10_1)))))]] (by rfl) rfl rfl (by (try simp only [List.map_toArray, List.map_cons, List.map_nil]); first | done | (simp only [hji27]; rfl) | rfl | (simp only [List.length_drop, List.length_take]; rfl)) ?_
          with_reducible refine (spec_l03Cross.calls k4 ((rd_T34 x9_1 x13_4).f0) ((rd_T34 x9_1 x13_4).f1) ((rd_T34 x9_1 (ji27)).f0) ((rd_T34 x9_1 (ji27)).f1) x156000_1 x156001_1 (wrap64 (x156000_1 + (wrap64 (x7_12 * (rd l0 x10_1))))) (wrap64 (x156001_1 + (wrap64 (x8_12 * (rd l0 x10_1))))) t170 _ A30.out).mono ?_
          rintro e w39 ⟨v171, rfl, ho0, hb⟩
          have HS4_ := (hb.cell (World.block_lt_of_cell? _ _ (hHeld.2.2.2.2.1))).trans (hHeld.2.2.2.2.1)
          have HS5_ := (hb.cell (World.block_lt_of_cell? _ _ (hHeld.2.2.2.2.2.1))).trans (hHeld.2.2.2.2.2.1)
          have HS6_ := (hb.cell (World.block_lt_of_cell? _ _ (hHeld.2.2.2.2.2.2.1))).trans (hHeld.2.2.2.2.2.2.1)
          have HS7_ := (hb.cell (World.block_lt_of_cell? _ _ (hHeld.2.2.2.2.2.2.2))).trans (hHeld.2.2.2.2.2.2.2)
          refine ⟨_, rfl, ?_⟩
          have n0_ := Kp.a (Kd.R_below (Kp.kpR HO_9.out) hb)
          have n1_ := Kp.a (Kd.R_lower ho0 (below_size (by repeat (first | (with_reducible first | exact HB.out | apply below_alloc | apply pw_below_drewN | apply below_drew1 | refine below_set ?_ GE155.out | refine below_set ?_ GE164.out) | exact HB.out))))
          have n2_ := Kp.a (blk_below (g := gb155) (o := .cells #[.int .i64 x156000_1, .int .i64 x156001_1] 34 (0, 0)) (Kp.kpB BK155.out) hb)
          have n3_ := Kp.a (blk_below (g := gb164) (o := .cells #[.int .i64 (wrap64 (x156000_1 + (wrap64 (x7_12 * (rd l0 x10_1))))), .int .i64 (wrap64 (x156001_1 + (wrap64 (x8_12 * (rd l0 x10_1)))))] 34 (0, 0)) (Kp.kpB BK164.out) hb)
          have n4_ := Kp.a (below_step (by repeat (first | (with_reducible first | exact HB.out | apply below_alloc | apply pw_below_drewN | apply below_drew1 | refine below_set ?_ GE155.out | refine below_set ?_ GE164.out) | exact HB.out)) hb)
          clear HO_9
          clear BK155
          clear BK164
          clear HB
          have HO_9 := n0_
          have HO172 := n1_
          have BK155 := n2_
          have BK164 := n3_
          have HB := n4_
          clear n0_ n1_ n2_ n3_ n4_
          (try clear hb)
          (try clear hb2)
          (try clear hk)
          (try clear hi)
          (try clear ho0)
          refine hK.out _ _ ⟨(blk_cell BK155.out 0).trans rfl, (blk_cell BK155.out 1).trans rfl, (blk_cell BK164.out 0).trans rfl, (blk_cell BK164.out 1).trans rfl, HS4_, HS5_, HS6_, HS7_⟩ (fun hHeld => ?_)
          clear hK K
          refine norm_ (a' := ?_) ?_ ?_
          rotate_left
          ·show Act.put _ (some 86) _ = _
           simp only [Act.put, Kp.s0, Kp.s1, Kp.s2, i64_w, i32_w]
           rfl
          refine pure_ (i := 12) (N := some 14) (v := ?_) (a' := ?_) #[true, true, true, true, true, true, true, true, true, true, true, true, true] rfl rfl (any_of HT_.out (by kernel_rfl)) (fun _ _ _ h => h) (Or.inl ⟨by rfl, ?_⟩) ?_ ?_
          rotate_left
          ·intro w'
           go_simp
           with_reducible rfl
          rotate_left
          ·simp only [Act.put, Kp.s0, Kp.s1, Kp.s2, i64_w, i32_w]
           rfl
          refine done_ (done_of HT_.out (by kernel_rfl)) ?_
          obtain ⟨Ao40, co40, eo40⟩ := Kd.R_slice HO172.out
          subst eo40
          try go_wp2
          go_roundg k4
          case measure => have := HK1.out; have := HJ7.out; have := HJ12.out; have := HK4.out; omega
          case rel => exact ⟨(ji27), (by first | rfl | (simp; done) | (simp only [← hji27] <;> (first | rfl | simp)) | (simp [*]; done)), H', ⟨by have := HK1.out; have := HJ7.out; have := HJ12.out; have := HK4.out; omega⟩, ⟨Kp.kpR HO_9.out⟩, ⟨Kp.kpB BK155.out⟩, ⟨Kp.kpB BK164.out⟩, ⟨by repeat (first | (with_reducible first | exact HB.out | apply below_alloc | apply pw_below_drewN | apply below_drew1 | refine below_set ?_ GE155.out | refine below_set ?_ GE164.out) | exact HB.out)⟩⟩
         rw [if_neg c31] at H
         have c31b0 : (x13_4 == (wrap64 (x10_1 - 1))) = false := beq_eq_false_iff_ne.mpr c31
         have c31b1 : (x13_4 != (wrap64 (x10_1 - 1))) = true := bne_iff_ne.mpr c31
         by_cases c41 : (t170.length : Int) > 0
         ·rw [if_pos c41] at H
          have c41b0 : decide (0 < (t170.length : Int)) = true := decide_eq_true c41
          have c41b1 : decide (0 < t170.length) = true := decide_eq_true (by omega)
          clear c41
          simp only [Option.some.injEq, Prod.mk.injEq] at H
          obtain ⟨rfl, rfl⟩ := H
          try go_wp2
          have n0_ := Kp.a (Kd.R_drew HO_9.out)
          have n1_ := Kp.a (blk_drew BK155.out)
          have n2_ := Kp.a (blk_drew BK164.out)
          have n3_ := Kp.a (below_drew1 HB.out)
          clear HO_9
          clear BK155
          clear BK164
          clear HB
          have HO_9 := n0_
          have BK155 := n1_
          have BK164 := n2_
          have HB := n3_
          clear n0_ n1_ n2_ n3_
          obtain ⟨Ao43, co43, eo43⟩ := Kd.R_slice HO_9.out
          (first | subst eo43 | (injection eo43 with f1_ f2_ f3_; have f4_ := f1_.symm; have f5_ := f3_.symm; clear f1_ f2_ f3_; subst f4_; subst f5_))
          have p168 : 0 ≤ (x13_4 : Int) := Kp.d
          have q168 : x13_4 < (x9_1.length : Int) := Kp.d
          obtain ⟨ad168, e168, hx168_0, hx168_1⟩ := at_T34 (Kd.R_reads' HO_9.out).2.2 x13_4 p168 q168
          cases e168
          replace p168 := eq_true p168
          replace q168 := eq_true q168
          have p169 : 0 ≤ ((ji27) : Int) := Kp.d
          have q169 : (ji27) < (x9_1.length : Int) := Kp.d
          obtain ⟨ad169, e169, hx169_0, hx169_1⟩ := at_T34 (Kd.R_reads' HO_9.out).2.2 (ji27) p169 q169
          obtain rfl : ad168 = ad169 := (by injection e169)
          replace p169 := eq_true p169
          replace q169 := eq_true q169
          refine start_ (n := 13) (S := fun w' => w'.cell? ⟨gb155, 0, none⟩ = some (.int .i64 x156000_1) ∧ w'.cell? ⟨gb155, 1, none⟩ = some (.int .i64 x156001_1) ∧ w'.cell? ⟨gb164, 0, none⟩ = some (.int .i64 (wrap64 (x156000_1 + (wrap64 (x7_12 * (rd l0 x10_1)))))) ∧ w'.cell? ⟨gb164, 1, none⟩ = some (.int .i64 (wrap64 (x156001_1 + (wrap64 (x8_12 * (rd l0 x10_1)))))) ∧ w'.cell? (ad168.add ((x13_4).toNat * 2)) = some (.int .i64 ((rd_T34 x9_1 x13_4).f0)) ∧ w'.cell? ⟨(ad168.add ((x13_4).toNat * 2)).block, (ad168.add ((x13_4).toNat * 2)).off + 1, none⟩ = some (.int .i64 ((rd_T34 x9_1 x13_4).f1)) ∧ w'.cell? (ad168.add (((ji27)).toNat * 2)) = some (.int .i64 ((rd_T34 x9_1 (ji27)).f0)) ∧ w'.cell? ⟨(ad168.add (((ji27)).toNat * 2)).block, (ad168.add (((ji27)).toNat * 2)).off + 1, none⟩ = some (.int .i64 ((rd_T34 x9_1 (ji27)).f1))) (ds := []) #[false, false, false, false, false, false, false, false, false, false, false, false, false] (by kernel_rfl) rfl rfl ⟨(blk_cell BK155.out 0).trans rfl, (blk_cell BK155.out 1).trans rfl, (blk_cell BK164.out 0).trans rfl, (blk_cell BK164.out 1).trans rfl, hx168_0, hx168_1, hx169_0, hx169_1⟩ (fun hHeld => ?_); refine with_tabW spec_l16Bent.tab16 spec_l16Bent.bits16 (fun HT_ HW_ => ?_)
          generalize wr.drew = w42 at HO_9 BK155 BK164 HB hx168_0 hx168_1 hx169_0 hx169_1 hHeld ⊢
          refine pure_ (i := 0) (N := some 75) (v := ?_) (a' := ?_) #[true, false, false, false, false, false, false, false, false, false, false, false, false] rfl rfl (any_of HT_.out (by kernel_rfl)) (fun _ _ _ h => h) (Or.inl ⟨by rfl, ?_⟩) ?_ ?_
          rotate_left
          ·intro w'
           go_simp
           with_reducible rfl
          rotate_left
          ·simp only [Act.put, Kp.s0, Kp.s1, Kp.s2, i64_w, i32_w]
           rfl
          refine pure_ (i := 1) (N := some 76) (v := ?_) (a' := ?_) #[true, true, false, false, false, false, false, false, false, false, false, false, false] rfl rfl (any_of HT_.out (by kernel_rfl)) (fun _ _ _ h => h) (Or.inl ⟨by rfl, ?_⟩) ?_ ?_
          rotate_left
          ·intro w'
           go_simp
           with_reducible rfl
          rotate_left
          ·simp only [Act.put, Kp.s0, Kp.s1, Kp.s2, i64_w, i32_w]
           rfl
          refine pure_ (i := 2) (N := some 77) (v := ?_) (a' := ?_) #[true, true, true, false, false, false, false, false, false, false, false, false, false] rfl rfl (any_of HT_.out (by kernel_rfl)) (fun _ _ _ h => h) (Or.inl ⟨by rfl, ?_⟩) ?_ ?_
          rotate_left
          ·intro w'
           go_simp
           with_reducible rfl
          rotate_left
          ·simp only [Act.put, Kp.s0, Kp.s1, Kp.s2, i64_w, i32_w]
           rfl
          refine pure_ (i := 4) (N := some 79) (v := ?_) (a' := ?_) #[true, true, true, false, true, false, false, false, false, false, false, false, false] rfl rfl (any_of HT_.out (by kernel_rfl)) (fun _ _ _ h => h) (Or.inl ⟨by rfl, ?_⟩) ?_ ?_
          rotate_left
          ·intro w'
           go_simp
           with_reducible rfl
          rotate_left
          ·simp only [Act.put, Kp.s0, Kp.s1, Kp.s2, i64_w, i32_w]
           rfl
          refine pure_ (i := 5) (N := some 80) (v := ?_) (a' := ?_) #[true, true, true, false, true, true, false, false, false, false, false, false, false] rfl rfl (any_of HT_.out (by kernel_rfl)) (fun _ _ _ h => h) (Or.inl ⟨by rfl, ?_⟩) ?_ ?_
          rotate_left
          ·intro w'
           go_simp
           with_reducible rfl
          rotate_left
          ·simp only [Act.put, Kp.s0, Kp.s1, Kp.s2, i64_w, i32_w]
           rfl
          refine pure_ (i := 6) (N := some 81) (v := ?_) (a' := ?_) #[true, true, true, false, true, true, true, false, false, false, false, false, false] rfl rfl (any_of HT_.out (by kernel_rfl)) (fun _ _ _ h => h) (Or.inl ⟨by rfl, ?_⟩) ?_ ?_
          rotate_left
          ·intro w'
           go_simp
           with_reducible rfl
          rotate_left
          ·simp only [Act.put, Kp.s0, Kp.s1, Kp.s2, i64_w, i32_w]
           rfl
          refine pure_ (i := 7) (N := some 82) (v := ?_) (a' := ?_) #[true, true, true, false, true, true, true, true, false, false, false, false, false] rfl rfl (any_of HT_.out (by kernel_rfl)) (fun _ _ _ h => h) (Or.inl ⟨by rfl, ?_⟩) ?_ ?_
          rotate_left
          ·intro w'
           go_simp
           with_reducible rfl
          rotate_left
          ·simp only [Act.put, Kp.s0, Kp.s1, Kp.s2, i64_w, i32_w]
           rfl
          refine take_ (i := 3) (N := some 78) (v := ?_) (a' := ?_) #[true, true, true, true, true, true, true, true, false, false, false, false, false] rfl rfl (take_ofW HT_.out HW_.out (by kernel_rfl)) (fun _ _ _ h => h) (Or.inl ⟨by rfl, ?_⟩) hHeld ?_ ?_
          rotate_left
          ·rintro w' ⟨s0, s1, s2, s3, s4, s5, s6, s7⟩
           go_simp
           with_reducible rfl
          rotate_left
          ·simp only [Act.put, Kp.s0, Kp.s1, Kp.s2, i64_w, i32_w]
           rfl
          refine take_ (i := 8) (N := some 83) (v := ?_) (a' := ?_) #[true, true, true, true, true, true, true, true, true, false, false, false, false] rfl rfl (take_ofW HT_.out HW_.out (by kernel_rfl)) (fun _ _ _ h => h) (Or.inl ⟨by rfl, ?_⟩) hHeld ?_ ?_
          rotate_left
          ·rintro w' ⟨s0, s1, s2, s3, s4, s5, s6, s7⟩
           go_simp
           with_reducible rfl
          rotate_left
          ·simp only [Act.put, Kp.s0, Kp.s1, Kp.s2, i64_w, i32_w]
           rfl
          refine take_ (i := 9) (N := some 84) (v := ?_) (a' := ?_) #[true, true, true, true, true, true, true, true, true, true, false, false, false] rfl rfl (take_ofW HT_.out HW_.out (by kernel_rfl)) (fun _ _ _ h => h) (Or.inl ⟨by rfl, ?_⟩) hHeld ?_ ?_
          rotate_left
          ·rintro w' ⟨s0, s1, s2, s3, s4, s5, s6, s7⟩
           go_simp
           with_reducible rfl
          rotate_left
          ·simp only [Act.put, Kp.s0, Kp.s1, Kp.s2, i64_w, i32_w]
           rfl
          refine take_ (i := 10) (N := some 85) (v := ?_) (a' := ?_) #[true, true, true, true, true, true, true, true, true, true, true, false, false] rfl rfl (take_ofW HT_.out HW_.out (by kernel_rfl)) (fun _ _ _ h => h) (Or.inl ⟨by rfl, ?_⟩) hHeld ?_ ?_
          rotate_left
          ·rintro w' ⟨s0, s1, s2, s3, s4, s5, s6, s7⟩
           go_simp
           with_reducible rfl
          rotate_left
          ·simp only [Act.put, Kp.s0, Kp.s1, Kp.s2, i64_w, i32_w]
           rfl
          refine one_ (i := 11) (N := some 86) #[true, true, true, true, true, true, true, true, true, true, true, true, false] rfl rfl (one_of HT_.out (by kernel_rfl)) (by decide) (fun K hK => ?_)
          refine goes_ Try.func75 (by kernel_rfl) rfl #[.agg #[.int .i64 ((rd_T34 x9_1 x13_4).f0), .int .i64 ((rd_T34 x9_1 x13_4).f1)], .agg #[.int .i64 ((rd_T34 x9_1 (ji27)).f0), .int .i64 ((rd_T34 x9_1 (ji27)).f1)], .agg #[.int .i64 x156000_1, .int .i64 x156001_1], .agg #[.int .i64 (wrap64 (x156000_1 + (wrap64 (x7_12 * (rd l0 x10_1))))), .int .i64 (wrap64 (x156001_1 + (wrap64 (x8_12 * (rd l0 x10_1)))))]] (by rfl) rfl rfl (by (try simp only [List.map_toArray, List.map_cons, List.map_nil]); first | done | (simp only [hji27]; rfl) | rfl | (simp only [List.length_drop, List.length_take]; rfl)) ?_
          with_reducible refine (spec_l03Cross.calls k4 ((rd_T34 x9_1 x13_4).f0) ((rd_T34 x9_1 x13_4).f1) ((rd_T34 x9_1 (ji27)).f0) ((rd_T34 x9_1 (ji27)).f1) x156000_1 x156001_1 (wrap64 (x156000_1 + (wrap64 (x7_12 * (rd l0 x10_1))))) (wrap64 (x156001_1 + (wrap64 (x8_12 * (rd l0 x10_1))))) t170 _ A30.out).mono ?_
          rintro e w44 ⟨v171, rfl, ho0, hb⟩
          have HS4_ := (hb.cell (World.block_lt_of_cell? _ _ (hHeld.2.2.2.2.1))).trans (hHeld.2.2.2.2.1)
          have HS5_ := (hb.cell (World.block_lt_of_cell? _ _ (hHeld.2.2.2.2.2.1))).trans (hHeld.2.2.2.2.2.1)
          have HS6_ := (hb.cell (World.block_lt_of_cell? _ _ (hHeld.2.2.2.2.2.2.1))).trans (hHeld.2.2.2.2.2.2.1)
          have HS7_ := (hb.cell (World.block_lt_of_cell? _ _ (hHeld.2.2.2.2.2.2.2))).trans (hHeld.2.2.2.2.2.2.2)
          refine ⟨_, rfl, ?_⟩
          have n0_ := Kp.a (Kd.R_below (Kp.kpR HO_9.out) hb)
          have n1_ := Kp.a (Kd.R_lower ho0 (below_size (by repeat (first | (with_reducible first | exact HB.out | apply below_alloc | apply pw_below_drewN | apply below_drew1 | refine below_set ?_ GE155.out | refine below_set ?_ GE164.out) | exact HB.out))))
          have n2_ := Kp.a (blk_below (g := gb155) (o := .cells #[.int .i64 x156000_1, .int .i64 x156001_1] 34 (0, 0)) (Kp.kpB BK155.out) hb)
          have n3_ := Kp.a (blk_below (g := gb164) (o := .cells #[.int .i64 (wrap64 (x156000_1 + (wrap64 (x7_12 * (rd l0 x10_1))))), .int .i64 (wrap64 (x156001_1 + (wrap64 (x8_12 * (rd l0 x10_1)))))] 34 (0, 0)) (Kp.kpB BK164.out) hb)
          have n4_ := Kp.a (below_step (by repeat (first | (with_reducible first | exact HB.out | apply below_alloc | apply pw_below_drewN | apply below_drew1 | refine below_set ?_ GE155.out | refine below_set ?_ GE164.out) | exact HB.out)) hb)
          clear HO_9
          clear BK155
          clear BK164
          clear HB
          have HO_9 := n0_
          have HO172 := n1_
          have BK155 := n2_
          have BK164 := n3_
          have HB := n4_
          clear n0_ n1_ n2_ n3_ n4_
          (try clear hb)
          (try clear hb2)
          (try clear hk)
          (try clear hi)
          (try clear ho0)
          refine hK.out _ _ ⟨(blk_cell BK155.out 0).trans rfl, (blk_cell BK155.out 1).trans rfl, (blk_cell BK164.out 0).trans rfl, (blk_cell BK164.out 1).trans rfl, HS4_, HS5_, HS6_, HS7_⟩ (fun hHeld => ?_)
          clear hK K
          refine norm_ (a' := ?_) ?_ ?_
          rotate_left
          ·show Act.put _ (some 86) _ = _
           simp only [Act.put, Kp.s0, Kp.s1, Kp.s2, i64_w, i32_w]
           rfl
          refine pure_ (i := 12) (N := some 14) (v := ?_) (a' := ?_) #[true, true, true, true, true, true, true, true, true, true, true, true, true] rfl rfl (any_of HT_.out (by kernel_rfl)) (fun _ _ _ h => h) (Or.inl ⟨by rfl, ?_⟩) ?_ ?_
          rotate_left
          ·intro w'
           go_simp
           with_reducible rfl
          rotate_left
          ·simp only [Act.put, Kp.s0, Kp.s1, Kp.s2, i64_w, i32_w]
           rfl
          refine done_ (done_of HT_.out (by kernel_rfl)) ?_
          obtain ⟨Ao45, co45, eo45⟩ := Kd.R_slice HO172.out
          subst eo45
          try go_wp2
          go_ret2
          exact ⟨_, by first | rfl | (simp [errW_none, errW_some] <;> rfl) | (simp only [← hji27]; first | rfl | (simp [errW_none, errW_some] <;> rfl)) | (simp [*, errW_none, errW_some] <;> rfl), Kp.kpR (Kd.R_mono HO_9.out (fun _ hk => trivial)), by repeat (first | (with_reducible first | exact HB.out | apply below_alloc | apply pw_below_drewN | apply below_drew1 | refine below_set ?_ GE155.out | refine below_set ?_ GE164.out) | exact HB.out)⟩
         rw [if_neg c41] at H
         have c41b0 : decide (0 < (t170.length : Int)) = false := decide_eq_false c41
         have c41b1 : decide (0 < t170.length) = false := decide_eq_false (by omega)
         clear c41
         have H' := Kp.a H
         clear H
         try go_wp2
         have n0_ := Kp.a (Kd.R_drew HO_9.out)
         have n1_ := Kp.a (blk_drew BK155.out)
         have n2_ := Kp.a (blk_drew BK164.out)
         have n3_ := Kp.a (below_drew1 HB.out)
         clear HO_9
         clear BK155
         clear BK164
         clear HB
         have HO_9 := n0_
         have BK155 := n1_
         have BK164 := n2_
         have HB := n3_
         clear n0_ n1_ n2_ n3_
         obtain ⟨Ao47, co47, eo47⟩ := Kd.R_slice HO_9.out
         (first | subst eo47 | (injection eo47 with f1_ f2_ f3_; have f4_ := f1_.symm; have f5_ := f3_.symm; clear f1_ f2_ f3_; subst f4_; subst f5_))
         have p168 : 0 ≤ (x13_4 : Int) := Kp.d
         have q168 : x13_4 < (x9_1.length : Int) := Kp.d
         obtain ⟨ad168, e168, hx168_0, hx168_1⟩ := at_T34 (Kd.R_reads' HO_9.out).2.2 x13_4 p168 q168
         cases e168
         replace p168 := eq_true p168
         replace q168 := eq_true q168
         have p169 : 0 ≤ ((ji27) : Int) := Kp.d
         have q169 : (ji27) < (x9_1.length : Int) := Kp.d
         obtain ⟨ad169, e169, hx169_0, hx169_1⟩ := at_T34 (Kd.R_reads' HO_9.out).2.2 (ji27) p169 q169
         obtain rfl : ad168 = ad169 := (by injection e169)
         replace p169 := eq_true p169
         replace q169 := eq_true q169
         refine start_ (n := 13) (S := fun w' => w'.cell? ⟨gb155, 0, none⟩ = some (.int .i64 x156000_1) ∧ w'.cell? ⟨gb155, 1, none⟩ = some (.int .i64 x156001_1) ∧ w'.cell? ⟨gb164, 0, none⟩ = some (.int .i64 (wrap64 (x156000_1 + (wrap64 (x7_12 * (rd l0 x10_1)))))) ∧ w'.cell? ⟨gb164, 1, none⟩ = some (.int .i64 (wrap64 (x156001_1 + (wrap64 (x8_12 * (rd l0 x10_1)))))) ∧ w'.cell? (ad168.add ((x13_4).toNat * 2)) = some (.int .i64 ((rd_T34 x9_1 x13_4).f0)) ∧ w'.cell? ⟨(ad168.add ((x13_4).toNat * 2)).block, (ad168.add ((x13_4).toNat * 2)).off + 1, none⟩ = some (.int .i64 ((rd_T34 x9_1 x13_4).f1)) ∧ w'.cell? (ad168.add (((ji27)).toNat * 2)) = some (.int .i64 ((rd_T34 x9_1 (ji27)).f0)) ∧ w'.cell? ⟨(ad168.add (((ji27)).toNat * 2)).block, (ad168.add (((ji27)).toNat * 2)).off + 1, none⟩ = some (.int .i64 ((rd_T34 x9_1 (ji27)).f1))) (ds := []) #[false, false, false, false, false, false, false, false, false, false, false, false, false] (by kernel_rfl) rfl rfl ⟨(blk_cell BK155.out 0).trans rfl, (blk_cell BK155.out 1).trans rfl, (blk_cell BK164.out 0).trans rfl, (blk_cell BK164.out 1).trans rfl, hx168_0, hx168_1, hx169_0, hx169_1⟩ (fun hHeld => ?_); refine with_tabW spec_l16Bent.tab16 spec_l16Bent.bits16 (fun HT_ HW_ => ?_)
         generalize wr.drew = w46 at HO_9 BK155 BK164 HB hx168_0 hx168_1 hx169_0 hx169_1 hHeld ⊢
         refine pure_ (i := 0) (N := some 75) (v := ?_) (a' := ?_) #[true, false, false, false, false, false, false, false, false, false, false, false, false] rfl rfl (any_of HT_.out (by kernel_rfl)) (fun _ _ _ h => h) (Or.inl ⟨by rfl, ?_⟩) ?_ ?_
         rotate_left
         ·intro w'
          go_simp
          with_reducible rfl
         rotate_left
         ·simp only [Act.put, Kp.s0, Kp.s1, Kp.s2, i64_w, i32_w]
          rfl
         refine pure_ (i := 1) (N := some 76) (v := ?_) (a' := ?_) #[true, true, false, false, false, false, false, false, false, false, false, false, false] rfl rfl (any_of HT_.out (by kernel_rfl)) (fun _ _ _ h => h) (Or.inl ⟨by rfl, ?_⟩) ?_ ?_
         rotate_left
         ·intro w'
          go_simp
          with_reducible rfl
         rotate_left
         ·simp only [Act.put, Kp.s0, Kp.s1, Kp.s2, i64_w, i32_w]
          rfl
         refine pure_ (i := 2) (N := some 77) (v := ?_) (a' := ?_) #[true, true, true, false, false, false, false, false, false, false, false, false, false] rfl rfl (any_of HT_.out (by kernel_rfl)) (fun _ _ _ h => h) (Or.inl ⟨by rfl, ?_⟩) ?_ ?_
         rotate_left
         ·intro w'
          go_simp
          with_reducible rfl
         rotate_left
         ·simp only [Act.put, Kp.s0, Kp.s1, Kp.s2, i64_w, i32_w]
          rfl
         refine pure_ (i := 4) (N := some 79) (v := ?_) (a' := ?_) #[true, true, true, false, true, false, false, false, false, false, false, false, false] rfl rfl (any_of HT_.out (by kernel_rfl)) (fun _ _ _ h => h) (Or.inl ⟨by rfl, ?_⟩) ?_ ?_
         rotate_left
         ·intro w'
          go_simp
          with_reducible rfl
         rotate_left
         ·simp only [Act.put, Kp.s0, Kp.s1, Kp.s2, i64_w, i32_w]
          rfl
         refine pure_ (i := 5) (N := some 80) (v := ?_) (a' := ?_) #[true, true, true, false, true, true, false, false, false, false, false, false, false] rfl rfl (any_of HT_.out (by kernel_rfl)) (fun _ _ _ h => h) (Or.inl ⟨by rfl, ?_⟩) ?_ ?_
         rotate_left
         ·intro w'
          go_simp
          with_reducible rfl
         rotate_left
         ·simp only [Act.put, Kp.s0, Kp.s1, Kp.s2, i64_w, i32_w]
          rfl
         refine pure_ (i := 6) (N := some 81) (v := ?_) (a' := ?_) #[true, true, true, false, true, true, true, false, false, false, false, false, false] rfl rfl (any_of HT_.out (by kernel_rfl)) (fun _ _ _ h => h) (Or.inl ⟨by rfl, ?_⟩) ?_ ?_
         rotate_left
         ·intro w'
          go_simp
          with_reducible rfl
         rotate_left
         ·simp only [Act.put, Kp.s0, Kp.s1, Kp.s2, i64_w, i32_w]
          rfl
         refine pure_ (i := 7) (N := some 82) (v := ?_) (a' := ?_) #[true, true, true, false, true, true, true, true, false, false, false, false, false] rfl rfl (any_of HT_.out (by kernel_rfl)) (fun _ _ _ h => h) (Or.inl ⟨by rfl, ?_⟩) ?_ ?_
         rotate_left
         ·intro w'
          go_simp
          with_reducible rfl
         rotate_left
         ·simp only [Act.put, Kp.s0, Kp.s1, Kp.s2, i64_w, i32_w]
          rfl
         refine take_ (i := 3) (N := some 78) (v := ?_) (a' := ?_) #[true, true, true, true, true, true, true, true, false, false, false, false, false] rfl rfl (take_ofW HT_.out HW_.out (by kernel_rfl)) (fun _ _ _ h => h) (Or.inl ⟨by rfl, ?_⟩) hHeld ?_ ?_
         rotate_left
         ·rintro w' ⟨s0, s1, s2, s3, s4, s5, s6, s7⟩
          go_simp
          with_reducible rfl
         rotate_left
         ·simp only [Act.put, Kp.s0, Kp.s1, Kp.s2, i64_w, i32_w]
          rfl
         refine take_ (i := 8) (N := some 83) (v := ?_) (a' := ?_) #[true, true, true, true, true, true, true, true, true, false, false, false, false] rfl rfl (take_ofW HT_.out HW_.out (by kernel_rfl)) (fun _ _ _ h => h) (Or.inl ⟨by rfl, ?_⟩) hHeld ?_ ?_
         rotate_left
         ·rintro w' ⟨s0, s1, s2, s3, s4, s5, s6, s7⟩
          go_simp
          with_reducible rfl
         rotate_left
         ·simp only [Act.put, Kp.s0, Kp.s1, Kp.s2, i64_w, i32_w]
          rfl
         refine take_ (i := 9) (N := some 84) (v := ?_) (a' := ?_) #[true, true, true, true, true, true, true, true, true, true, false, false, false] rfl rfl (take_ofW HT_.out HW_.out (by kernel_rfl)) (fun _ _ _ h => h) (Or.inl ⟨by rfl, ?_⟩) hHeld ?_ ?_
         rotate_left
         ·rintro w' ⟨s0, s1, s2, s3, s4, s5, s6, s7⟩
          go_simp
          with_reducible rfl
         rotate_left
         ·simp only [Act.put, Kp.s0, Kp.s1, Kp.s2, i64_w, i32_w]
          rfl
         refine take_ (i := 10) (N := some 85) (v := ?_) (a' := ?_) #[true, true, true, true, true, true, true, true, true, true, true, false, false] rfl rfl (take_ofW HT_.out HW_.out (by kernel_rfl)) (fun _ _ _ h => h) (Or.inl ⟨by rfl, ?_⟩) hHeld ?_ ?_
         rotate_left
         ·rintro w' ⟨s0, s1, s2, s3, s4, s5, s6, s7⟩
          go_simp
          with_reducible rfl
         rotate_left
         ·simp only [Act.put, Kp.s0, Kp.s1, Kp.s2, i64_w, i32_w]
          rfl
         refine one_ (i := 11) (N := some 86) #[true, true, true, true, true, true, true, true, true, true, true, true, false] rfl rfl (one_of HT_.out (by kernel_rfl)) (by decide) (fun K hK => ?_)
         refine goes_ Try.func75 (by kernel_rfl) rfl #[.agg #[.int .i64 ((rd_T34 x9_1 x13_4).f0), .int .i64 ((rd_T34 x9_1 x13_4).f1)], .agg #[.int .i64 ((rd_T34 x9_1 (ji27)).f0), .int .i64 ((rd_T34 x9_1 (ji27)).f1)], .agg #[.int .i64 x156000_1, .int .i64 x156001_1], .agg #[.int .i64 (wrap64 (x156000_1 + (wrap64 (x7_12 * (rd l0 x10_1))))), .int .i64 (wrap64 (x156001_1 + (wrap64 (x8_12 * (rd l0 x10_1)))))]] (by rfl) rfl rfl (by (try simp only [List.map_toArray, List.map_cons, List.map_nil]); first | done | (simp only [hji27]; rfl) | rfl | (simp only [List.length_drop, List.length_take]; rfl)) ?_
         with_reducible refine (spec_l03Cross.calls k4 ((rd_T34 x9_1 x13_4).f0) ((rd_T34 x9_1 x13_4).f1) ((rd_T34 x9_1 (ji27)).f0) ((rd_T34 x9_1 (ji27)).f1) x156000_1 x156001_1 (wrap64 (x156000_1 + (wrap64 (x7_12 * (rd l0 x10_1))))) (wrap64 (x156001_1 + (wrap64 (x8_12 * (rd l0 x10_1))))) t170 _ A30.out).mono ?_
         rintro e w48 ⟨v171, rfl, ho0, hb⟩
         have HS4_ := (hb.cell (World.block_lt_of_cell? _ _ (hHeld.2.2.2.2.1))).trans (hHeld.2.2.2.2.1)
         have HS5_ := (hb.cell (World.block_lt_of_cell? _ _ (hHeld.2.2.2.2.2.1))).trans (hHeld.2.2.2.2.2.1)
         have HS6_ := (hb.cell (World.block_lt_of_cell? _ _ (hHeld.2.2.2.2.2.2.1))).trans (hHeld.2.2.2.2.2.2.1)
         have HS7_ := (hb.cell (World.block_lt_of_cell? _ _ (hHeld.2.2.2.2.2.2.2))).trans (hHeld.2.2.2.2.2.2.2)
         refine ⟨_, rfl, ?_⟩
         have n0_ := Kp.a (Kd.R_below (Kp.kpR HO_9.out) hb)
         have n1_ := Kp.a (Kd.R_lower ho0 (below_size (by repeat (first | (with_reducible first | exact HB.out | apply below_alloc | apply pw_below_drewN | apply below_drew1 | refine below_set ?_ GE155.out | refine below_set ?_ GE164.out) | exact HB.out))))
         have n2_ := Kp.a (blk_below (g := gb155) (o := .cells #[.int .i64 x156000_1, .int .i64 x156001_1] 34 (0, 0)) (Kp.kpB BK155.out) hb)
         have n3_ := Kp.a (blk_below (g := gb164) (o := .cells #[.int .i64 (wrap64 (x156000_1 + (wrap64 (x7_12 * (rd l0 x10_1))))), .int .i64 (wrap64 (x156001_1 + (wrap64 (x8_12 * (rd l0 x10_1)))))] 34 (0, 0)) (Kp.kpB BK164.out) hb)
         have n4_ := Kp.a (below_step (by repeat (first | (with_reducible first | exact HB.out | apply below_alloc | apply pw_below_drewN | apply below_drew1 | refine below_set ?_ GE155.out | refine below_set ?_ GE164.out) | exact HB.out)) hb)
         clear HO_9
         clear BK155
         clear BK164
         clear HB
         have HO_9 := n0_
         have HO172 := n1_
         have BK155 := n2_
         have BK164 := n3_
         have HB := n4_
         clear n0_ n1_ n2_ n3_ n4_
         (try clear hb)
         (try clear hb2)
         (try clear hk)
         (try clear hi)
         (try clear ho0)
         refine hK.out _ _ ⟨(blk_cell BK155.out 0).trans rfl, (blk_cell BK155.out 1).trans rfl, (blk_cell BK164.out 0).trans rfl, (blk_cell BK164.out 1).trans rfl, HS4_, HS5_, HS6_, HS7_⟩ (fun hHeld => ?_)
         clear hK K
         refine norm_ (a' := ?_) ?_ ?_
         rotate_left
         ·show Act.put _ (some 86) _ = _
          simp only [Act.put, Kp.s0, Kp.s1, Kp.s2, i64_w, i32_w]
          rfl
         refine pure_ (i := 12) (N := some 14) (v := ?_) (a' := ?_) #[true, true, true, true, true, true, true, true, true, true, true, true, true] rfl rfl (any_of HT_.out (by kernel_rfl)) (fun _ _ _ h => h) (Or.inl ⟨by rfl, ?_⟩) ?_ ?_
         rotate_left
         ·intro w'
          go_simp
          with_reducible rfl
         rotate_left
         ·simp only [Act.put, Kp.s0, Kp.s1, Kp.s2, i64_w, i32_w]
          rfl
         refine done_ (done_of HT_.out (by kernel_rfl)) ?_
         obtain ⟨Ao49, co49, eo49⟩ := Kd.R_slice HO172.out
         subst eo49
         try go_wp2
         go_roundg k4
         case measure => have := HK1.out; have := HJ7.out; have := HJ12.out; have := HK4.out; omega
         case rel => exact ⟨(ji27), (by first | rfl | (simp; done) | (simp only [← hji27] <;> (first | rfl | simp)) | (simp [*]; done)), H', ⟨by have := HK1.out; have := HJ7.out; have := HJ12.out; have := HK4.out; omega⟩, ⟨Kp.kpR HO_9.out⟩, ⟨Kp.kpB BK155.out⟩, ⟨Kp.kpB BK164.out⟩, ⟨by repeat (first | (with_reducible first | exact HB.out | apply below_alloc | apply pw_below_drewN | apply below_drew1 | refine below_set ?_ GE155.out | refine below_set ?_ GE164.out) | exact HB.out)⟩⟩
end Go.Proofs.Ytgnhcdchpeeoaaa.PW


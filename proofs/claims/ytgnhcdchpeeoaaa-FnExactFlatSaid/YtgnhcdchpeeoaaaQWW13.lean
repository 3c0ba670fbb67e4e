import Derived.Test.YtgnhcdchpeeoaaaQWW0
import Derived.Test.YtgnhcdchpeeoaaaVWk
import Derived.Test.YtgnhcdchpeeoaaaQWW1
import Derived.Test.YtgnhcdchpeeoaaaQWW4
import Derived.Test.YtgnhcdchpeeoaaaQWW11
import Derived.Test.YtgnhcdchpeeoaaaQWW12
namespace Go.Proofs.Ytgnhcdchpeeoaaa.PW
open Go.RowKit Go.Proofs.YtgnhcdchpeeoaaaW.PrintWords Go.Proofs.YtgnhcdchpeeoaaaW.PrintLast Go.Proofs.YtgnhcdchpeeoaaaW.PrintMore
attribute [local go_sem] max2_int min2_int max_two min_two max_three min_three max_four min_four
set_option linter.unusedVariables false
set_option linter.unusedSimpArgs false
attribute [local go_sem high] eqA34
mutual
def impl_Flat.j0 : Nat → List (S34) → Int → Bool → Option (List Int × List Int × Int)
 | 0, _, _, _ => none
 | k + 1, x0, x5, x28 => if x28 = true then (some (([] : List Int), ([] : List Int), 1)) else (impl_Flat.l0 k x0 x5 ([] : List Int) ([] : List Int) 0 0 0)
def impl_Flat.l0 : Nat → List (S34) → Int → List Int → List Int → Int → Int → Int → Option (List Int × List Int × Int)
 | 0, _, _, _, _, _, _, _ => none
 | k + 1, x0, x5, x7, x8, x10, x261000, x261001 => if (wrap64 (x10 + 1)) < x5 then (if 0 ≤ x10 then (if x10 < (x0.length : Int) then (if 0 ≤ (wrap64 (x10 + 1)) then (if (wrap64 (x10 + 1)) < (x0.length : Int) then ((impl_Flat_1.f ((rd_T34 x0 x10).f0) ((rd_T34 x0 x10).f1)).bind fun t265 => (if t265 = true then ((impl_Flat_1.f ((rd_T34 x0 (wrap64 (x10 + 1))).f0) ((rd_T34 x0 (wrap64 (x10 + 1))).f1)).bind fun t266 => (impl_Flat.j2 k x0 x5 x7 x8 x10 (!t266) x261000 x261001 ((rd_T34 x0 x10).f0) ((rd_T34 x0 x10).f1) ((rd_T34 x0 (wrap64 (x10 + 1))).f0) ((rd_T34 x0 (wrap64 (x10 + 1))).f1))) else (impl_Flat.j2 k x0 x5 x7 x8 x10 true x261000 x261001 ((rd_T34 x0 x10).f0) ((rd_T34 x0 x10).f1) ((rd_T34 x0 (wrap64 (x10 + 1))).f0) ((rd_T34 x0 (wrap64 (x10 + 1))).f1)))) else (none)) else (none)) else (none)) else (none)) else ((impl_Bent.f k x7 x8).bind fun bt278 => (if bt278.2.1 = 0 then (impl_Flat.j3 k x0 x7 x8 bt278.1 ((bt278.1.length : Int) != x5)) else (impl_Flat.j3 k x0 x7 x8 bt278.1 true)))
def impl_Flat.j2 : Nat → List (S34) → Int → List Int → List Int → Int → Bool → Int → Int → Int → Int → Int → Int → Option (List Int × List Int × Int)
 | 0, _, _, _, _, _, _, _, _, _, _, _, _ => none
 | k + 1, x0, x5, x7, x8, x10, x53, x261000, x261001, x264000, x264001, x265000, x265001 => if x53 = true then (some (([] : List Int), ([] : List Int), 1)) else ((impl_sign.f (wrap64 (x265000 - x264000))).bind fun t267 => ((impl_sign.f (wrap64 (x265001 - x264001))).bind fun t268 => ((impl_abs.f (wrap64 (x265000 - x264000))).bind fun t270 => ((impl_abs.f (wrap64 (x265001 - x264001))).bind fun t271 => (if x7.length < 17592186044416 then ((some (x7 ++ [wrap64 (t270 + t271)] : List Int)).bind fun y272 => (if x10 > 0 then (if x8.length < 17592186044416 then (impl_Flat.l0 k x0 x5 y272 (x8 ++ [wrap64 ((wrap64 (x261000 * t268)) - (wrap64 (x261001 * t267)))]) (wrap64 (x10 + 1)) t267 t268) else (none)) else (impl_Flat.l0 k x0 x5 y272 x8 (wrap64 (x10 + 1)) t267 t268))) else (none))))))
def impl_Flat.j3 : Nat → List (S34) → List Int → List Int → List (S34) → Bool → Option (List Int × List Int × Int)
 | 0, _, _, _, _, _ => none
 | k + 1, x0, x7, x8, x14, x114 => if x114 = true then (some (([] : List Int), ([] : List Int), 1)) else (impl_Flat.l1 k x0 x7 x8 x14 (x14.length : Int) 0)
def impl_Flat.l1 : Nat → List (S34) → List Int → List Int → List (S34) → Int → Int → Option (List Int × List Int × Int)
 | 0, _, _, _, _, _, _ => none
 | k + 1, x0, x7, x8, x14, x116, x117 => if x117 < x116 then (if 0 ≤ x117 then (if x117 < (x14.length : Int) then (if x117 < (x0.length : Int) then (if (!(((rd_T34 x14 x117).f0) == ((rd_T34 x0 x117).f0)) || (!(((rd_T34 x14 x117).f1) == ((rd_T34 x0 x117).f1)))) = true then (some (([] : List Int), ([] : List Int), 1)) else (impl_Flat.l1 k x0 x7 x8 x14 x116 (wrap64 (x117 + 1)))) else (none)) else (none)) else (none)) else (some (x7, x8, 0))
end
def impl_Flat.f (k : Nat) (l0 : List (S34)) : Option (List Int × List Int × Int) := if (l0.length : Int) > 4096 then (some (([] : List Int), ([] : List Int), 2)) else (if (l0.length : Int) < 2 then (impl_Flat.j0 k l0 (l0.length : Int) true) else (impl_Flat.j0 k l0 (l0.length : Int) (decide ((l0.length : Int) > 41))))
def impl_Flat.T12 : Bool × List (List Nat × List Nat) := (true, [([], []), ([], []), ([0, 1], [0, 1]), ([2], [2]), ([], []), ([], []), ([5], [5]), ([4, 6], [4, 6]), ([7], [7]), ([], []), ([], []), ([9, 3, 0, 1, 2, 3, 9, 10], [3, 9]), ([10, 8, 11, 0, 1, 2, 3, 4, 5, 6, 7, 8, 9, 10, 11], [8, 10])])
def impl_Flat.B12 : List Nat := [0, 0, 3, 7, 0, 0, 32, 112, 240, 0, 0, 1551, 4095]
theorem impl_Flat.tab12 : rtab .any (opsOf Try.f47 12) = impl_Flat.T12 := by kernel_rfl
theorem impl_Flat.bits12 : waitsOk impl_Flat.T12.2 impl_Flat.B12 = true := by kernel_rfl
def impl_Flat.T15 : Bool × List (List Nat × List Nat) := (true, [([], []), ([0], [0]), ([], []), ([2], [2]), ([1, 3], [1, 3]), ([4], [4]), ([], []), ([6], [6]), ([], []), ([8], [8]), ([7, 9], [7, 9]), ([10, 5], [10]), ([5, 11], [5, 11]), ([], []), ([13, 12, 11, 0, 1, 2, 3, 4, 5, 6, 7, 8, 9, 10, 11, 12, 13], [12, 13])])
def impl_Flat.B15 : List Nat := [0, 1, 0, 4, 15, 31, 0, 64, 0, 256, 960, 2047, 4095, 0, 16383]
theorem impl_Flat.tab15 : rtab .any (opsOf Try.f47 15) = impl_Flat.T15 := by kernel_rfl
theorem impl_Flat.bits15 : waitsOk impl_Flat.T15.2 impl_Flat.B15 = true := by kernel_rfl
def impl_Flat.T16 : Bool × List (List Nat × List Nat) := (true, [([], []), ([], []), ([1], [1]), ([], []), ([3], [3]), ([2, 4], [2, 4]), ([5], [5]), ([], []), ([7], [7]), ([], []), ([9], [9]), ([8, 10], [8, 10]), ([11, 6], [11]), ([6, 12], [6, 12]), ([13], [13]), ([0, 14, 12], [0, 14]), ([15, 15, 0, 1, 2, 3, 4, 5, 6, 7, 8, 9, 10, 11, 12, 13, 14, 15], [0, 15])])
def impl_Flat.B16 : List Nat := [0, 0, 2, 0, 8, 30, 62, 0, 128, 0, 512, 1920, 4094, 8190, 16382, 32767, 65535]
theorem impl_Flat.tab16 : rtab .any (opsOf Try.f47 16) = impl_Flat.T16 := by kernel_rfl
theorem impl_Flat.bits16 : waitsOk impl_Flat.T16.2 impl_Flat.B16 = true := by kernel_rfl
def impl_Flat.T26 : Bool × List (List Nat × List Nat) := (true, [([], []), ([], []), ([0, 1], [0, 1]), ([2], [2]), ([], []), ([], []), ([4, 5], [4, 5]), ([6], [6]), ([3, 7], [3, 7])])
def impl_Flat.B26 : List Nat := [0, 0, 3, 7, 0, 0, 48, 112, 255]
theorem impl_Flat.tab26 : rtab .any (opsOf Try.f47 26) = impl_Flat.T26 := by kernel_rfl
theorem impl_Flat.bits26 : waitsOk impl_Flat.T26.2 impl_Flat.B26 = true := by kernel_rfl
set_option maxHeartbeats 8000000 in
set_option maxRecDepth 100000 in
theorem impl_Flat.calls (k : Nat) (A0 : Option Addr) (c0 : Nat) (l0 : List (S34)) (r1 : List Int) (r2 : List Int) (r3 : Int) (w : World) (hr0 : Kd.C k34 w A0 l0.length l0) (hc0 : l0.length ≤ c0) (h : impl_Flat.f k l0 = some (r1, r2, r3)) :
  Calls Try.prog 47 #[.slice A0 l0.length c0] w fun e w' => ∃ v0_ v1_ : Value, e = .returned (.tuple #[v0_, v1_, .int .i64 r3]) ∧ Kd.R (Kd.int .i64) 3 w' w.heap.size (fun k_ => some k_ ≠ (v1_ : Value).ownBlock) v0_ r1 ∧ Kd.R (Kd.int .i64) 3 w' w.heap.size (fun k_ => some k_ ≠ (v0_ : Value).ownBlock) v1_ r2 ∧ Below w.heap.size w w' := by
 have hu34 := Try.underlying34
 have HR0 := Kp.a hr0
 have HC0 := Kp.a hc0
 clear hr0 hc0
 have HB := Kp.a (Below.refl w.heap.size w)
 have H : (if (l0.length : Int) > 4096 then (some (([] : List Int), ([] : List Int), 2)) else (if (l0.length : Int) < 2 then (impl_Flat.j0 k l0 (l0.length : Int) true) else (impl_Flat.j0 k l0 (l0.length : Int) (decide ((l0.length : Int) > 41))))) = some (r1, r2, r3) := h
 clear h
 by_cases c2 : (l0.length : Int) > 4096
 ·rw [if_pos c2] at H
  have c2b0 : decide (4096 < (l0.length : Int)) = true := decide_eq_true c2
  have c2b1 : decide (4096 < l0.length) = true := decide_eq_true (by omega)
  clear c2
  simp only [Option.some.injEq, Prod.mk.injEq] at H
  obtain ⟨rfl, rfl, rfl⟩ := H
  go_enter Try.func47, Try.ntmps47
  go_wp2
  go_ret3
  exact ⟨_, _, by first | rfl | (simp [errW_none, errW_some] <;> rfl) | (simp [*, errW_none, errW_some] <;> rfl), by first | exact Kd.R_nil _ _ _ _ _ | exact Kd.N_nil _ _ _ _ _ | exact Kd.V_nil _ _ _ _ _ | exact Kd.Q_nil _ _ _ _ _ | exact Kd.S_nil _ _ _ _ _, by first | exact Kd.R_nil _ _ _ _ _ | exact Kd.N_nil _ _ _ _ _ | exact Kd.V_nil _ _ _ _ _ | exact Kd.Q_nil _ _ _ _ _ | exact Kd.S_nil _ _ _ _ _, Kp.kpL HB.out⟩
 rw [if_neg c2] at H
 have c2b0 : decide (4096 < (l0.length : Int)) = false := decide_eq_false c2
 have c2b1 : decide (4096 < l0.length) = false := decide_eq_false (by omega)
 clear c2
 have HC3 := Kp.a H
 clear H
 go_enter Try.func47, Try.ntmps47
 go_upto_region 4 with (fail)
 go_cut [28] (fun v28 wc => ∃ (kq : Nat) (x28_2 : Bool), v28 = .bool x28_2 ∧ Aside0 (impl_Flat.j0 kq l0 (l0.length : Int) x28_2 = some (r1, r2, r3)) ∧ Aside0 (kq ≤ k) ∧ Aside0 (Below w.heap.size w wc))
 case first =>
  have H := HC3.out
  clear HC3
  by_cases c4 : (l0.length : Int) < 2
  ·rw [if_pos c4] at H
   have c4b0 : decide ((l0.length : Int) < 2) = true := decide_eq_true c4
   have c4b1 : decide (l0.length < 2) = true := decide_eq_true (by omega)
   clear c4
   (first | rw [c4b0] | (simp only [i64_w, i32_w]; rw [c4b0]) | skip)
   have H' := Kp.a H
   clear H
   go_wp2
   go_meet
   case rel => exact ⟨_, (true), (by first | rfl | (simp; done) | (simp [*]; done)), H', ⟨by first | omega | exact Nat.le_refl _⟩, ⟨Kp.kpL HB.out⟩⟩
  rw [if_neg c4] at H
  have c4b0 : decide ((l0.length : Int) < 2) = false := decide_eq_false c4
  have c4b1 : decide (l0.length < 2) = false := decide_eq_false (by omega)
  clear c4
  (first | rw [c4b0] | (simp only [i64_w, i32_w]; rw [c4b0]) | skip)
  have H' := Kp.a H
  clear H
  go_wp2
  go_meet
  case rel => exact ⟨_, (decide ((l0.length : Int) > 41)), (by first | rfl | (simp; done) | (simp [*]; done)), H', ⟨by first | omega | exact Nat.le_refl _⟩, ⟨Kp.kpL HB.out⟩⟩
 case rest =>
  clear HC3
  try clear c2
  try clear c2b0
  try clear c2b1
  try clear p2
  try clear c4
  try clear c4b0
  try clear c4b1
  obtain ⟨kq, x28_2, rfl, HA, HJ2, HB⟩ := hcut
  cases kq with
  | zero => exact absurd HA.out (by simp [impl_Flat.j0])
  | succ kj2 =>
   have H := HA.out
   clear HA
   simp only [impl_Flat.j0] at H
   by_cases c5 : x28_2 = true
   ·subst c5
    have H1 : (some (([] : List Int), ([] : List Int), 1)) = some (r1, r2, r3) := by rw [if_pos rfl] at H; exact H
    clear H
    have H := H1
    clear H1
    simp only [Option.some.injEq, Prod.mk.injEq] at H
    obtain ⟨rfl, rfl, rfl⟩ := H
    go_wp2
    go_ret3
    exact ⟨_, _, by first | rfl | (simp [errW_none, errW_some] <;> rfl) | (simp [*, errW_none, errW_some] <;> rfl), by first | exact Kd.R_nil _ _ _ _ _ | exact Kd.N_nil _ _ _ _ _ | exact Kd.V_nil _ _ _ _ _ | exact Kd.Q_nil _ _ _ _ _ | exact Kd.S_nil _ _ _ _ _, by first | exact Kd.R_nil _ _ _ _ _ | exact Kd.N_nil _ _ _ _ _ | exact Kd.V_nil _ _ _ _ _ | exact Kd.Q_nil _ _ _ _ _ | exact Kd.S_nil _ _ _ _ _, Kp.kpL HB.out⟩
   replace c5 := Bool.eq_false_iff.mpr c5
   subst c5
   have H1 : (impl_Flat.l0 kj2 l0 (l0.length : Int) ([] : List Int) ([] : List Int) 0 0 0) = some (r1, r2, r3) := by rw [if_neg (show ¬ (false = true) by decide)] at H; exact H
   clear H
   have H := H1
   clear H1
   have H' := Kp.a H
   clear H
   go_wp2_with (first | ((with_reducible refine gate_dst (N := 9) rfl ?_); (try (refine gate_guard (by rfl) ?_; dsimp only)); refine box_event ?hg (N := 9) ?hd (cs := #[.int .i64 0, .int .i64 0]) (t := 34) ?hr ?_; (case hd => rfl); (case hg => rfl); (case hr => first | (go_simp; done) | (go_simp; rfl)); intro gb260 hg w6 hbox hb; have n0_ := Kp.a (below_step (Kp.kpL HB.out) hb); have n1_ := Kp.a (hbox); have n2_ := Kp.a ((by rw [hg]; exact (below_size (Kp.kpL HB.out)) : w.heap.size ≤ gb260)); have n3_ := Kp.a ((by rw [hg]; exact (below_size (Kp.kpL HB.out)) : w.heap.size ≤ gb260)); clear HB; have HB := n0_; have BK260 := n1_; have GW260 := n2_; have GE260 := n3_; clear n0_ n1_ n2_ n3_; clear hb hbox hg))
   go_loopg [7, 8, 10] kj2 (fun kq v7 v8 v10 w' => ∃ (x7_2 : List Int) (x8_2 : List Int) (x10_2 : Int) (x261000_2 : Int) (x261001_2 : Int), v10 = .int .i64 x10_2 ∧ Aside0 (impl_Flat.l0 kq l0 (l0.length : Int) x7_2 x8_2 x10_2 x261000_2 x261001_2 = some (r1, r2, r3)) ∧ Aside0 (kq ≤ kj2) ∧ Aside0 (Kd.R (Kd.int .i64) 3 w' w.heap.size (fun k_ => some k_ ≠ (v8 : Value).ownBlock) v7 x7_2) ∧ Aside0 (Kd.R (Kd.int .i64) 3 w' w.heap.size (fun k_ => some k_ ≠ (v7 : Value).ownBlock) v8 x8_2) ∧ Aside0 (w'.heap[gb260]? = some (.cells #[.int .i64 x261000_2, .int .i64 x261001_2] 34 (0, 0))) ∧ Aside0 (Below w.heap.size w w'))
   case atStart => exact ⟨(([] : List Int)), (([] : List Int)), (0), (0), (0), (by first | rfl | (simp; done) | (simp [*]; done)), H', ⟨Nat.le_refl _⟩, ⟨by first | exact Kd.R_nil _ _ _ _ _ | exact Kd.N_nil _ _ _ _ _ | exact Kd.V_nil _ _ _ _ _ | exact Kd.Q_nil _ _ _ _ _ | exact Kd.S_nil _ _ _ _ _⟩, ⟨by first | exact Kd.R_nil _ _ _ _ _ | exact Kd.N_nil _ _ _ _ _ | exact Kd.V_nil _ _ _ _ _ | exact Kd.Q_nil _ _ _ _ _ | exact Kd.S_nil _ _ _ _ _⟩, ⟨Kp.kpB BK260.out⟩, ⟨by repeat (first | (with_reducible first | exact HB.out | apply below_alloc | apply pw_below_drewN | apply below_drew1 | refine below_set ?_ GE260.out) | exact HB.out)⟩⟩
   case round =>
    clear H'
    try clear c2
    try clear c2b0
    try clear c2b1
    try clear p2
    try clear c4
    try clear c4b0
    try clear c4b1
    try clear c5
    try clear p2
    obtain ⟨x7_2, x8_2, x10_2, x261000_2, x261001_2, rfl, HA, HK2, HO_7, HO_8, BK260, HB⟩ := hrel
    cases gk with
    | zero => exact absurd HA.out (by simp [impl_Flat.l0])
    | succ k2 =>
     have H := HA.out
     clear HA
     simp only [impl_Flat.l0] at H
     by_cases c7 : (wrap64 (x10_2 + 1)) < (l0.length : Int)
     rotate_left
     ·rw [if_neg c7] at H
      have c7b0 : decide ((wrap64 (x10_2 + 1)) < (l0.length : Int)) = false := decide_eq_false c7
      clear c7
      replace H := Option.bind_eq_some_iff.mp H
      obtain ⟨⟨t278, t279, t280⟩, A810, H⟩ := H
      replace H : (if t279 = 0 then (impl_Flat.j3 k2 l0 x7_2 x8_2 t278 ((t278.length : Int) != (l0.length : Int))) else (impl_Flat.j3 k2 l0 x7_2 x8_2 t278 true)) = some (r1, r2, r3) := H
      have A81 := Kp.a A810
      clear A810
      have HC82 := Kp.a H
      clear H
      obtain ⟨Ao83, co83, eo83⟩ := Kd.R_slice HO_7.out
      subst eo83
      obtain ⟨Ao84, co84, eo84⟩ := Kd.R_slice HO_8.out
      subst eo84
      go_upto_region 21 with (first | ((with_reducible refine gate_callee (f := 41) rfl ?_); refine goesL_ (some 103) rfl rfl Try.func41 (by kernel_rfl) rfl #[.slice Ao83 x7_2.length co83, .slice Ao84 x8_2.length co84] rfl (by (try simp only [List.map_toArray, List.map_cons, List.map_nil]); first | done | rfl | (simp only [List.length_drop, List.length_take]; rfl)) ?_; (with_reducible refine (impl_Bent.calls k2 _ _ x7_2 _ _ x8_2 t278 t279 t280 _ ?side1 ?side2 ?side3 ?side4 A81.out).mono ?_); (case side1 => repeat (first | exact (Kd.R_reads' HO_7.out).2.2 | (with_reducible refine Kd.C_alloc ?_ _) | (with_reducible refine Kd.C_drewN ?_ _) | (with_reducible refine Kd.C_drew ?_))); (case side2 => exact (Kd.R_reads' HO_7.out).2.1); (case side3 => repeat (first | exact (Kd.R_reads' HO_8.out).2.2 | (with_reducible refine Kd.C_alloc ?_ _) | (with_reducible refine Kd.C_drewN ?_ _) | (with_reducible refine Kd.C_drew ?_))); (case side4 => exact (Kd.R_reads' HO_8.out).2.1); rintro e w85 ⟨v281, rfl, ho0, hb⟩; refine ⟨_, rfl, ?_⟩; have n0_ := Kp.a (Kd.R_below (Kp.kpR HO_7.out) hb); have n1_ := Kp.a (Kd.R_below (Kp.kpR HO_8.out) hb); have n2_ := Kp.a (Kd.R_lower (Kd.R_newB ho0 (g := gb260) (o := .cells #[.int .i64 x261000_2, .int .i64 x261001_2] 34 (0, 0)) (Kp.kpB BK260.out)) (below_size (by repeat (first | (with_reducible first | exact HB.out | apply below_alloc | apply pw_below_drewN | apply below_drew1 | refine below_set ?_ GE260.out) | exact HB.out)))); have n3_ := Kp.a (blk_below (g := gb260) (o := .cells #[.int .i64 x261000_2, .int .i64 x261001_2] 34 (0, 0)) (Kp.kpB BK260.out) hb); have n4_ := Kp.a (below_step (by repeat (first | (with_reducible first | exact HB.out | apply below_alloc | apply pw_below_drewN | apply below_drew1 | refine below_set ?_ GE260.out) | exact HB.out)) hb); clear HO_7; clear HO_8; clear BK260; clear HB; have HO_7 := n0_; have HO_8 := n1_; have HO282 := n2_; have BK260 := n3_; have HB := n4_; clear n0_ n1_ n2_ n3_ n4_; (try clear hb); (try clear hb2); (try clear hk); (try clear hi); (try clear ho0)))
      (try simp only [Act.put, Kp.s0, Kp.s1, Kp.s2])
      go_cut [114] (fun v114 wc => ∃ (kq : Nat) (x114_81 : Bool), v114 = .bool x114_81 ∧ Aside0 (impl_Flat.j3 kq l0 x7_2 x8_2 t278 x114_81 = some (r1, r2, r3)) ∧ Aside0 (kq ≤ k2) ∧ Aside0 (Kd.R (Kd.int .i64) 3 wc w.heap.size (fun k_ => some k_ ≠ ((.slice Ao84 x8_2.length co84) : Value).ownBlock) (.slice Ao83 x7_2.length co83) x7_2) ∧ Aside0 (Kd.R (Kd.int .i64) 3 wc w.heap.size (fun k_ => some k_ ≠ ((.slice Ao83 x7_2.length co83) : Value).ownBlock) (.slice Ao84 x8_2.length co84) x8_2) ∧ Aside0 (Kd.R k34 34 wc w.heap.size (fun k_ => k_ ≠ gb260) v281 t278) ∧ Aside0 (wc.heap[gb260]? = some (.cells #[.int .i64 x261000_2, .int .i64 x261001_2] 34 (0, 0))) ∧ Aside0 (Below w.heap.size w wc))
      case first =>
       have H := HC82.out
       clear HC82
       by_cases c86 : t279 = 0
       rotate_left
       ·rw [if_neg c86] at H
        have c86b0 : (t279 == 0) = false := beq_eq_false_iff_ne.mpr c86
        have c86b1 : (t279 != 0) = true := bne_iff_ne.mpr c86
        (first | rw [c86b0] | (simp only [i64_w, i32_w]; rw [c86b0]) | skip)
        have H' := Kp.a H
        clear H
        go_wp2
        go_meet
        case rel => exact ⟨_, (true), (by first | rfl | (simp; done) | (simp [*]; done)), H', ⟨by have := HJ2.out; have := HK2.out; first | omega | exact Nat.le_refl _⟩, ⟨Kp.kpR HO_7.out⟩, ⟨Kp.kpR HO_8.out⟩, ⟨Kp.kpR (Kd.R_mono HO282.out (fun _ hk => hk.2))⟩, ⟨Kp.kpB BK260.out⟩, ⟨by repeat (first | (with_reducible first | exact HB.out | apply below_alloc | apply pw_below_drewN | apply below_drew1 | refine below_set ?_ GE260.out) | exact HB.out)⟩⟩
       rw [if_pos c86] at H
       have c86b0 : (t279 == 0) = true := beq_iff_eq.mpr c86
       have c86b1 : (t279 != 0) = false := bne_eq_false_iff_eq.mpr c86
       clear c86
       (first | rw [c86b0] | (simp only [i64_w, i32_w]; rw [c86b0]) | skip)
       have H' := Kp.a H
       clear H
       obtain ⟨Ao87, co87, eo87⟩ := Kd.R_slice HO282.out
       subst eo87
       go_wp2
       go_meet
       case rel => exact ⟨_, (((t278.length : Int) != (l0.length : Int))), (by first | rfl | (simp; done) | (simp [*]; done)), H', ⟨by have := HJ2.out; have := HK2.out; first | omega | exact Nat.le_refl _⟩, ⟨Kp.kpR HO_7.out⟩, ⟨Kp.kpR HO_8.out⟩, ⟨Kp.kpR (Kd.R_mono HO282.out (fun _ hk => hk.2))⟩, ⟨Kp.kpB BK260.out⟩, ⟨by repeat (first | (with_reducible first | exact HB.out | apply below_alloc | apply pw_below_drewN | apply below_drew1 | refine below_set ?_ GE260.out) | exact HB.out)⟩⟩
      case rest =>
       clear HC82
       try clear c1
       try clear p2
       try clear c4
       try clear c6
       try clear p6
       try clear c7
       try clear c7b0
       try clear c8
       try clear c9
       try clear c11
       try clear c12
       try clear c41
       try clear p64
       try clear c65
       try clear c74
       try clear c75
       try clear c76
       try clear c78
       try clear c79
       try clear c86
       try clear c86b0
       try clear c86b1
       try clear hcz77_0
       try clear hcz77_1
       try clear hcz80_0
       try clear hcz80_1
       try clear hfz77_0
       try clear hfz77_1
       try clear hfz80_0
       try clear hfz80_1
       obtain ⟨kq, x114_81, rfl, HA, HJ81, HO_7, HO_8, HO_14, BK260, HB⟩ := hcut
       cases kq with
       | zero => exact absurd HA.out (by simp [impl_Flat.j3])
       | succ kj81 =>
        have H := HA.out
        clear HA
        simp only [impl_Flat.j3] at H
        by_cases c88 : x114_81 = true
        ·subst c88
         have H1 : (some (([] : List Int), ([] : List Int), 1)) = some (r1, r2, r3) := by rw [if_pos rfl] at H; exact H
         clear H
         have H := H1
         clear H1
         simp only [Option.some.injEq, Prod.mk.injEq] at H
         obtain ⟨rfl, rfl, rfl⟩ := H
         go_wp2
         go_ret3
         exact ⟨_, _, by first | rfl | (simp [errW_none, errW_some] <;> rfl) | (simp [*, errW_none, errW_some] <;> rfl), by first | exact Kd.R_nil _ _ _ _ _ | exact Kd.N_nil _ _ _ _ _ | exact Kd.V_nil _ _ _ _ _ | exact Kd.Q_nil _ _ _ _ _ | exact Kd.S_nil _ _ _ _ _, by first | exact Kd.R_nil _ _ _ _ _ | exact Kd.N_nil _ _ _ _ _ | exact Kd.V_nil _ _ _ _ _ | exact Kd.Q_nil _ _ _ _ _ | exact Kd.S_nil _ _ _ _ _, by repeat (first | (with_reducible first | exact HB.out | apply below_alloc | apply pw_below_drewN | apply below_drew1 | refine below_set ?_ GE260.out) | exact HB.out)⟩
        replace c88 := Bool.eq_false_iff.mpr c88
        subst c88
        have H1 : (impl_Flat.l1 kj81 l0 x7_2 x8_2 t278 (t278.length : Int) 0) = some (r1, r2, r3) := by rw [if_neg (show ¬ (false = true) by decide)] at H; exact H
        clear H
        have H := H1
        clear H1
        have H' := Kp.a H
        clear H
        obtain ⟨Ao89, co89, eo89⟩ := Kd.R_slice HO_14.out
        subst eo89
        go_wp2
        go_loopg [117] kj81 (fun kq v117 w' => ∃ (x117_4 : Int), v117 = .int .i64 x117_4 ∧ Aside0 (impl_Flat.l1 kq l0 x7_2 x8_2 t278 (t278.length : Int) x117_4 = some (r1, r2, r3)) ∧ Aside0 (kq ≤ kj81) ∧ Aside0 (Kd.R (Kd.int .i64) 3 w' w.heap.size (fun k_ => some k_ ≠ ((.slice Ao84 x8_2.length co84) : Value).ownBlock) (.slice Ao83 x7_2.length co83) x7_2) ∧ Aside0 (Kd.R (Kd.int .i64) 3 w' w.heap.size (fun k_ => some k_ ≠ ((.slice Ao83 x7_2.length co83) : Value).ownBlock) (.slice Ao84 x8_2.length co84) x8_2) ∧ Aside0 (Kd.R k34 34 w' w.heap.size (fun k_ => k_ ≠ gb260) (.slice Ao89 t278.length co89) t278) ∧ Aside0 (w'.heap[gb260]? = some (.cells #[.int .i64 x261000_2, .int .i64 x261001_2] 34 (0, 0))) ∧ Aside0 (Below w.heap.size w w'))
        case atStart => exact ⟨(0), (by first | rfl | (simp; done) | (simp [*]; done)), H', ⟨Nat.le_refl _⟩, ⟨Kp.kpR HO_7.out⟩, ⟨Kp.kpR HO_8.out⟩, ⟨Kp.kpR HO_14.out⟩, ⟨Kp.kpB BK260.out⟩, ⟨by repeat (first | (with_reducible first | exact HB.out | apply below_alloc | apply pw_below_drewN | apply below_drew1 | refine below_set ?_ GE260.out) | exact HB.out)⟩⟩
        case round =>
         clear H'
         try clear c1
         try clear p2
         try clear c4
         try clear c6
         try clear p6
         try clear c7
         try clear c7b0
         try clear c8
         try clear c9
         try clear c11
         try clear c12
         try clear c41
         try clear p64
         try clear c65
         try clear c74
         try clear c75
         try clear c76
         try clear c78
         try clear c79
         try clear c86
         try clear c86b0
         try clear c86b1
         try clear c88
         try clear hcz77_0
         try clear hcz77_1
         try clear hcz80_0
         try clear hcz80_1
         try clear hfz77_0
         try clear hfz77_1
         try clear hfz80_0
         try clear hfz80_1
         try clear p2
         try clear p6
         try clear p64
         obtain ⟨x117_4, rfl, HA, HK4, HO_7, HO_8, HO_14, BK260, HB⟩ := hrel
         cases gk with
         | zero => exact absurd HA.out (by simp [impl_Flat.l1])
         | succ k4 =>
          have H := HA.out
          clear HA
          simp only [impl_Flat.l1] at H
          by_cases c90 : x117_4 < (t278.length : Int)
          rotate_left
          ·rw [if_neg c90] at H
           have c90b0 : decide (x117_4 < (t278.length : Int)) = false := decide_eq_false c90
           clear c90
           simp only [Option.some.injEq, Prod.mk.injEq] at H
           obtain ⟨rfl, rfl, rfl⟩ := H
           go_wp2
           go_ret3
           exact ⟨_, _, by first | rfl | (simp [errW_none, errW_some] <;> rfl) | (simp [*, errW_none, errW_some] <;> rfl), Kp.kpR HO_7.out, Kp.kpR HO_8.out, by repeat (first | (with_reducible first | exact HB.out | apply below_alloc | apply pw_below_drewN | apply below_drew1 | refine below_set ?_ GE260.out) | exact HB.out)⟩
          rw [if_pos c90] at H
          have c90b0 : decide (x117_4 < (t278.length : Int)) = true := decide_eq_true c90
          clear c90
          by_cases c91 : 0 ≤ x117_4
          rotate_left
          ·rw [if_neg c91] at H
           exact absurd H (by simp)
          rw [if_pos c91] at H
          have c91b0 : decide (0 ≤ x117_4) = true := decide_eq_true c91
          clear c91
          by_cases c92 : x117_4 < (t278.length : Int)
          rotate_left
          ·rw [if_neg c92] at H
           exact absurd H (by simp)
          rw [if_pos c92] at H
          have c92b0 : decide (x117_4 < (t278.length : Int)) = true := decide_eq_true c92
          clear c92
          by_cases c93 : x117_4 < (l0.length : Int)
          rotate_left
          ·rw [if_neg c93] at H
           exact absurd H (by simp)
          rw [if_pos c93] at H
          have c93b0 : decide (x117_4 < (l0.length : Int)) = true := decide_eq_true c93
          clear c93
          by_cases c94 : (!(((rd_T34 t278 x117_4).f0) == ((rd_T34 l0 x117_4).f0)) || (!(((rd_T34 t278 x117_4).f1) == ((rd_T34 l0 x117_4).f1)))) = true
          ·rw [if_pos c94] at H
           have c94b0 : (!(((rd_T34 t278 x117_4).f0) == ((rd_T34 l0 x117_4).f0)) || (!(((rd_T34 t278 x117_4).f1) == ((rd_T34 l0 x117_4).f1)))) = true := c94
           clear c94
           simp only [Option.some.injEq, Prod.mk.injEq] at H
           obtain ⟨rfl, rfl, rfl⟩ := H
           try go_wp2
           have n0_ := Kp.a (Kd.R_drew HO_7.out)
           have n1_ := Kp.a (Kd.R_drew HO_8.out)
           have n2_ := Kp.a (Kd.R_drew HO_14.out)
           have n3_ := Kp.a (blk_drew BK260.out)
           have n4_ := Kp.a (below_drew1 HB.out)
           clear HO_7
           clear HO_8
           clear HO_14
           clear BK260
           clear HB
           have HO_7 := n0_
           have HO_8 := n1_
           have HO_14 := n2_
           have BK260 := n3_
           have HB := n4_
           clear n0_ n1_ n2_ n3_ n4_
           have p283 : 0 ≤ (x117_4 : Int) := Kp.d
           have q283 : x117_4 < (t278.length : Int) := Kp.d
           obtain ⟨ad283, e283, hx283_0, hx283_1⟩ := at_T34 (Kd.R_reads' HO_14.out).2.2 x117_4 p283 q283
           cases e283
           replace p283 := eq_true p283
           replace q283 := eq_true q283
           have p284 : 0 ≤ (x117_4 : Int) := Kp.d
           have q284 : x117_4 < (l0.length : Int) := Kp.d
           obtain ⟨ad284, e284, hx284_0, hx284_1⟩ := at_T34 HR0.out x117_4 p284 q284
           have hw284_1 := hx284_1
           have hw284_0 := hx284_0
           cases e284
           replace hx284_0 := (HB.out.cell (World.block_lt_of_cell? w _ hx284_0)).trans hx284_0
           replace hx284_1 := (HB.out.cell (World.block_lt_of_cell? w _ hx284_1)).trans hx284_1
           replace p284 := eq_true p284
           replace q284 := eq_true q284
           refine start_ (n := 9) (S := fun w' => w'.cell? (ad283.add ((x117_4).toNat * 2)) = some (.int .i64 ((rd_T34 t278 x117_4).f0)) ∧ w'.cell? ⟨(ad283.add ((x117_4).toNat * 2)).block, (ad283.add ((x117_4).toNat * 2)).off + 1, none⟩ = some (.int .i64 ((rd_T34 t278 x117_4).f1)) ∧ w'.cell? (ad284.add ((x117_4).toNat * 2)) = some (.int .i64 ((rd_T34 l0 x117_4).f0)) ∧ w'.cell? ⟨(ad284.add ((x117_4).toNat * 2)).block, (ad284.add ((x117_4).toNat * 2)).off + 1, none⟩ = some (.int .i64 ((rd_T34 l0 x117_4).f1))) (ds := []) #[false, false, false, false, false, false, false, false, false] (by kernel_rfl) rfl rfl ⟨hx283_0, hx283_1, ((HB.out.cell (World.block_lt_of_cell? w _ hw284_0)).trans hw284_0), ((HB.out.cell (World.block_lt_of_cell? w _ hw284_1)).trans hw284_1)⟩ (fun hHeld => ?_); refine with_tabW impl_Flat.tab26 impl_Flat.bits26 (fun HT_ HW_ => ?_)
           generalize wr.drew = w95 at HO_7 HO_8 HO_14 BK260 HB hx283_0 hx283_1 hx284_0 hx284_1 hHeld ⊢
           refine pure_ (i := 0) (N := some 120) (v := ?_) (a' := ?_) #[true, false, false, false, false, false, false, false, false] rfl rfl (any_of HT_.out (by kernel_rfl)) (fun _ _ _ h => h) (Or.inl ⟨by rfl, ?_⟩) ?_ ?_
           rotate_left
           ·intro w'
            go_simp
            with_reducible rfl
           rotate_left
           ·simp only [Act.put, Kp.s0, Kp.s1, Kp.s2, i64_w, i32_w]
            rfl
           refine pure_ (i := 1) (N := some 121) (v := ?_) (a' := ?_) #[true, true, false, false, false, false, false, false, false] rfl rfl (any_of HT_.out (by kernel_rfl)) (fun _ _ _ h => h) (Or.inl ⟨by rfl, ?_⟩) ?_ ?_
           rotate_left
           ·intro w'
            go_simp
            with_reducible rfl
           rotate_left
           ·simp only [Act.put, Kp.s0, Kp.s1, Kp.s2, i64_w, i32_w]
            rfl
           refine pure_ (i := 2) (N := some 122) (v := ?_) (a' := ?_) #[true, true, true, false, false, false, false, false, false] rfl rfl (any_of HT_.out (by kernel_rfl)) (fun _ _ _ h => h) (Or.inl ⟨by rfl, ?_⟩) ?_ ?_
           rotate_left
           ·intro w'
            go_simp
            with_reducible rfl
           rotate_left
           ·simp only [Act.put, Kp.s0, Kp.s1, Kp.s2, i64_w, i32_w]
            rfl
           refine pure_ (i := 4) (N := some 124) (v := ?_) (a' := ?_) #[true, true, true, false, true, false, false, false, false] rfl rfl (any_of HT_.out (by kernel_rfl)) (fun _ _ _ h => h) (Or.inl ⟨by rfl, ?_⟩) ?_ ?_
           rotate_left
           ·intro w'
            go_simp
            with_reducible rfl
           rotate_left
           ·simp only [Act.put, Kp.s0, Kp.s1, Kp.s2, i64_w, i32_w]
            rfl
           refine pure_ (i := 5) (N := some 125) (v := ?_) (a' := ?_) #[true, true, true, false, true, true, false, false, false] rfl rfl (any_of HT_.out (by kernel_rfl)) (fun _ _ _ h => h) (Or.inl ⟨by rfl, ?_⟩) ?_ ?_
           rotate_left
           ·intro w'
            go_simp
            with_reducible rfl
           rotate_left
           ·simp only [Act.put, Kp.s0, Kp.s1, Kp.s2, i64_w, i32_w]
            rfl
           refine pure_ (i := 6) (N := some 126) (v := ?_) (a' := ?_) #[true, true, true, false, true, true, true, false, false] rfl rfl (any_of HT_.out (by kernel_rfl)) (fun _ _ _ h => h) (Or.inl ⟨by rfl, ?_⟩) ?_ ?_
           rotate_left
           ·intro w'
            go_simp
            with_reducible rfl
           rotate_left
           ·simp only [Act.put, Kp.s0, Kp.s1, Kp.s2, i64_w, i32_w]
            rfl
           refine take_ (i := 3) (N := some 123) (v := ?_) (a' := ?_) #[true, true, true, true, true, true, true, false, false] rfl rfl (take_ofW HT_.out HW_.out (by kernel_rfl)) (fun _ _ _ h => h) (Or.inl ⟨by rfl, ?_⟩) hHeld ?_ ?_
           rotate_left
           ·rintro w' ⟨s0, s1, s2, s3⟩
            go_simp
            with_reducible rfl
           rotate_left
           ·simp only [Act.put, Kp.s0, Kp.s1, Kp.s2, i64_w, i32_w]
            rfl
           refine take_ (i := 7) (N := some 127) (v := ?_) (a' := ?_) #[true, true, true, true, true, true, true, true, false] rfl rfl (take_ofW HT_.out HW_.out (by kernel_rfl)) (fun _ _ _ h => h) (Or.inl ⟨by rfl, ?_⟩) hHeld ?_ ?_
           rotate_left
           ·rintro w' ⟨s0, s1, s2, s3⟩
            go_simp
            with_reducible rfl
           rotate_left
           ·simp only [Act.put, Kp.s0, Kp.s1, Kp.s2, i64_w, i32_w]
            rfl
           refine pure_ (i := 8) (N := some 128) (v := ?_) (a' := ?_) #[true, true, true, true, true, true, true, true, true] rfl rfl (any_of HT_.out (by kernel_rfl)) (fun _ _ _ h => h) (Or.inl ⟨by rfl, ?_⟩) ?_ ?_
           rotate_left
           ·intro w'
            go_simp
            with_reducible rfl
           rotate_left
           ·simp only [Act.put, Kp.s0, Kp.s1, Kp.s2, i64_w, i32_w]
            rfl
           refine done_ (done_of HT_.out (by kernel_rfl)) ?_
           try go_wp2
           go_ret3
           exact ⟨_, _, by first | rfl | (simp [errW_none, errW_some] <;> rfl) | (simp [*, errW_none, errW_some] <;> rfl), by first | exact Kd.R_nil _ _ _ _ _ | exact Kd.N_nil _ _ _ _ _ | exact Kd.V_nil _ _ _ _ _ | exact Kd.Q_nil _ _ _ _ _ | exact Kd.S_nil _ _ _ _ _, by first | exact Kd.R_nil _ _ _ _ _ | exact Kd.N_nil _ _ _ _ _ | exact Kd.V_nil _ _ _ _ _ | exact Kd.Q_nil _ _ _ _ _ | exact Kd.S_nil _ _ _ _ _, by repeat (first | (with_reducible first | exact HB.out | apply below_alloc | apply pw_below_drewN | apply below_drew1 | refine below_set ?_ GE260.out) | exact HB.out)⟩
          rw [if_neg c94] at H
          have c94b0 : (!(((rd_T34 t278 x117_4).f0) == ((rd_T34 l0 x117_4).f0)) || (!(((rd_T34 t278 x117_4).f1) == ((rd_T34 l0 x117_4).f1)))) = false := by simpa using c94
          clear c94
          have H' := Kp.a H
          clear H
          try go_wp2
          have n0_ := Kp.a (Kd.R_drew HO_7.out)
          have n1_ := Kp.a (Kd.R_drew HO_8.out)
          have n2_ := Kp.a (Kd.R_drew HO_14.out)
          have n3_ := Kp.a (blk_drew BK260.out)
          have n4_ := Kp.a (below_drew1 HB.out)
          clear HO_7
          clear HO_8
          clear HO_14
          clear BK260
          clear HB
          have HO_7 := n0_
          have HO_8 := n1_
          have HO_14 := n2_
          have BK260 := n3_
          have HB := n4_
          clear n0_ n1_ n2_ n3_ n4_
          have p283 : 0 ≤ (x117_4 : Int) := Kp.d
          have q283 : x117_4 < (t278.length : Int) := Kp.d
          obtain ⟨ad283, e283, hx283_0, hx283_1⟩ := at_T34 (Kd.R_reads' HO_14.out).2.2 x117_4 p283 q283
          cases e283
          replace p283 := eq_true p283
          replace q283 := eq_true q283
          have p284 : 0 ≤ (x117_4 : Int) := Kp.d
          have q284 : x117_4 < (l0.length : Int) := Kp.d
          obtain ⟨ad284, e284, hx284_0, hx284_1⟩ := at_T34 HR0.out x117_4 p284 q284
          have hw284_1 := hx284_1
          have hw284_0 := hx284_0
          cases e284
          replace hx284_0 := (HB.out.cell (World.block_lt_of_cell? w _ hx284_0)).trans hx284_0
          replace hx284_1 := (HB.out.cell (World.block_lt_of_cell? w _ hx284_1)).trans hx284_1
          replace p284 := eq_true p284
          replace q284 := eq_true q284
          refine start_ (n := 9) (S := fun w' => w'.cell? (ad283.add ((x117_4).toNat * 2)) = some (.int .i64 ((rd_T34 t278 x117_4).f0)) ∧ w'.cell? ⟨(ad283.add ((x117_4).toNat * 2)).block, (ad283.add ((x117_4).toNat * 2)).off + 1, none⟩ = some (.int .i64 ((rd_T34 t278 x117_4).f1)) ∧ w'.cell? (ad284.add ((x117_4).toNat * 2)) = some (.int .i64 ((rd_T34 l0 x117_4).f0)) ∧ w'.cell? ⟨(ad284.add ((x117_4).toNat * 2)).block, (ad284.add ((x117_4).toNat * 2)).off + 1, none⟩ = some (.int .i64 ((rd_T34 l0 x117_4).f1))) (ds := []) #[false, false, false, false, false, false, false, false, false] (by kernel_rfl) rfl rfl ⟨hx283_0, hx283_1, ((HB.out.cell (World.block_lt_of_cell? w _ hw284_0)).trans hw284_0), ((HB.out.cell (World.block_lt_of_cell? w _ hw284_1)).trans hw284_1)⟩ (fun hHeld => ?_); refine with_tabW impl_Flat.tab26 impl_Flat.bits26 (fun HT_ HW_ => ?_)
          generalize wr.drew = w96 at HO_7 HO_8 HO_14 BK260 HB hx283_0 hx283_1 hx284_0 hx284_1 hHeld ⊢
          refine pure_ (i := 0) (N := some 120) (v := ?_) (a' := ?_) #[true, false, false, false, false, false, false, false, false] rfl rfl (any_of HT_.out (by kernel_rfl)) (fun _ _ _ h => h) (Or.inl ⟨by rfl, ?_⟩) ?_ ?_
          rotate_left
          ·intro w'
           go_simp
           with_reducible rfl
          rotate_left
          ·simp only [Act.put, Kp.s0, Kp.s1, Kp.s2, i64_w, i32_w]
           rfl
          refine pure_ (i := 1) (N := some 121) (v := ?_) (a' := ?_) #[true, true, false, false, false, false, false, false, false] rfl rfl (any_of HT_.out (by kernel_rfl)) (fun _ _ _ h => h) (Or.inl ⟨by rfl, ?_⟩) ?_ ?_
          rotate_left
          ·intro w'
           go_simp
           with_reducible rfl
          rotate_left
          ·simp only [Act.put, Kp.s0, Kp.s1, Kp.s2, i64_w, i32_w]
           rfl
          refine pure_ (i := 2) (N := some 122) (v := ?_) (a' := ?_) #[true, true, true, false, false, false, false, false, false] rfl rfl (any_of HT_.out (by kernel_rfl)) (fun _ _ _ h => h) (Or.inl ⟨by rfl, ?_⟩) ?_ ?_
          rotate_left
          ·intro w'
           go_simp
           with_reducible rfl
          rotate_left
          ·simp only [Act.put, Kp.s0, Kp.s1, Kp.s2, i64_w, i32_w]
           rfl
          refine pure_ (i := 4) (N := some 124) (v := ?_) (a' := ?_) #[true, true, true, false, true, false, false, false, false] rfl rfl (any_of HT_.out (by kernel_rfl)) (fun _ _ _ h => h) (Or.inl ⟨by rfl, ?_⟩) ?_ ?_
          rotate_left
          ·intro w'
           go_simp
           with_reducible rfl
          rotate_left
          ·simp only [Act.put, Kp.s0, Kp.s1, Kp.s2, i64_w, i32_w]
           rfl
          refine pure_ (i := 5) (N := some 125) (v := ?_) (a' := ?_) #[true, true, true, false, true, true, false, false, false] rfl rfl (any_of HT_.out (by kernel_rfl)) (fun _ _ _ h => h) (Or.inl ⟨by rfl, ?_⟩) ?_ ?_
          rotate_left
          ·intro w'
           go_simp
           with_reducible rfl
          rotate_left
          ·simp only [Act.put, Kp.s0, Kp.s1, Kp.s2, i64_w, i32_w]
           rfl
          refine pure_ (i := 6) (N := some 126) (v := ?_) (a' := ?_) #[true, true, true, false, true, true, true, false, false] rfl rfl (any_of HT_.out (by kernel_rfl)) (fun _ _ _ h => h) (Or.inl ⟨by rfl, ?_⟩) ?_ ?_
          rotate_left
          ·intro w'
           go_simp
           with_reducible rfl
          rotate_left
          ·simp only [Act.put, Kp.s0, Kp.s1, Kp.s2, i64_w, i32_w]
           rfl
          refine take_ (i := 3) (N := some 123) (v := ?_) (a' := ?_) #[true, true, true, true, true, true, true, false, false] rfl rfl (take_ofW HT_.out HW_.out (by kernel_rfl)) (fun _ _ _ h => h) (Or.inl ⟨by rfl, ?_⟩) hHeld ?_ ?_
          rotate_left
          ·rintro w' ⟨s0, s1, s2, s3⟩
           go_simp
           with_reducible rfl
          rotate_left
          ·simp only [Act.put, Kp.s0, Kp.s1, Kp.s2, i64_w, i32_w]
           rfl
          refine take_ (i := 7) (N := some 127) (v := ?_) (a' := ?_) #[true, true, true, true, true, true, true, true, false] rfl rfl (take_ofW HT_.out HW_.out (by kernel_rfl)) (fun _ _ _ h => h) (Or.inl ⟨by rfl, ?_⟩) hHeld ?_ ?_
          rotate_left
          ·rintro w' ⟨s0, s1, s2, s3⟩
           go_simp
           with_reducible rfl
          rotate_left
          ·simp only [Act.put, Kp.s0, Kp.s1, Kp.s2, i64_w, i32_w]
           rfl
          refine pure_ (i := 8) (N := some 128) (v := ?_) (a' := ?_) #[true, true, true, true, true, true, true, true, true] rfl rfl (any_of HT_.out (by kernel_rfl)) (fun _ _ _ h => h) (Or.inl ⟨by rfl, ?_⟩) ?_ ?_
          rotate_left
          ·intro w'
           go_simp
           with_reducible rfl
          rotate_left
          ·simp only [Act.put, Kp.s0, Kp.s1, Kp.s2, i64_w, i32_w]
           rfl
          refine done_ (done_of HT_.out (by kernel_rfl)) ?_
          try go_wp2
          go_roundg k4
          case measure => have := HJ2.out; have := HK2.out; have := HJ81.out; have := HK4.out; omega
          case rel => exact ⟨(wrap64 (x117_4 + 1)), (by first | rfl | (simp; done) | (simp [*]; done)), H', ⟨by have := HJ2.out; have := HK2.out; have := HJ81.out; have := HK4.out; omega⟩, ⟨Kp.kpR HO_7.out⟩, ⟨Kp.kpR HO_8.out⟩, ⟨Kp.kpR HO_14.out⟩, ⟨Kp.kpB BK260.out⟩, ⟨by repeat (first | (with_reducible first | exact HB.out | apply below_alloc | apply pw_below_drewN | apply below_drew1 | refine below_set ?_ GE260.out) | exact HB.out)⟩⟩
     rw [if_pos c7] at H
     have c7b0 : decide ((wrap64 (x10_2 + 1)) < (l0.length : Int)) = true := decide_eq_true c7
     clear c7
     by_cases c8 : 0 ≤ x10_2
     rotate_left
     ·rw [if_neg c8] at H
      exact absurd H (by simp)
     rw [if_pos c8] at H
     have c8b0 : decide (0 ≤ x10_2) = true := decide_eq_true c8
     clear c8
     by_cases c9 : x10_2 < (l0.length : Int)
     rotate_left
     ·rw [if_neg c9] at H
      exact absurd H (by simp)
     rw [if_pos c9] at H
     have c9b0 : decide (x10_2 < (l0.length : Int)) = true := decide_eq_true c9
     clear c9
     obtain ⟨ji10, hji10⟩ : ∃ j_ : Int, (wrap64 (x10_2 + 1)) = j_ := ⟨_, rfl⟩
     replace H : (if 0 ≤ (ji10) then (if (ji10) < (l0.length : Int) then ((impl_Flat_1.f ((rd_T34 l0 x10_2).f0) ((rd_T34 l0 x10_2).f1)).bind fun t265 => (if t265 = true then ((impl_Flat_1.f ((rd_T34 l0 (ji10)).f0) ((rd_T34 l0 (ji10)).f1)).bind fun t266 => (impl_Flat.j2 k2 l0 (l0.length : Int) x7_2 x8_2 x10_2 (!t266) x261000_2 x261001_2 ((rd_T34 l0 x10_2).f0) ((rd_T34 l0 x10_2).f1) ((rd_T34 l0 (ji10)).f0) ((rd_T34 l0 (ji10)).f1))) else (impl_Flat.j2 k2 l0 (l0.length : Int) x7_2 x8_2 x10_2 true x261000_2 x261001_2 ((rd_T34 l0 x10_2).f0) ((rd_T34 l0 x10_2).f1) ((rd_T34 l0 (ji10)).f0) ((rd_T34 l0 (ji10)).f1)))) else (none)) else (none)) = some (r1, r2, r3) := by first | (rw [hji10] at H; exact H) | (simp only [hji10] at H ⊢; exact H)
     (try rw [hji10] at c7b0)
     have hji10w : (IntKind.i64.wrap (x10_2 + 1)) = ji10 := (i64_w _).trans hji10
     by_cases c11 : 0 ≤ (ji10)
     rotate_left
     ·rw [if_neg c11] at H
      exact absurd H (by simp)
     rw [if_pos c11] at H
     have c11b0 : decide (0 ≤ (ji10)) = true := decide_eq_true c11
     clear c11
     by_cases c12 : (ji10) < (l0.length : Int)
     rotate_left
     ·rw [if_neg c12] at H
      exact absurd H (by simp)
     rw [if_pos c12] at H
     have c12b0 : decide ((ji10) < (l0.length : Int)) = true := decide_eq_true c12
     clear c12
     have HC13 := Kp.a H
     clear H
     try go_wp2
     have n0_ := Kp.a (Kd.R_drew HO_7.out)
     have n1_ := Kp.a (Kd.R_drew HO_8.out)
     have n2_ := Kp.a (blk_drew BK260.out)
     have n3_ := Kp.a (below_drew1 HB.out)
     clear HO_7
     clear HO_8
     clear BK260
     clear HB
     have HO_7 := n0_
     have HO_8 := n1_
     have BK260 := n2_
     have HB := n3_
     clear n0_ n1_ n2_ n3_
     have p261 : 0 ≤ (x10_2 : Int) := Kp.d
     have q261 : x10_2 < (l0.length : Int) := Kp.d
     obtain ⟨ad261, e261, hx261_0, hx261_1⟩ := at_T34 HR0.out x10_2 p261 q261
     have hw261_1 := hx261_1
     have hw261_0 := hx261_0
     cases e261
     replace hx261_0 := (HB.out.cell (World.block_lt_of_cell? w _ hx261_0)).trans hx261_0
     replace hx261_1 := (HB.out.cell (World.block_lt_of_cell? w _ hx261_1)).trans hx261_1
     replace p261 := eq_true p261
     replace q261 := eq_true q261
     have p262 : 0 ≤ ((ji10) : Int) := Kp.d
     have q262 : (ji10) < (l0.length : Int) := Kp.d
     obtain ⟨ad262, e262, hx262_0, hx262_1⟩ := at_T34 HR0.out (ji10) p262 q262
     have hw262_1 := hx262_1
     have hw262_0 := hx262_0
     obtain rfl : ad261 = ad262 := (by injection e262)
     replace hx262_0 := (HB.out.cell (World.block_lt_of_cell? w _ hx262_0)).trans hx262_0
     replace hx262_1 := (HB.out.cell (World.block_lt_of_cell? w _ hx262_1)).trans hx262_1
     replace p262 := eq_true p262
     replace q262 := eq_true q262
     refine start_ (n := 13) (S := fun w' => w'.cell? (ad261.add ((x10_2).toNat * 2)) = some (.int .i64 ((rd_T34 l0 x10_2).f0)) ∧ w'.cell? ⟨(ad261.add ((x10_2).toNat * 2)).block, (ad261.add ((x10_2).toNat * 2)).off + 1, none⟩ = some (.int .i64 ((rd_T34 l0 x10_2).f1)) ∧ w'.cell? (ad261.add (((ji10)).toNat * 2)) = some (.int .i64 ((rd_T34 l0 (ji10)).f0)) ∧ w'.cell? ⟨(ad261.add (((ji10)).toNat * 2)).block, (ad261.add (((ji10)).toNat * 2)).off + 1, none⟩ = some (.int .i64 ((rd_T34 l0 (ji10)).f1))) (ds := []) #[false, false, false, false, false, false, false, false, false, false, false, false, false] (by kernel_rfl) rfl rfl ⟨((HB.out.cell (World.block_lt_of_cell? w _ hw261_0)).trans hw261_0), ((HB.out.cell (World.block_lt_of_cell? w _ hw261_1)).trans hw261_1), ((HB.out.cell (World.block_lt_of_cell? w _ hw262_0)).trans hw262_0), ((HB.out.cell (World.block_lt_of_cell? w _ hw262_1)).trans hw262_1)⟩ (fun hHeld => ?_); refine with_tabW impl_Flat.tab12 impl_Flat.bits12 (fun HT_ HW_ => ?_)
     generalize wr.drew = w14 at HO_7 HO_8 BK260 HB hx261_0 hx261_1 hx262_0 hx262_1 hHeld ⊢
     refine pure_ (i := 0) (N := some 35) (v := ?_) (a' := ?_) #[true, false, false, false, false, false, false, false, false, false, false, false, false] rfl rfl (any_of HT_.out (by kernel_rfl)) (fun _ _ _ h => h) (Or.inl ⟨by rfl, ?_⟩) ?_ ?_
     rotate_left
     ·intro w'
      go_simp
      with_reducible rfl
     rotate_left
     ·simp only [Act.put, Kp.s0, Kp.s1, Kp.s2, i64_w, i32_w]
      rfl
     refine pure_ (i := 1) (N := some 36) (v := ?_) (a' := ?_) #[true, true, false, false, false, false, false, false, false, false, false, false, false] rfl rfl (any_of HT_.out (by kernel_rfl)) (fun _ _ _ h => h) (Or.inl ⟨by rfl, ?_⟩) ?_ ?_
     rotate_left
     ·intro w'
      go_simp
      with_reducible rfl
     rotate_left
     ·simp only [Act.put, Kp.s0, Kp.s1, Kp.s2, i64_w, i32_w]
      rfl
     refine pure_ (i := 2) (N := some 37) (v := ?_) (a' := ?_) #[true, true, true, false, false, false, false, false, false, false, false, false, false] rfl rfl (any_of HT_.out (by kernel_rfl)) (fun _ _ _ h => h) (Or.inl ⟨by rfl, ?_⟩) ?_ ?_
     rotate_left
     ·intro w'
      go_simp
      with_reducible rfl
     rotate_left
     ·simp only [Act.put, Kp.s0, Kp.s1, Kp.s2, i64_w, i32_w]
      rfl
     refine pure_ (i := 4) (N := some 39) (v := ?_) (a' := ?_) #[true, true, true, false, true, false, false, false, false, false, false, false, false] rfl rfl (any_of HT_.out (by kernel_rfl)) (fun _ _ _ h => h) (Or.inl ⟨by rfl, ?_⟩) ?_ ?_
     rotate_left
     ·intro w'
      go_simp
      with_reducible rfl
     rotate_left
     ·simp only [Act.put, Kp.s0, Kp.s1, Kp.s2, i64_w, i32_w]
      rfl
     refine pure_ (i := 5) (N := some 40) (v := ?_) (a' := ?_) #[true, true, true, false, true, true, false, false, false, false, false, false, false] rfl rfl (any_of HT_.out (by kernel_rfl)) (fun _ _ _ h => h) (Or.inl ⟨by rfl, ?_⟩) ?_ ?_
     rotate_left
     ·intro w'
      go_simp
      with_reducible rfl
     rotate_left
     ·simp only [Act.put, Kp.s0, Kp.s1, Kp.s2, i64_w, i32_w]
      rfl
     refine pure_ (i := 6) (N := some 41) (v := ?_) (a' := ?_) #[true, true, true, false, true, true, true, false, false, false, false, false, false] rfl rfl (any_of HT_.out (by kernel_rfl)) (fun _ _ _ h => h) (Or.inl ⟨by rfl, ?_⟩) ?_ ?_
     rotate_left
     ·intro w'
      go_simp
      with_reducible rfl
     rotate_left
     ·simp only [Act.put, Kp.s0, Kp.s1, Kp.s2, i64_w, i32_w]
      rfl
     refine pure_ (i := 7) (N := some 42) (v := ?_) (a' := ?_) #[true, true, true, false, true, true, true, true, false, false, false, false, false] rfl rfl (any_of HT_.out (by kernel_rfl)) (fun _ _ _ h => h) (Or.inl ⟨by rfl, ?_⟩) ?_ ?_
     rotate_left
     ·intro w'
      go_simp
      with_reducible rfl
     rotate_left
     ·simp only [Act.put, Kp.s0, Kp.s1, Kp.s2, i64_w, i32_w]
      rfl
     refine take_ (i := 3) (N := some 38) (v := ?_) (a' := ?_) #[true, true, true, true, true, true, true, true, false, false, false, false, false] rfl rfl (take_ofW HT_.out HW_.out (by kernel_rfl)) (fun _ _ _ h => h) (Or.inl ⟨by rfl, ?_⟩) hHeld ?_ ?_
     rotate_left
     ·rintro w' ⟨s0, s1, s2, s3⟩
      go_simp
      with_reducible rfl
     rotate_left
     ·simp only [Act.put, Kp.s0, Kp.s1, Kp.s2, i64_w, i32_w]
      rfl
     refine take_ (i := 8) (N := some 43) (v := ?_) (a' := ?_) #[true, true, true, true, true, true, true, true, true, false, false, false, false] rfl rfl (take_ofW HT_.out HW_.out (by kernel_rfl)) (fun _ _ _ h => h) (Or.inl ⟨by rfl, ?_⟩) hHeld ?_ ?_
     rotate_left
     ·rintro w' ⟨s0, s1, s2, s3⟩
      go_simp
      with_reducible rfl
     rotate_left
     ·simp only [Act.put, Kp.s0, Kp.s1, Kp.s2, i64_w, i32_w]
      rfl
     refine join_ (σ := Nat × Nat) 2 #[true, true, true, true, true, true, true, true, true, true, true, false, false] (fun s_ => [(11, .pointer (some ⟨s_.1, 0, none⟩)), (12, .pointer (some ⟨s_.2, 0, none⟩))]) (fun s_ w' => (w'.cell? (ad261.add ((x10_2).toNat * 2)) = some (.int .i64 ((rd_T34 l0 x10_2).f0)) ∧ w'.cell? ⟨(ad261.add ((x10_2).toNat * 2)).block, (ad261.add ((x10_2).toNat * 2)).off + 1, none⟩ = some (.int .i64 ((rd_T34 l0 x10_2).f1)) ∧ w'.cell? (ad261.add (((ji10)).toNat * 2)) = some (.int .i64 ((rd_T34 l0 (ji10)).f0)) ∧ w'.cell? ⟨(ad261.add (((ji10)).toNat * 2)).block, (ad261.add (((ji10)).toNat * 2)).off + 1, none⟩ = some (.int .i64 ((rd_T34 l0 (ji10)).f1))) ∧ (Kd.R (Kd.int .i64) 3 w' w.heap.size (fun k_ => some k_ ≠ (u8 : Value).ownBlock) u7 x7_2) ∧ (Kd.R (Kd.int .i64) 3 w' w.heap.size (fun k_ => some k_ ≠ (u7 : Value).ownBlock) u8 x8_2) ∧ (w'.heap[gb260]? = some (.cells #[.int .i64 x261000_2, .int .i64 x261001_2] 34 (0, 0))) ∧ (w'.heap[s_.1]? = some (.cells #[.int .i64 0, .int .i64 0] 34 (0, 0))) ∧ (w'.heap[s_.2]? = some (.cells #[.int .i64 0, .int .i64 0] 34 (0, 0))) ∧ (w.heap.size ≤ s_.1) ∧ (w.heap.size ≤ s_.1) ∧ (gb260 ≠ s_.1) ∧ (s_.1 ≠ gb260) ∧ (s_.2 ≠ s_.1) ∧ (s_.1 ≠ s_.2) ∧ (w.heap.size ≤ s_.2) ∧ (w.heap.size ≤ s_.2) ∧ (gb260 ≠ s_.2) ∧ (s_.2 ≠ gb260) ∧ (Below w.heap.size w w')) ?_ ?_
     rotate_left
     ·intro hCont
      refine two_ (i := 9) (j := 10) (Ni := some 11) (Nj := some 12) #[true, true, true, true, true, true, true, true, true, true, false, false, false] #[true, true, true, true, true, true, true, true, true, false, true, false, false] rfl rfl rfl rfl (two_of HT_.out (by kernel_rfl)) (by decide) (by decide) (fun K hK => ?_) (fun K hK => ?_)
      ·skip
       refine box_step ?hg (N := 11) ?hd (cs := #[.int .i64 0, .int .i64 0]) (t := 34) ?hr ?_; (case hd => rfl); (case hg => rfl); (case hr => first | (go_simp; done) | (go_simp; rfl))
       intro gb263 hg w15 hbox hb
       have n0_ := Kp.a (Kd.R_below (Kp.kpR HO_7.out) hb)
       have n1_ := Kp.a (Kd.R_below (Kp.kpR HO_8.out) hb)
       have n2_ := Kp.a (blk_below (g := gb260) (o := .cells #[.int .i64 x261000_2, .int .i64 x261001_2] 34 (0, 0)) (Kp.kpB BK260.out) hb)
       have n3_ := Kp.a (below_step (by repeat (first | (with_reducible first | exact HB.out | apply below_alloc | apply pw_below_drewN | apply below_drew1 | refine below_set ?_ GE260.out) | exact HB.out)) hb)
       have n4_ := Kp.a (hbox)
       have n5_ := Kp.a ((by rw [hg]; exact (below_size (by repeat (first | (with_reducible first | exact HB.out | apply below_alloc | apply pw_below_drewN | apply below_drew1 | refine below_set ?_ GE260.out) | exact HB.out))) : w.heap.size ≤ gb263))
       have n6_ := Kp.a ((by rw [hg]; exact (below_size (by repeat (first | (with_reducible first | exact HB.out | apply below_alloc | apply pw_below_drewN | apply below_drew1 | refine below_set ?_ GE260.out) | exact HB.out))) : w.heap.size ≤ gb263))
       have n7_ := Kp.a ((by rw [hg]; exact Nat.ne_of_lt (blk_lt (g := gb260) (o := .cells #[.int .i64 x261000_2, .int .i64 x261001_2] 34 (0, 0)) (Kp.kpB BK260.out)) : gb260 ≠ gb263))
       have n8_ := Kp.a ((by rw [hg]; exact Nat.ne_of_gt (blk_lt (g := gb260) (o := .cells #[.int .i64 x261000_2, .int .i64 x261001_2] 34 (0, 0)) (Kp.kpB BK260.out)) : gb263 ≠ gb260))
       clear HO_7
       clear HO_8
       clear BK260
       clear HB
       have HO_7 := n0_
       have HO_8 := n1_
       have BK260 := n2_
       have HB := n3_
       have BK263 := n4_
       have GW263 := n5_
       have GE263 := n6_
       have NB260_263 := n7_
       have NB263_260 := n8_
       clear n0_ n1_ n2_ n3_ n4_ n5_ n6_ n7_ n8_
       clear hb hbox hg
       refine hK.out _ _ ⟨((HB.out.cell (World.block_lt_of_cell? w _ hw261_0)).trans hw261_0), ((HB.out.cell (World.block_lt_of_cell? w _ hw261_1)).trans hw261_1), ((HB.out.cell (World.block_lt_of_cell? w _ hw262_0)).trans hw262_0), ((HB.out.cell (World.block_lt_of_cell? w _ hw262_1)).trans hw262_1)⟩ (fun hHeld => ?_)
       clear hK K
       refine norm_ (a' := ?_) ?_ ?_
       rotate_left
       ·show Act.put _ (some 11) _ = _
        simp only [Act.put, Kp.s0, Kp.s1, Kp.s2, i64_w, i32_w]
        rfl
       refine one_ (i := 10) (N := some 12) #[true, true, true, true, true, true, true, true, true, true, true, false, false] rfl rfl (one_of HT_.out (by kernel_rfl)) (by decide) (fun K hK => ?_)
       refine box_step ?hg (N := 12) ?hd (cs := #[.int .i64 0, .int .i64 0]) (t := 34) ?hr ?_; (case hd => rfl); (case hg => rfl); (case hr => first | (go_simp; done) | (go_simp; rfl))
       intro gb264 hg w16 hbox hb
       have n0_ := Kp.a (Kd.R_below (Kp.kpR HO_7.out) hb)
       have n1_ := Kp.a (Kd.R_below (Kp.kpR HO_8.out) hb)
       have n2_ := Kp.a (blk_below (g := gb260) (o := .cells #[.int .i64 x261000_2, .int .i64 x261001_2] 34 (0, 0)) (Kp.kpB BK260.out) hb)
       have n3_ := Kp.a (blk_below (g := gb263) (o := .cells #[.int .i64 0, .int .i64 0] 34 (0, 0)) (Kp.kpB BK263.out) hb)
       have n4_ := Kp.a (below_step (by repeat (first | (with_reducible first | exact HB.out | apply below_alloc | apply pw_below_drewN | apply below_drew1 | refine below_set ?_ GE260.out | refine below_set ?_ GE263.out) | exact HB.out)) hb)
       have n5_ := Kp.a (hbox)
       have n6_ := Kp.a ((by rw [hg]; exact (below_size (by repeat (first | (with_reducible first | exact HB.out | apply below_alloc | apply pw_below_drewN | apply below_drew1 | refine below_set ?_ GE260.out | refine below_set ?_ GE263.out) | exact HB.out))) : w.heap.size ≤ gb264))
       have n7_ := Kp.a ((by rw [hg]; exact (below_size (by repeat (first | (with_reducible first | exact HB.out | apply below_alloc | apply pw_below_drewN | apply below_drew1 | refine below_set ?_ GE260.out | refine below_set ?_ GE263.out) | exact HB.out))) : w.heap.size ≤ gb264))
       have n8_ := Kp.a ((by rw [hg]; exact Nat.ne_of_lt (blk_lt (g := gb260) (o := .cells #[.int .i64 x261000_2, .int .i64 x261001_2] 34 (0, 0)) (Kp.kpB BK260.out)) : gb260 ≠ gb264))
       have n9_ := Kp.a ((by rw [hg]; exact Nat.ne_of_gt (blk_lt (g := gb260) (o := .cells #[.int .i64 x261000_2, .int .i64 x261001_2] 34 (0, 0)) (Kp.kpB BK260.out)) : gb264 ≠ gb260))
       have n10_ := Kp.a ((by rw [hg]; exact Nat.ne_of_lt (blk_lt (g := gb263) (o := .cells #[.int .i64 0, .int .i64 0] 34 (0, 0)) (Kp.kpB BK263.out)) : gb263 ≠ gb264))
       have n11_ := Kp.a ((by rw [hg]; exact Nat.ne_of_gt (blk_lt (g := gb263) (o := .cells #[.int .i64 0, .int .i64 0] 34 (0, 0)) (Kp.kpB BK263.out)) : gb264 ≠ gb263))
       clear HO_7
       clear HO_8
       clear BK260
       clear BK263
       clear HB
       have HO_7 := n0_
       have HO_8 := n1_
       have BK260 := n2_
       have BK263 := n3_
       have HB := n4_
       have BK264 := n5_
       have GW264 := n6_
       have GE264 := n7_
       have NB260_264 := n8_
       have NB264_260 := n9_
       have NB263_264 := n10_
       have NB264_263 := n11_
       clear n0_ n1_ n2_ n3_ n4_ n5_ n6_ n7_ n8_ n9_ n10_ n11_
       clear hb hbox hg
       refine hK.out _ _ ⟨((HB.out.cell (World.block_lt_of_cell? w _ hw261_0)).trans hw261_0), ((HB.out.cell (World.block_lt_of_cell? w _ hw261_1)).trans hw261_1), ((HB.out.cell (World.block_lt_of_cell? w _ hw262_0)).trans hw262_0), ((HB.out.cell (World.block_lt_of_cell? w _ hw262_1)).trans hw262_1)⟩ (fun hHeld => ?_)
       clear hK K
       refine norm_ (a' := ?_) ?_ ?_
       rotate_left
       ·show Act.put _ (some 12) _ = _
        simp only [Act.put, Kp.s0, Kp.s1, Kp.s2, i64_w, i32_w]
        rfl
       exact norm_ (by simp only [putAll, Act.put, Kp.s0, Kp.s1, Kp.s2]) (hCont (gb263, gb264) _ ⟨hHeld, (Kp.kpR HO_7.out), (Kp.kpR HO_8.out), (Kp.kpB BK260.out), (Kp.kpB BK263.out), (Kp.kpB BK264.out), GW263.out, GE263.out, NB260_263.out, NB263_260.out, NB264_263.out, NB263_264.out, GW264.out, GE264.out, NB260_264.out, NB264_260.out, (by repeat (first | (with_reducible first | exact HB.out | apply below_alloc | apply pw_below_drewN | apply below_drew1 | refine below_set ?_ GE260.out | refine below_set ?_ GE263.out | refine below_set ?_ GE264.out) | exact HB.out))⟩)
      skip
      refine box_step ?hg (N := 12) ?hd (cs := #[.int .i64 0, .int .i64 0]) (t := 34) ?hr ?_; (case hd => rfl); (case hg => rfl); (case hr => first | (go_simp; done) | (go_simp; rfl))
      intro gb264 hg w15 hbox hb
      have n0_ := Kp.a (Kd.R_below (Kp.kpR HO_7.out) hb)
      have n1_ := Kp.a (Kd.R_below (Kp.kpR HO_8.out) hb)
      have n2_ := Kp.a (blk_below (g := gb260) (o := .cells #[.int .i64 x261000_2, .int .i64 x261001_2] 34 (0, 0)) (Kp.kpB BK260.out) hb)
      have n3_ := Kp.a (below_step (by repeat (first | (with_reducible first | exact HB.out | apply below_alloc | apply pw_below_drewN | apply below_drew1 | refine below_set ?_ GE260.out) | exact HB.out)) hb)
      have n4_ := Kp.a (hbox)
      have n5_ := Kp.a ((by rw [hg]; exact (below_size (by repeat (first | (with_reducible first | exact HB.out | apply below_alloc | apply pw_below_drewN | apply below_drew1 | refine below_set ?_ GE260.out) | exact HB.out))) : w.heap.size ≤ gb264))
      have n6_ := Kp.a ((by rw [hg]; exact (below_size (by repeat (first | (with_reducible first | exact HB.out | apply below_alloc | apply pw_below_drewN | apply below_drew1 | refine below_set ?_ GE260.out) | exact HB.out))) : w.heap.size ≤ gb264))
      have n7_ := Kp.a ((by rw [hg]; exact Nat.ne_of_lt (blk_lt (g := gb260) (o := .cells #[.int .i64 x261000_2, .int .i64 x261001_2] 34 (0, 0)) (Kp.kpB BK260.out)) : gb260 ≠ gb264))
      have n8_ := Kp.a ((by rw [hg]; exact Nat.ne_of_gt (blk_lt (g := gb260) (o := .cells #[.int .i64 x261000_2, .int .i64 x261001_2] 34 (0, 0)) (Kp.kpB BK260.out)) : gb264 ≠ gb260))
      clear HO_7
      clear HO_8
      clear BK260
      clear HB
      have HO_7 := n0_
      have HO_8 := n1_
      have BK260 := n2_
      have HB := n3_
      have BK264 := n4_
      have GW264 := n5_
      have GE264 := n6_
      have NB260_264 := n7_
      have NB264_260 := n8_
      clear n0_ n1_ n2_ n3_ n4_ n5_ n6_ n7_ n8_
      clear hb hbox hg
      refine hK.out _ _ ⟨((HB.out.cell (World.block_lt_of_cell? w _ hw261_0)).trans hw261_0), ((HB.out.cell (World.block_lt_of_cell? w _ hw261_1)).trans hw261_1), ((HB.out.cell (World.block_lt_of_cell? w _ hw262_0)).trans hw262_0), ((HB.out.cell (World.block_lt_of_cell? w _ hw262_1)).trans hw262_1)⟩ (fun hHeld => ?_)
      clear hK K
      refine norm_ (a' := ?_) ?_ ?_
      rotate_left
      ·show Act.put _ (some 12) _ = _
       simp only [Act.put, Kp.s0, Kp.s1, Kp.s2, i64_w, i32_w]
       rfl
      refine one_ (i := 9) (N := some 11) #[true, true, true, true, true, true, true, true, true, true, true, false, false] rfl rfl (one_of HT_.out (by kernel_rfl)) (by decide) (fun K hK => ?_)
      refine box_step ?hg (N := 11) ?hd (cs := #[.int .i64 0, .int .i64 0]) (t := 34) ?hr ?_; (case hd => rfl); (case hg => rfl); (case hr => first | (go_simp; done) | (go_simp; rfl))
      intro gb263 hg w16 hbox hb
      have n0_ := Kp.a (Kd.R_below (Kp.kpR HO_7.out) hb)
      have n1_ := Kp.a (Kd.R_below (Kp.kpR HO_8.out) hb)
      have n2_ := Kp.a (blk_below (g := gb260) (o := .cells #[.int .i64 x261000_2, .int .i64 x261001_2] 34 (0, 0)) (Kp.kpB BK260.out) hb)
      have n3_ := Kp.a (blk_below (g := gb264) (o := .cells #[.int .i64 0, .int .i64 0] 34 (0, 0)) (Kp.kpB BK264.out) hb)
      have n4_ := Kp.a (below_step (by repeat (first | (with_reducible first | exact HB.out | apply below_alloc | apply pw_below_drewN | apply below_drew1 | refine below_set ?_ GE260.out | refine below_set ?_ GE264.out) | exact HB.out)) hb)
      have n5_ := Kp.a (hbox)
      have n6_ := Kp.a ((by rw [hg]; exact (below_size (by repeat (first | (with_reducible first | exact HB.out | apply below_alloc | apply pw_below_drewN | apply below_drew1 | refine below_set ?_ GE260.out | refine below_set ?_ GE264.out) | exact HB.out))) : w.heap.size ≤ gb263))
      have n7_ := Kp.a ((by rw [hg]; exact (below_size (by repeat (first | (with_reducible first | exact HB.out | apply below_alloc | apply pw_below_drewN | apply below_drew1 | refine below_set ?_ GE260.out | refine below_set ?_ GE264.out) | exact HB.out))) : w.heap.size ≤ gb263))
      have n8_ := Kp.a ((by rw [hg]; exact Nat.ne_of_lt (blk_lt (g := gb260) (o := .cells #[.int .i64 x261000_2, .int .i64 x261001_2] 34 (0, 0)) (Kp.kpB BK260.out)) : gb260 ≠ gb263))
      have n9_ := Kp.a ((by rw [hg]; exact Nat.ne_of_gt (blk_lt (g := gb260) (o := .cells #[.int .i64 x261000_2, .int .i64 x261001_2] 34 (0, 0)) (Kp.kpB BK260.out)) : gb263 ≠ gb260))
      have n10_ := Kp.a ((by rw [hg]; exact Nat.ne_of_lt (blk_lt (g := gb264) (o := .cells #[.int .i64 0, .int .i64 0] 34 (0, 0)) (Kp.kpB BK264.out)) : gb264 ≠ gb263))
      have n11_ := Kp.a ((by rw [hg]; exact Nat.ne_of_gt (blk_lt (g := gb264) (o := .cells #[.int .i64 0, .int .i64 0] 34 (0, 0)) (Kp.kpB BK264.out)) : gb263 ≠ gb264))
      clear HO_7
      clear HO_8
      clear BK260
      clear BK264
      clear HB
      have HO_7 := n0_
      have HO_8 := n1_
      have BK260 := n2_
      have BK264 := n3_
      have HB := n4_
      have BK263 := n5_
      have GW263 := n6_
      have GE263 := n7_
      have NB260_263 := n8_
      have NB263_260 := n9_
      have NB264_263 := n10_
      have NB263_264 := n11_
      clear n0_ n1_ n2_ n3_ n4_ n5_ n6_ n7_ n8_ n9_ n10_ n11_
      clear hb hbox hg
      refine hK.out _ _ ⟨((HB.out.cell (World.block_lt_of_cell? w _ hw261_0)).trans hw261_0), ((HB.out.cell (World.block_lt_of_cell? w _ hw261_1)).trans hw261_1), ((HB.out.cell (World.block_lt_of_cell? w _ hw262_0)).trans hw262_0), ((HB.out.cell (World.block_lt_of_cell? w _ hw262_1)).trans hw262_1)⟩ (fun hHeld => ?_)
      clear hK K
      refine norm_ (a' := ?_) ?_ ?_
      rotate_left
      ·show Act.put _ (some 11) _ = _
       simp only [Act.put, Kp.s0, Kp.s1, Kp.s2, i64_w, i32_w]
       rfl
      exact norm_ (by simp only [putAll, Act.put, Kp.s0, Kp.s1, Kp.s2]) (hCont (gb263, gb264) _ ⟨hHeld, (Kp.kpR HO_7.out), (Kp.kpR HO_8.out), (Kp.kpB BK260.out), (Kp.kpB BK263.out), (Kp.kpB BK264.out), GW263.out, GE263.out, NB260_263.out, NB263_260.out, NB264_263.out, NB263_264.out, GW264.out, GE264.out, NB260_264.out, NB264_260.out, (by repeat (first | (with_reducible first | exact HB.out | apply below_alloc | apply pw_below_drewN | apply below_drew1 | refine below_set ?_ GE260.out | refine below_set ?_ GE264.out | refine below_set ?_ GE263.out) | exact HB.out))⟩)
     rintro ⟨gb263, gb264⟩ w17 ⟨hS_, h0_, h1_, h2_, h3_, h4_, h5_, h6_, h7_, h8_, h9_, h10_, h11_, h12_, h13_, h14_, h15_⟩
     have n0_ : Aside0 (Kd.R (Kd.int .i64) 3 w17 w.heap.size (fun k_ => some k_ ≠ (u8 : Value).ownBlock) u7 x7_2) := ⟨h0_⟩
     have n1_ : Aside0 (Kd.R (Kd.int .i64) 3 w17 w.heap.size (fun k_ => some k_ ≠ (u7 : Value).ownBlock) u8 x8_2) := ⟨h1_⟩
     have n2_ : Aside0 (w17.heap[gb260]? = some (.cells #[.int .i64 x261000_2, .int .i64 x261001_2] 34 (0, 0))) := ⟨h2_⟩
     have n3_ : Aside0 (w17.heap[gb263]? = some (.cells #[.int .i64 0, .int .i64 0] 34 (0, 0))) := ⟨h3_⟩
     have n4_ : Aside0 (w17.heap[gb264]? = some (.cells #[.int .i64 0, .int .i64 0] 34 (0, 0))) := ⟨h4_⟩
     have n5_ : Aside0 (w.heap.size ≤ gb263) := ⟨h5_⟩
     have n6_ : Aside0 (w.heap.size ≤ gb263) := ⟨h6_⟩
     have n7_ : Aside0 (gb260 ≠ gb263) := ⟨h7_⟩
     have n8_ : Aside0 (gb263 ≠ gb260) := ⟨h8_⟩
     have n9_ : Aside0 (gb264 ≠ gb263) := ⟨h9_⟩
     have n10_ : Aside0 (gb263 ≠ gb264) := ⟨h10_⟩
     have n11_ : Aside0 (w.heap.size ≤ gb264) := ⟨h11_⟩
     have n12_ : Aside0 (w.heap.size ≤ gb264) := ⟨h12_⟩
     have n13_ : Aside0 (gb260 ≠ gb264) := ⟨h13_⟩
     have n14_ : Aside0 (gb264 ≠ gb260) := ⟨h14_⟩
     have n15_ : Aside0 (Below w.heap.size w w17) := ⟨h15_⟩
     clear HO_7
     clear HO_8
     clear BK260
     clear HB
     clear h0_ h1_ h2_ h3_ h4_ h5_ h6_ h7_ h8_ h9_ h10_ h11_ h12_ h13_ h14_ h15_
     have HO_7 := n0_
     have HO_8 := n1_
     have BK260 := n2_
     have BK263 := n3_
     have BK264 := n4_
     have GW263 := n5_
     have GE263 := n6_
     have NB260_263 := n7_
     have NB263_260 := n8_
     have NB264_263 := n9_
     have NB263_264 := n10_
     have GW264 := n11_
     have GE264 := n12_
     have NB260_264 := n13_
     have NB264_260 := n14_
     have HB := n15_
     clear n0_ n1_ n2_ n3_ n4_ n5_ n6_ n7_ n8_ n9_ n10_ n11_ n12_ n13_ n14_ n15_
     have hHeld : w17.cell? (ad261.add ((x10_2).toNat * 2)) = some (.int .i64 ((rd_T34 l0 x10_2).f0)) ∧ w17.cell? ⟨(ad261.add ((x10_2).toNat * 2)).block, (ad261.add ((x10_2).toNat * 2)).off + 1, none⟩ = some (.int .i64 ((rd_T34 l0 x10_2).f1)) ∧ w17.cell? (ad261.add (((ji10)).toNat * 2)) = some (.int .i64 ((rd_T34 l0 (ji10)).f0)) ∧ w17.cell? ⟨(ad261.add (((ji10)).toNat * 2)).block, (ad261.add (((ji10)).toNat * 2)).off + 1, none⟩ = some (.int .i64 ((rd_T34 l0 (ji10)).f1)) := hS_
     refine norm_ (a' := ?_) ?_ ?_
     rotate_left
     ·simp only [putAll, Act.put, Kp.s0, Kp.s1, Kp.s2]
      rfl
     refine one_ (i := 11) (N := none) #[true, true, true, true, true, true, true, true, true, true, true, true, false] rfl rfl (one_of HT_.out (by kernel_rfl)) (by decide) (fun K hK => ?_)
     have hs18 : w17.cell? ⟨gb263, 0, none⟩ = some (.int .i64 0) := (blk_cell BK263.out 0).trans rfl
     have hfs18 := blk_frozen BK263.out 0
     have hns18_0 := NB260_263.out
     have hns18_2 := NB264_263.out
     have hms18_0 := NB263_260.out
     have hms18_2 := NB263_264.out
     have hs19 : w17.cell? ⟨gb263, 1, none⟩ = some (.int .i64 0) := (blk_cell BK263.out 1).trans rfl
     have hfs19 := blk_frozen BK263.out 1
     have hns19_0 := NB260_263.out
     have hns19_2 := NB264_263.out
     have hms19_0 := NB263_260.out
     have hms19_2 := NB263_264.out
     refine skip_ (w1 := ?_) (by rfl) rfl ?_ ?_
     rotate_left
     ·go_simp
      rfl
     refine hK.out _ _ ⟨((cell_far (p := ⟨gb263, _, none⟩) (by first | exact Nat.ne_of_lt (Nat.lt_of_lt_of_le (by have := World.block_lt_of_cell? _ _ hw261_0; first | rwa [add_block] at this | exact this) GW263.out) | (rw [add_block]; exact Nat.ne_of_lt (Nat.lt_of_lt_of_le (by have := World.block_lt_of_cell? _ _ hw261_0; first | rwa [add_block] at this | exact this) GW263.out)) | (show (Addr.add _ _).block ≠ _; rw [add_block]; exact Nat.ne_of_lt (Nat.lt_of_lt_of_le (by have := World.block_lt_of_cell? _ _ hw261_0; first | rwa [add_block] at this | exact this) GW263.out)) | (dsimp only; exact Nat.ne_of_lt (Nat.lt_of_lt_of_le (by have := World.block_lt_of_cell? _ _ hw261_0; first | rwa [add_block] at this | exact this) GW263.out))) _).trans (((cell_far (p := ⟨gb263, _, none⟩) (by first | exact Nat.ne_of_lt (Nat.lt_of_lt_of_le (by have := World.block_lt_of_cell? _ _ hw261_0; first | rwa [add_block] at this | exact this) GW263.out) | (rw [add_block]; exact Nat.ne_of_lt (Nat.lt_of_lt_of_le (by have := World.block_lt_of_cell? _ _ hw261_0; first | rwa [add_block] at this | exact this) GW263.out)) | (show (Addr.add _ _).block ≠ _; rw [add_block]; exact Nat.ne_of_lt (Nat.lt_of_lt_of_le (by have := World.block_lt_of_cell? _ _ hw261_0; first | rwa [add_block] at this | exact this) GW263.out)) | (dsimp only; exact Nat.ne_of_lt (Nat.lt_of_lt_of_le (by have := World.block_lt_of_cell? _ _ hw261_0; first | rwa [add_block] at this | exact this) GW263.out))) _).trans (hHeld.1)))), ((cell_far (p := ⟨gb263, _, none⟩) (by first | exact Nat.ne_of_lt (Nat.lt_of_lt_of_le (by have := World.block_lt_of_cell? _ _ hw261_1; first | rwa [add_block] at this | exact this) GW263.out) | (rw [add_block]; exact Nat.ne_of_lt (Nat.lt_of_lt_of_le (by have := World.block_lt_of_cell? _ _ hw261_1; first | rwa [add_block] at this | exact this) GW263.out)) | (show (Addr.add _ _).block ≠ _; rw [add_block]; exact Nat.ne_of_lt (Nat.lt_of_lt_of_le (by have := World.block_lt_of_cell? _ _ hw261_1; first | rwa [add_block] at this | exact this) GW263.out)) | (dsimp only; exact Nat.ne_of_lt (Nat.lt_of_lt_of_le (by have := World.block_lt_of_cell? _ _ hw261_1; first | rwa [add_block] at this | exact this) GW263.out))) _).trans (((cell_far (p := ⟨gb263, _, none⟩) (by first | exact Nat.ne_of_lt (Nat.lt_of_lt_of_le (by have := World.block_lt_of_cell? _ _ hw261_1; first | rwa [add_block] at this | exact this) GW263.out) | (rw [add_block]; exact Nat.ne_of_lt (Nat.lt_of_lt_of_le (by have := World.block_lt_of_cell? _ _ hw261_1; first | rwa [add_block] at this | exact this) GW263.out)) | (show (Addr.add _ _).block ≠ _; rw [add_block]; exact Nat.ne_of_lt (Nat.lt_of_lt_of_le (by have := World.block_lt_of_cell? _ _ hw261_1; first | rwa [add_block] at this | exact this) GW263.out)) | (dsimp only; exact Nat.ne_of_lt (Nat.lt_of_lt_of_le (by have := World.block_lt_of_cell? _ _ hw261_1; first | rwa [add_block] at this | exact this) GW263.out))) _).trans (hHeld.2.1)))), ((cell_far (p := ⟨gb263, _, none⟩) (by first | exact Nat.ne_of_lt (Nat.lt_of_lt_of_le (by have := World.block_lt_of_cell? _ _ hw262_0; first | rwa [add_block] at this | exact this) GW263.out) | (rw [add_block]; exact Nat.ne_of_lt (Nat.lt_of_lt_of_le (by have := World.block_lt_of_cell? _ _ hw262_0; first | rwa [add_block] at this | exact this) GW263.out)) | (show (Addr.add _ _).block ≠ _; rw [add_block]; exact Nat.ne_of_lt (Nat.lt_of_lt_of_le (by have := World.block_lt_of_cell? _ _ hw262_0; first | rwa [add_block] at this | exact this) GW263.out)) | (dsimp only; exact Nat.ne_of_lt (Nat.lt_of_lt_of_le (by have := World.block_lt_of_cell? _ _ hw262_0; first | rwa [add_block] at this | exact this) GW263.out))) _).trans (((cell_far (p := ⟨gb263, _, none⟩) (by first | exact Nat.ne_of_lt (Nat.lt_of_lt_of_le (by have := World.block_lt_of_cell? _ _ hw262_0; first | rwa [add_block] at this | exact this) GW263.out) | (rw [add_block]; exact Nat.ne_of_lt (Nat.lt_of_lt_of_le (by have := World.block_lt_of_cell? _ _ hw262_0; first | rwa [add_block] at this | exact this) GW263.out)) | (show (Addr.add _ _).block ≠ _; rw [add_block]; exact Nat.ne_of_lt (Nat.lt_of_lt_of_le (by have := World.block_lt_of_cell? _ _ hw262_0; first | rwa [add_block] at this | exact this) GW263.out)) | (dsimp only; exact Nat.ne_of_lt (Nat.lt_of_lt_of_le (by have := World.block_lt_of_cell? _ _ hw262_0; first | rwa [add_block] at this | exact this) GW263.out))) _).trans (hHeld.2.2.1)))), ((cell_far (p := ⟨gb263, _, none⟩) (by first | exact Nat.ne_of_lt (Nat.lt_of_lt_of_le (by have := World.block_lt_of_cell? _ _ hw262_1; first | rwa [add_block] at this | exact this) GW263.out) | (rw [add_block]; exact Nat.ne_of_lt (Nat.lt_of_lt_of_le (by have := World.block_lt_of_cell? _ _ hw262_1; first | rwa [add_block] at this | exact this) GW263.out)) | (show (Addr.add _ _).block ≠ _; rw [add_block]; exact Nat.ne_of_lt (Nat.lt_of_lt_of_le (by have := World.block_lt_of_cell? _ _ hw262_1; first | rwa [add_block] at this | exact this) GW263.out)) | (dsimp only; exact Nat.ne_of_lt (Nat.lt_of_lt_of_le (by have := World.block_lt_of_cell? _ _ hw262_1; first | rwa [add_block] at this | exact this) GW263.out))) _).trans (((cell_far (p := ⟨gb263, _, none⟩) (by first | exact Nat.ne_of_lt (Nat.lt_of_lt_of_le (by have := World.block_lt_of_cell? _ _ hw262_1; first | rwa [add_block] at this | exact this) GW263.out) | (rw [add_block]; exact Nat.ne_of_lt (Nat.lt_of_lt_of_le (by have := World.block_lt_of_cell? _ _ hw262_1; first | rwa [add_block] at this | exact this) GW263.out)) | (show (Addr.add _ _).block ≠ _; rw [add_block]; exact Nat.ne_of_lt (Nat.lt_of_lt_of_le (by have := World.block_lt_of_cell? _ _ hw262_1; first | rwa [add_block] at this | exact this) GW263.out)) | (dsimp only; exact Nat.ne_of_lt (Nat.lt_of_lt_of_le (by have := World.block_lt_of_cell? _ _ hw262_1; first | rwa [add_block] at this | exact this) GW263.out))) _).trans (hHeld.2.2.2))))⟩ (fun hHeld => ?_)
     clear hK K
     refine one_ (i := 12) (N := none) #[true, true, true, true, true, true, true, true, true, true, true, true, true] rfl rfl (one_of HT_.out (by kernel_rfl)) (by decide) (fun K hK => ?_)
     have hs20 : w17.cell? ⟨gb264, 0, none⟩ = some (.int .i64 0) := (blk_cell BK264.out 0).trans rfl
     have hfs20 := blk_frozen BK264.out 0
     have hns20_0 := NB260_264.out
     have hns20_1 := NB263_264.out
     have hms20_0 := NB264_260.out
     have hms20_1 := NB264_263.out
     have hs21 : w17.cell? ⟨gb264, 1, none⟩ = some (.int .i64 0) := (blk_cell BK264.out 1).trans rfl
     have hfs21 := blk_frozen BK264.out 1
     have hns21_0 := NB260_264.out
     have hns21_1 := NB263_264.out
     have hms21_0 := NB264_260.out
     have hms21_1 := NB264_263.out
     refine skip_ (w1 := ?_) (by rfl) rfl ?_ ?_
     rotate_left
     ·go_simp
      rfl
     refine hK.out _ _ ⟨((cell_far (p := ⟨gb264, _, none⟩) (by first | exact Nat.ne_of_lt (Nat.lt_of_lt_of_le (by have := World.block_lt_of_cell? _ _ hw261_0; first | rwa [add_block] at this | exact this) GW264.out) | (rw [add_block]; exact Nat.ne_of_lt (Nat.lt_of_lt_of_le (by have := World.block_lt_of_cell? _ _ hw261_0; first | rwa [add_block] at this | exact this) GW264.out)) | (show (Addr.add _ _).block ≠ _; rw [add_block]; exact Nat.ne_of_lt (Nat.lt_of_lt_of_le (by have := World.block_lt_of_cell? _ _ hw261_0; first | rwa [add_block] at this | exact this) GW264.out)) | (dsimp only; exact Nat.ne_of_lt (Nat.lt_of_lt_of_le (by have := World.block_lt_of_cell? _ _ hw261_0; first | rwa [add_block] at this | exact this) GW264.out))) _).trans (((cell_far (p := ⟨gb264, _, none⟩) (by first | exact Nat.ne_of_lt (Nat.lt_of_lt_of_le (by have := World.block_lt_of_cell? _ _ hw261_0; first | rwa [add_block] at this | exact this) GW264.out) | (rw [add_block]; exact Nat.ne_of_lt (Nat.lt_of_lt_of_le (by have := World.block_lt_of_cell? _ _ hw261_0; first | rwa [add_block] at this | exact this) GW264.out)) | (show (Addr.add _ _).block ≠ _; rw [add_block]; exact Nat.ne_of_lt (Nat.lt_of_lt_of_le (by have := World.block_lt_of_cell? _ _ hw261_0; first | rwa [add_block] at this | exact this) GW264.out)) | (dsimp only; exact Nat.ne_of_lt (Nat.lt_of_lt_of_le (by have := World.block_lt_of_cell? _ _ hw261_0; first | rwa [add_block] at this | exact this) GW264.out))) _).trans (hHeld.1)))), ((cell_far (p := ⟨gb264, _, none⟩) (by first | exact Nat.ne_of_lt (Nat.lt_of_lt_of_le (by have := World.block_lt_of_cell? _ _ hw261_1; first | rwa [add_block] at this | exact this) GW264.out) | (rw [add_block]; exact Nat.ne_of_lt (Nat.lt_of_lt_of_le (by have := World.block_lt_of_cell? _ _ hw261_1; first | rwa [add_block] at this | exact this) GW264.out)) | (show (Addr.add _ _).block ≠ _; rw [add_block]; exact Nat.ne_of_lt (Nat.lt_of_lt_of_le (by have := World.block_lt_of_cell? _ _ hw261_1; first | rwa [add_block] at this | exact this) GW264.out)) | (dsimp only; exact Nat.ne_of_lt (Nat.lt_of_lt_of_le (by have := World.block_lt_of_cell? _ _ hw261_1; first | rwa [add_block] at this | exact this) GW264.out))) _).trans (((cell_far (p := ⟨gb264, _, none⟩) (by first | exact Nat.ne_of_lt (Nat.lt_of_lt_of_le (by have := World.block_lt_of_cell? _ _ hw261_1; first | rwa [add_block] at this | exact this) GW264.out) | (rw [add_block]; exact Nat.ne_of_lt (Nat.lt_of_lt_of_le (by have := World.block_lt_of_cell? _ _ hw261_1; first | rwa [add_block] at this | exact this) GW264.out)) | (show (Addr.add _ _).block ≠ _; rw [add_block]; exact Nat.ne_of_lt (Nat.lt_of_lt_of_le (by have := World.block_lt_of_cell? _ _ hw261_1; first | rwa [add_block] at this | exact this) GW264.out)) | (dsimp only; exact Nat.ne_of_lt (Nat.lt_of_lt_of_le (by have := World.block_lt_of_cell? _ _ hw261_1; first | rwa [add_block] at this | exact this) GW264.out))) _).trans (hHeld.2.1)))), ((cell_far (p := ⟨gb264, _, none⟩) (by first | exact Nat.ne_of_lt (Nat.lt_of_lt_of_le (by have := World.block_lt_of_cell? _ _ hw262_0; first | rwa [add_block] at this | exact this) GW264.out) | (rw [add_block]; exact Nat.ne_of_lt (Nat.lt_of_lt_of_le (by have := World.block_lt_of_cell? _ _ hw262_0; first | rwa [add_block] at this | exact this) GW264.out)) | (show (Addr.add _ _).block ≠ _; rw [add_block]; exact Nat.ne_of_lt (Nat.lt_of_lt_of_le (by have := World.block_lt_of_cell? _ _ hw262_0; first | rwa [add_block] at this | exact this) GW264.out)) | (dsimp only; exact Nat.ne_of_lt (Nat.lt_of_lt_of_le (by have := World.block_lt_of_cell? _ _ hw262_0; first | rwa [add_block] at this | exact this) GW264.out))) _).trans (((cell_far (p := ⟨gb264, _, none⟩) (by first | exact Nat.ne_of_lt (Nat.lt_of_lt_of_le (by have := World.block_lt_of_cell? _ _ hw262_0; first | rwa [add_block] at this | exact this) GW264.out) | (rw [add_block]; exact Nat.ne_of_lt (Nat.lt_of_lt_of_le (by have := World.block_lt_of_cell? _ _ hw262_0; first | rwa [add_block] at this | exact this) GW264.out)) | (show (Addr.add _ _).block ≠ _; rw [add_block]; exact Nat.ne_of_lt (Nat.lt_of_lt_of_le (by have := World.block_lt_of_cell? _ _ hw262_0; first | rwa [add_block] at this | exact this) GW264.out)) | (dsimp only; exact Nat.ne_of_lt (Nat.lt_of_lt_of_le (by have := World.block_lt_of_cell? _ _ hw262_0; first | rwa [add_block] at this | exact this) GW264.out))) _).trans (hHeld.2.2.1)))), ((cell_far (p := ⟨gb264, _, none⟩) (by first | exact Nat.ne_of_lt (Nat.lt_of_lt_of_le (by have := World.block_lt_of_cell? _ _ hw262_1; first | rwa [add_block] at this | exact this) GW264.out) | (rw [add_block]; exact Nat.ne_of_lt (Nat.lt_of_lt_of_le (by have := World.block_lt_of_cell? _ _ hw262_1; first | rwa [add_block] at this | exact this) GW264.out)) | (show (Addr.add _ _).block ≠ _; rw [add_block]; exact Nat.ne_of_lt (Nat.lt_of_lt_of_le (by have := World.block_lt_of_cell? _ _ hw262_1; first | rwa [add_block] at this | exact this) GW264.out)) | (dsimp only; exact Nat.ne_of_lt (Nat.lt_of_lt_of_le (by have := World.block_lt_of_cell? _ _ hw262_1; first | rwa [add_block] at this | exact this) GW264.out))) _).trans (((cell_far (p := ⟨gb264, _, none⟩) (by first | exact Nat.ne_of_lt (Nat.lt_of_lt_of_le (by have := World.block_lt_of_cell? _ _ hw262_1; first | rwa [add_block] at this | exact this) GW264.out) | (rw [add_block]; exact Nat.ne_of_lt (Nat.lt_of_lt_of_le (by have := World.block_lt_of_cell? _ _ hw262_1; first | rwa [add_block] at this | exact this) GW264.out)) | (show (Addr.add _ _).block ≠ _; rw [add_block]; exact Nat.ne_of_lt (Nat.lt_of_lt_of_le (by have := World.block_lt_of_cell? _ _ hw262_1; first | rwa [add_block] at this | exact this) GW264.out)) | (dsimp only; exact Nat.ne_of_lt (Nat.lt_of_lt_of_le (by have := World.block_lt_of_cell? _ _ hw262_1; first | rwa [add_block] at this | exact this) GW264.out))) _).trans (hHeld.2.2.2))))⟩ (fun hHeld => ?_)
     clear hK K
     refine done_ (done_of HT_.out (by kernel_rfl)) ?_
     go_upto_region 13 with (fail)
     go_cut [53] (fun v53 wc => ∃ (kq : Nat) (x53_12 : Bool), v53 = .bool x53_12 ∧ Aside0 (impl_Flat.j2 kq l0 (l0.length : Int) x7_2 x8_2 x10_2 x53_12 x261000_2 x261001_2 ((rd_T34 l0 x10_2).f0) ((rd_T34 l0 x10_2).f1) ((rd_T34 l0 (ji10)).f0) ((rd_T34 l0 (ji10)).f1) = some (r1, r2, r3)) ∧ Aside0 (kq ≤ k2) ∧ Aside0 (Kd.R (Kd.int .i64) 3 wc w.heap.size (fun k_ => some k_ ≠ (u8 : Value).ownBlock) u7 x7_2) ∧ Aside0 (Kd.R (Kd.int .i64) 3 wc w.heap.size (fun k_ => some k_ ≠ (u7 : Value).ownBlock) u8 x8_2) ∧ Aside0 (wc.heap[gb260]? = some (.cells #[.int .i64 x261000_2, .int .i64 x261001_2] 34 (0, 0))) ∧ Aside0 (wc.heap[gb263]? = some (.cells #[.int .i64 ((rd_T34 l0 x10_2).f0), .int .i64 ((rd_T34 l0 x10_2).f1)] 34 (0, 0))) ∧ Aside0 (wc.heap[gb264]? = some (.cells #[.int .i64 ((rd_T34 l0 (ji10)).f0), .int .i64 ((rd_T34 l0 (ji10)).f1)] 34 (0, 0))) ∧ Aside0 (Below w.heap.size w wc))
     case first =>
      have H := HC13.out
      clear HC13
      replace H := Option.bind_eq_some_iff.mp H
      obtain ⟨t265, A220, H⟩ := H
      replace H : (if t265 = true then ((impl_Flat_1.f ((rd_T34 l0 (ji10)).f0) ((rd_T34 l0 (ji10)).f1)).bind fun t266 => (impl_Flat.j2 k2 l0 (l0.length : Int) x7_2 x8_2 x10_2 (!t266) x261000_2 x261001_2 ((rd_T34 l0 x10_2).f0) ((rd_T34 l0 x10_2).f1) ((rd_T34 l0 (ji10)).f0) ((rd_T34 l0 (ji10)).f1))) else (impl_Flat.j2 k2 l0 (l0.length : Int) x7_2 x8_2 x10_2 true x261000_2 x261001_2 ((rd_T34 l0 x10_2).f0) ((rd_T34 l0 x10_2).f1) ((rd_T34 l0 (ji10)).f0) ((rd_T34 l0 (ji10)).f1))) = some (r1, r2, r3) := H
      have A22 := Kp.a A220
      clear A220
      by_cases c23 : t265 = true
      rotate_left
      ·replace c23 := Bool.eq_false_iff.mpr c23
       subst c23
       have H1 : (impl_Flat.j2 k2 l0 (l0.length : Int) x7_2 x8_2 x10_2 true x261000_2 x261001_2 ((rd_T34 l0 x10_2).f0) ((rd_T34 l0 x10_2).f1) ((rd_T34 l0 (ji10)).f0) ((rd_T34 l0 (ji10)).f1)) = some (r1, r2, r3) := by rw [if_neg (show ¬ (false = true) by decide)] at H; exact H
       clear H
       have H := H1
       clear H1
       have H' := Kp.a H
       clear H
       have hnb32 := NB263_260.out
       have hnc32 := NB260_263.out
       have hnb33 := NB263_264.out
       have hnc33 := NB264_263.out
       have hcz34_0 : w17.cell? ⟨gb263, 0, none⟩ = some (.int .i64 0) := (blk_cell BK263.out 0).trans rfl
       have hcz34_1 : w17.cell? ⟨gb263, 1, none⟩ = some (.int .i64 0) := (blk_cell BK263.out 1).trans rfl
       have hfz34_0 := blk_frozen BK263.out 0
       have hfz34_1 := blk_frozen BK263.out 1
       go_wp2_with (first | (go_at_call 87; (with_reducible refine (impl_Flat_1.calls ((rd_T34 l0 x10_2).f0) ((rd_T34 l0 x10_2).f1) false _ A22.out).mono ?_); rintro e w35 ⟨rfl, hb⟩; have n0_ := Kp.a (Kd.R_below (Kp.kpR (Kd.R_mono (Kd.R_mono (Kd.R_far (p := ⟨gb264, 1, none⟩) (Kd.R_far (p := ⟨gb264, 0, none⟩) (Kd.R_far (p := ⟨gb263, 1, none⟩) (Kd.R_far (p := ⟨gb263, 0, none⟩) (Kd.R_types (Kd.R_types HO_7.out BK263.out (by decide)) BK264.out (by decide)) (fun _ hk => hk.1.2) (.int .i64 ((rd_T34 l0 x10_2).f0))) (fun _ hk => hk.1.2) (.int .i64 ((rd_T34 l0 x10_2).f1))) (fun _ hk => hk.2) (.int .i64 ((rd_T34 l0 (ji10)).f0))) (fun _ hk => hk.2) (.int .i64 ((rd_T34 l0 (ji10)).f1))) (fun _ h_ => h_.1)) (fun _ h_ => h_.1))) hb); have n1_ := Kp.a (Kd.R_below (Kp.kpR (Kd.R_mono (Kd.R_mono (Kd.R_far (p := ⟨gb264, 1, none⟩) (Kd.R_far (p := ⟨gb264, 0, none⟩) (Kd.R_far (p := ⟨gb263, 1, none⟩) (Kd.R_far (p := ⟨gb263, 0, none⟩) (Kd.R_types (Kd.R_types HO_8.out BK263.out (by decide)) BK264.out (by decide)) (fun _ hk => hk.1.2) (.int .i64 ((rd_T34 l0 x10_2).f0))) (fun _ hk => hk.1.2) (.int .i64 ((rd_T34 l0 x10_2).f1))) (fun _ hk => hk.2) (.int .i64 ((rd_T34 l0 (ji10)).f0))) (fun _ hk => hk.2) (.int .i64 ((rd_T34 l0 (ji10)).f1))) (fun _ h_ => h_.1)) (fun _ h_ => h_.1))) hb); have n2_ := Kp.a (blk_below (g := gb260) (o := .cells #[.int .i64 x261000_2, .int .i64 x261001_2] 34 (0, 0)) (by (with_reducible repeat (first | refine blk_drewN ?_ _ | refine blk_drew ?_ | refine blk_alloc ?_ _)); refine blk_far ?_ NB260_264.out _; (with_reducible repeat (first | refine blk_drewN ?_ _ | refine blk_drew ?_ | refine blk_alloc ?_ _)); refine blk_far ?_ NB260_264.out _; (with_reducible repeat (first | refine blk_drewN ?_ _ | refine blk_drew ?_ | refine blk_alloc ?_ _)); refine blk_far ?_ NB260_263.out _; (with_reducible repeat (first | refine blk_drewN ?_ _ | refine blk_drew ?_ | refine blk_alloc ?_ _)); refine blk_far ?_ NB260_263.out _; (with_reducible repeat (first | refine blk_drewN ?_ _ | refine blk_drew ?_ | refine blk_alloc ?_ _)); exact BK260.out) hb); have n3_ := Kp.a (blk_below (g := gb263) (o := .cells #[.int .i64 ((rd_T34 l0 x10_2).f0), .int .i64 ((rd_T34 l0 x10_2).f1)] 34 (0, 0)) (by (with_reducible repeat (first | refine blk_drewN ?_ _ | refine blk_drew ?_ | refine blk_alloc ?_ _)); refine blk_far ?_ NB263_264.out _; (with_reducible repeat (first | refine blk_drewN ?_ _ | refine blk_drew ?_ | refine blk_alloc ?_ _)); refine blk_far ?_ NB263_264.out _; (with_reducible repeat (first | refine blk_drewN ?_ _ | refine blk_drew ?_ | refine blk_alloc ?_ _)); refine blk_put (cs := #[.int .i64 ((rd_T34 l0 x10_2).f0), .int .i64 0]) ?_ 1 _ rfl; (with_reducible repeat (first | refine blk_drewN ?_ _ | refine blk_drew ?_ | refine blk_alloc ?_ _)); refine blk_put (cs := #[.int .i64 0, .int .i64 0]) ?_ 0 _ rfl; (with_reducible repeat (first | refine blk_drewN ?_ _ | refine blk_drew ?_ | refine blk_alloc ?_ _)); exact BK263.out) hb); have n4_ := Kp.a (blk_below (g := gb264) (o := .cells #[.int .i64 ((rd_T34 l0 (ji10)).f0), .int .i64 ((rd_T34 l0 (ji10)).f1)] 34 (0, 0)) (by (with_reducible repeat (first | refine blk_drewN ?_ _ | refine blk_drew ?_ | refine blk_alloc ?_ _)); refine blk_put (cs := #[.int .i64 ((rd_T34 l0 (ji10)).f0), .int .i64 0]) ?_ 1 _ rfl; (with_reducible repeat (first | refine blk_drewN ?_ _ | refine blk_drew ?_ | refine blk_alloc ?_ _)); refine blk_put (cs := #[.int .i64 0, .int .i64 0]) ?_ 0 _ rfl; (with_reducible repeat (first | refine blk_drewN ?_ _ | refine blk_drew ?_ | refine blk_alloc ?_ _)); refine blk_far ?_ NB264_263.out _; (with_reducible repeat (first | refine blk_drewN ?_ _ | refine blk_drew ?_ | refine blk_alloc ?_ _)); refine blk_far ?_ NB264_263.out _; (with_reducible repeat (first | refine blk_drewN ?_ _ | refine blk_drew ?_ | refine blk_alloc ?_ _)); exact BK264.out) hb); have n5_ := Kp.a (below_step (by repeat (first | (with_reducible first | exact HB.out | apply below_alloc | apply pw_below_drewN | apply below_drew1 | refine below_set ?_ GE260.out | refine below_set ?_ GE263.out | refine below_set ?_ GE264.out) | exact HB.out)) hb); clear HO_7; clear HO_8; clear BK260; clear BK263; clear BK264; clear HB; have HO_7 := n0_; have HO_8 := n1_; have BK260 := n2_; have BK263 := n3_; have BK264 := n4_; have HB := n5_; clear n0_ n1_ n2_ n3_ n4_ n5_; (try clear hb); (try clear hb2); (try clear hk); (try clear hi)))
       go_meet
       case rel => exact ⟨_, (true), (by first | rfl | (simp; done) | (simp [*]; done)), H', ⟨by have := HJ2.out; have := HK2.out; first | omega | exact Nat.le_refl _⟩, ⟨Kp.kpR HO_7.out⟩, ⟨Kp.kpR HO_8.out⟩, ⟨Kp.kpB BK260.out⟩, ⟨Kp.kpB BK263.out⟩, ⟨Kp.kpB BK264.out⟩, ⟨by repeat (first | (with_reducible first | exact HB.out | apply below_alloc | apply pw_below_drewN | apply below_drew1 | refine below_set ?_ GE260.out | refine below_set ?_ GE263.out | refine below_set ?_ GE264.out) | exact HB.out)⟩⟩
      subst c23
      have H1 : ((impl_Flat_1.f ((rd_T34 l0 (ji10)).f0) ((rd_T34 l0 (ji10)).f1)).bind fun t266 => (impl_Flat.j2 k2 l0 (l0.length : Int) x7_2 x8_2 x10_2 (!t266) x261000_2 x261001_2 ((rd_T34 l0 x10_2).f0) ((rd_T34 l0 x10_2).f1) ((rd_T34 l0 (ji10)).f0) ((rd_T34 l0 (ji10)).f1))) = some (r1, r2, r3) := by rw [if_pos rfl] at H; exact H
      clear H
      have H := H1
      clear H1
      replace H := Option.bind_eq_some_iff.mp H
      obtain ⟨t266, A240, H⟩ := H
      replace H : (impl_Flat.j2 k2 l0 (l0.length : Int) x7_2 x8_2 x10_2 (!t266) x261000_2 x261001_2 ((rd_T34 l0 x10_2).f0) ((rd_T34 l0 x10_2).f1) ((rd_T34 l0 (ji10)).f0) ((rd_T34 l0 (ji10)).f1)) = some (r1, r2, r3) := H
      have A24 := Kp.a A240
      clear A240
      have H' := Kp.a H
      clear H
      have hnb25 := NB263_260.out
      have hnc25 := NB260_263.out
      have hnb26 := NB263_264.out
      have hnc26 := NB264_263.out
      have hcz27_0 : w17.cell? ⟨gb263, 0, none⟩ = some (.int .i64 0) := (blk_cell BK263.out 0).trans rfl
      have hcz27_1 : w17.cell? ⟨gb263, 1, none⟩ = some (.int .i64 0) := (blk_cell BK263.out 1).trans rfl
      have hfz27_0 := blk_frozen BK263.out 0
      have hfz27_1 := blk_frozen BK263.out 1
      go_wp2_with (first | (go_at_call 87; (with_reducible refine (impl_Flat_1.calls ((rd_T34 l0 x10_2).f0) ((rd_T34 l0 x10_2).f1) true _ A22.out).mono ?_); rintro e w28 ⟨rfl, hb⟩; have n0_ := Kp.a (Kd.R_below (Kp.kpR (Kd.R_mono (Kd.R_mono (Kd.R_far (p := ⟨gb264, 1, none⟩) (Kd.R_far (p := ⟨gb264, 0, none⟩) (Kd.R_far (p := ⟨gb263, 1, none⟩) (Kd.R_far (p := ⟨gb263, 0, none⟩) (Kd.R_types (Kd.R_types HO_7.out BK263.out (by decide)) BK264.out (by decide)) (fun _ hk => hk.1.2) (.int .i64 ((rd_T34 l0 x10_2).f0))) (fun _ hk => hk.1.2) (.int .i64 ((rd_T34 l0 x10_2).f1))) (fun _ hk => hk.2) (.int .i64 ((rd_T34 l0 (ji10)).f0))) (fun _ hk => hk.2) (.int .i64 ((rd_T34 l0 (ji10)).f1))) (fun _ h_ => h_.1)) (fun _ h_ => h_.1))) hb); have n1_ := Kp.a (Kd.R_below (Kp.kpR (Kd.R_mono (Kd.R_mono (Kd.R_far (p := ⟨gb264, 1, none⟩) (Kd.R_far (p := ⟨gb264, 0, none⟩) (Kd.R_far (p := ⟨gb263, 1, none⟩) (Kd.R_far (p := ⟨gb263, 0, none⟩) (Kd.R_types (Kd.R_types HO_8.out BK263.out (by decide)) BK264.out (by decide)) (fun _ hk => hk.1.2) (.int .i64 ((rd_T34 l0 x10_2).f0))) (fun _ hk => hk.1.2) (.int .i64 ((rd_T34 l0 x10_2).f1))) (fun _ hk => hk.2) (.int .i64 ((rd_T34 l0 (ji10)).f0))) (fun _ hk => hk.2) (.int .i64 ((rd_T34 l0 (ji10)).f1))) (fun _ h_ => h_.1)) (fun _ h_ => h_.1))) hb); have n2_ := Kp.a (blk_below (g := gb260) (o := .cells #[.int .i64 x261000_2, .int .i64 x261001_2] 34 (0, 0)) (by (with_reducible repeat (first | refine blk_drewN ?_ _ | refine blk_drew ?_ | refine blk_alloc ?_ _)); refine blk_far ?_ NB260_264.out _; (with_reducible repeat (first | refine blk_drewN ?_ _ | refine blk_drew ?_ | refine blk_alloc ?_ _)); refine blk_far ?_ NB260_264.out _; (with_reducible repeat (first | refine blk_drewN ?_ _ | refine blk_drew ?_ | refine blk_alloc ?_ _)); refine blk_far ?_ NB260_263.out _; (with_reducible repeat (first | refine blk_drewN ?_ _ | refine blk_drew ?_ | refine blk_alloc ?_ _)); refine blk_far ?_ NB260_263.out _; (with_reducible repeat (first | refine blk_drewN ?_ _ | refine blk_drew ?_ | refine blk_alloc ?_ _)); exact BK260.out) hb); have n3_ := Kp.a (blk_below (g := gb263) (o := .cells #[.int .i64 ((rd_T34 l0 x10_2).f0), .int .i64 ((rd_T34 l0 x10_2).f1)] 34 (0, 0)) (by (with_reducible repeat (first | refine blk_drewN ?_ _ | refine blk_drew ?_ | refine blk_alloc ?_ _)); refine blk_far ?_ NB263_264.out _; (with_reducible repeat (first | refine blk_drewN ?_ _ | refine blk_drew ?_ | refine blk_alloc ?_ _)); refine blk_far ?_ NB263_264.out _; (with_reducible repeat (first | refine blk_drewN ?_ _ | refine blk_drew ?_ | refine blk_alloc ?_ _)); refine blk_put (cs := #[.int .i64 ((rd_T34 l0 x10_2).f0), .int .i64 0]) ?_ 1 _ rfl; (with_reducible repeat (first | refine blk_drewN ?_ _ | refine blk_drew ?_ | refine blk_alloc ?_ _)); refine blk_put (cs := #[.int .i64 0, .int .i64 0]) ?_ 0 _ rfl; (with_reducible repeat (first | refine blk_drewN ?_ _ | refine blk_drew ?_ | refine blk_alloc ?_ _)); exact BK263.out) hb); have n4_ := Kp.a (blk_below (g := gb264) (o := .cells #[.int .i64 ((rd_T34 l0 (ji10)).f0), .int .i64 ((rd_T34 l0 (ji10)).f1)] 34 (0, 0)) (by (with_reducible repeat (first | refine blk_drewN ?_ _ | refine blk_drew ?_ | refine blk_alloc ?_ _)); refine blk_put (cs := #[.int .i64 ((rd_T34 l0 (ji10)).f0), .int .i64 0]) ?_ 1 _ rfl; (with_reducible repeat (first | refine blk_drewN ?_ _ | refine blk_drew ?_ | refine blk_alloc ?_ _)); refine blk_put (cs := #[.int .i64 0, .int .i64 0]) ?_ 0 _ rfl; (with_reducible repeat (first | refine blk_drewN ?_ _ | refine blk_drew ?_ | refine blk_alloc ?_ _)); refine blk_far ?_ NB264_263.out _; (with_reducible repeat (first | refine blk_drewN ?_ _ | refine blk_drew ?_ | refine blk_alloc ?_ _)); refine blk_far ?_ NB264_263.out _; (with_reducible repeat (first | refine blk_drewN ?_ _ | refine blk_drew ?_ | refine blk_alloc ?_ _)); exact BK264.out) hb); have n5_ := Kp.a (below_step (by repeat (first | (with_reducible first | exact HB.out | apply below_alloc | apply pw_below_drewN | apply below_drew1 | refine below_set ?_ GE260.out | refine below_set ?_ GE263.out | refine below_set ?_ GE264.out) | exact HB.out)) hb); clear HO_7; clear HO_8; clear BK260; clear BK263; clear BK264; clear HB; have HO_7 := n0_; have HO_8 := n1_; have BK260 := n2_; have BK263 := n3_; have BK264 := n4_; have HB := n5_; clear n0_ n1_ n2_ n3_ n4_ n5_; (try clear hb); (try clear hb2); (try clear hk); (try clear hi); have hnb29 := NB264_260.out; have hnc29 := NB260_264.out; have hcz30_0 : w28.cell? ⟨gb264, 0, none⟩ = some (.int .i64 ((rd_T34 l0 (ji10)).f0)) := (blk_cell BK264.out 0).trans rfl; have hcz30_1 : w28.cell? ⟨gb264, 1, none⟩ = some (.int .i64 ((rd_T34 l0 (ji10)).f1)) := (blk_cell BK264.out 1).trans rfl; have hfz30_0 := blk_frozen BK264.out 0; have hfz30_1 := blk_frozen BK264.out 1) | (go_at_call 87; (with_reducible refine (impl_Flat_1.calls ((rd_T34 l0 (ji10)).f0) ((rd_T34 l0 (ji10)).f1) t266 _ A24.out).mono ?_); rintro e w31 ⟨rfl, hb⟩; have n0_ := Kp.a (Kd.R_below (Kp.kpR HO_7.out) hb); have n1_ := Kp.a (Kd.R_below (Kp.kpR HO_8.out) hb); have n2_ := Kp.a (blk_below (g := gb260) (o := .cells #[.int .i64 x261000_2, .int .i64 x261001_2] 34 (0, 0)) (Kp.kpB BK260.out) hb); have n3_ := Kp.a (blk_below (g := gb263) (o := .cells #[.int .i64 ((rd_T34 l0 x10_2).f0), .int .i64 ((rd_T34 l0 x10_2).f1)] 34 (0, 0)) (Kp.kpB BK263.out) hb); have n4_ := Kp.a (blk_below (g := gb264) (o := .cells #[.int .i64 ((rd_T34 l0 (ji10)).f0), .int .i64 ((rd_T34 l0 (ji10)).f1)] 34 (0, 0)) (Kp.kpB BK264.out) hb); have n5_ := Kp.a (below_step (by repeat (first | (with_reducible first | exact HB.out | apply below_alloc | apply pw_below_drewN | apply below_drew1 | refine below_set ?_ GE260.out | refine below_set ?_ GE263.out | refine below_set ?_ GE264.out) | exact HB.out)) hb); clear HO_7; clear HO_8; clear BK260; clear BK263; clear BK264; clear HB; have HO_7 := n0_; have HO_8 := n1_; have BK260 := n2_; have BK263 := n3_; have BK264 := n4_; have HB := n5_; clear n0_ n1_ n2_ n3_ n4_ n5_; (try clear hb); (try clear hb2); (try clear hk); (try clear hi)))
      go_meet
      case rel => exact ⟨_, (!t266), (by first | rfl | (simp; done) | (simp [*]; done)), H', ⟨by have := HJ2.out; have := HK2.out; first | omega | exact Nat.le_refl _⟩, ⟨Kp.kpR HO_7.out⟩, ⟨Kp.kpR HO_8.out⟩, ⟨Kp.kpB BK260.out⟩, ⟨Kp.kpB BK263.out⟩, ⟨Kp.kpB BK264.out⟩, ⟨by repeat (first | (with_reducible first | exact HB.out | apply below_alloc | apply pw_below_drewN | apply below_drew1 | refine below_set ?_ GE260.out | refine below_set ?_ GE263.out | refine below_set ?_ GE264.out) | exact HB.out)⟩⟩
     case rest =>
      clear HC13
      try clear c1
      try clear c2
      try clear c2b0
      try clear c2b1
      try clear p2
      try clear q2
      try clear hx2
      try clear c3
      try clear c4
      try clear c4b0
      try clear c4b1
      try clear c5
      try clear p6
      try clear c7
      try clear c7b0
      try clear c8
      try clear c8b0
      try clear c9
      try clear c9b0
      try clear c11
      try clear c11b0
      try clear c12
      try clear c12b0
      try clear c23
      try clear c25
      try clear c26
      try clear p26
      try clear q26
      try clear hx26
      try clear c29
      try clear c32
      try clear c33
      try clear hcz27_0
      try clear hcz27_1
      try clear hcz30_0
      try clear hcz30_1
      try clear hcz34_0
      try clear hcz34_1
      try clear hfz27_0
      try clear hfz27_1
      try clear hfz30_0
      try clear hfz30_1
      try clear hfz34_0
      try clear hfz34_1
      try clear hx261_0
      try clear hx261_1
      try clear hx262_0
      try clear hx262_1
      try clear p2
      try clear p261
      try clear p262
      try clear q261
      try clear q262
      obtain ⟨kq, x53_12, rfl, HA, HJ12, HO_7, HO_8, BK260, BK263, BK264, HB⟩ := hcut
      cases kq with
      | zero => exact absurd HA.out (by simp [impl_Flat.j2])
      | succ kj12 =>
       have H := HA.out
       clear HA
       simp only [impl_Flat.j2] at H
       by_cases c36 : x53_12 = true
       ·subst c36
        have H1 : (some (([] : List Int), ([] : List Int), 1)) = some (r1, r2, r3) := by rw [if_pos rfl] at H; exact H
        clear H
        have H := H1
        clear H1
        simp only [Option.some.injEq, Prod.mk.injEq] at H
        obtain ⟨rfl, rfl, rfl⟩ := H
        go_wp2
        go_ret3
        exact ⟨_, _, by first | rfl | (simp [errW_none, errW_some] <;> rfl) | (simp only [← hji10]; first | rfl | (simp [errW_none, errW_some] <;> rfl)) | (simp [*, errW_none, errW_some] <;> rfl), by first | exact Kd.R_nil _ _ _ _ _ | exact Kd.N_nil _ _ _ _ _ | exact Kd.V_nil _ _ _ _ _ | exact Kd.Q_nil _ _ _ _ _ | exact Kd.S_nil _ _ _ _ _, by first | exact Kd.R_nil _ _ _ _ _ | exact Kd.N_nil _ _ _ _ _ | exact Kd.V_nil _ _ _ _ _ | exact Kd.Q_nil _ _ _ _ _ | exact Kd.S_nil _ _ _ _ _, by repeat (first | (with_reducible first | exact HB.out | apply below_alloc | apply pw_below_drewN | apply below_drew1 | refine below_set ?_ GE260.out | refine below_set ?_ GE263.out | refine below_set ?_ GE264.out) | exact HB.out)⟩
       replace c36 := Bool.eq_false_iff.mpr c36
       subst c36
       have H1 : ((impl_sign.f (wrap64 (((rd_T34 l0 (ji10)).f0) - ((rd_T34 l0 x10_2).f0)))).bind fun t267 => ((impl_sign.f (wrap64 (((rd_T34 l0 (ji10)).f1) - ((rd_T34 l0 x10_2).f1)))).bind fun t268 => ((impl_abs.f (wrap64 (((rd_T34 l0 (ji10)).f0) - ((rd_T34 l0 x10_2).f0)))).bind fun t270 => ((impl_abs.f (wrap64 (((rd_T34 l0 (ji10)).f1) - ((rd_T34 l0 x10_2).f1)))).bind fun t271 => (if x7_2.length < 17592186044416 then ((some (x7_2 ++ [wrap64 (t270 + t271)] : List Int)).bind fun y272 => (if x10_2 > 0 then (if x8_2.length < 17592186044416 then (impl_Flat.l0 kj12 l0 (l0.length : Int) y272 (x8_2 ++ [wrap64 ((wrap64 (x261000_2 * t268)) - (wrap64 (x261001_2 * t267)))]) (wrap64 (x10_2 + 1)) t267 t268) else (none)) else (impl_Flat.l0 kj12 l0 (l0.length : Int) y272 x8_2 (wrap64 (x10_2 + 1)) t267 t268))) else (none)))))) = some (r1, r2, r3) := by rw [if_neg (show ¬ (false = true) by decide)] at H; exact H
       clear H
       have H := H1
       clear H1
       replace H := Option.bind_eq_some_iff.mp H
       obtain ⟨t267, A370, H⟩ := H
       replace H : ((impl_sign.f (wrap64 (((rd_T34 l0 (ji10)).f1) - ((rd_T34 l0 x10_2).f1)))).bind fun t268 => ((impl_abs.f (wrap64 (((rd_T34 l0 (ji10)).f0) - ((rd_T34 l0 x10_2).f0)))).bind fun t270 => ((impl_abs.f (wrap64 (((rd_T34 l0 (ji10)).f1) - ((rd_T34 l0 x10_2).f1)))).bind fun t271 => (if x7_2.length < 17592186044416 then ((some (x7_2 ++ [wrap64 (t270 + t271)] : List Int)).bind fun y272 => (if x10_2 > 0 then (if x8_2.length < 17592186044416 then (impl_Flat.l0 kj12 l0 (l0.length : Int) y272 (x8_2 ++ [wrap64 ((wrap64 (x261000_2 * t268)) - (wrap64 (x261001_2 * t267)))]) (wrap64 (x10_2 + 1)) t267 t268) else (none)) else (impl_Flat.l0 kj12 l0 (l0.length : Int) y272 x8_2 (wrap64 (x10_2 + 1)) t267 t268))) else (none))))) = some (r1, r2, r3) := H
       have A37 := Kp.a A370
       clear A370
       replace H := Option.bind_eq_some_iff.mp H
       obtain ⟨t268, A380, H⟩ := H
       replace H : ((impl_abs.f (wrap64 (((rd_T34 l0 (ji10)).f0) - ((rd_T34 l0 x10_2).f0)))).bind fun t270 => ((impl_abs.f (wrap64 (((rd_T34 l0 (ji10)).f1) - ((rd_T34 l0 x10_2).f1)))).bind fun t271 => (if x7_2.length < 17592186044416 then ((some (x7_2 ++ [wrap64 (t270 + t271)] : List Int)).bind fun y272 => (if x10_2 > 0 then (if x8_2.length < 17592186044416 then (impl_Flat.l0 kj12 l0 (l0.length : Int) y272 (x8_2 ++ [wrap64 ((wrap64 (x261000_2 * t268)) - (wrap64 (x261001_2 * t267)))]) (wrap64 (x10_2 + 1)) t267 t268) else (none)) else (impl_Flat.l0 kj12 l0 (l0.length : Int) y272 x8_2 (wrap64 (x10_2 + 1)) t267 t268))) else (none)))) = some (r1, r2, r3) := H
       have A38 := Kp.a A380
       clear A380
       replace H := Option.bind_eq_some_iff.mp H
       obtain ⟨t270, A390, H⟩ := H
       replace H : ((impl_abs.f (wrap64 (((rd_T34 l0 (ji10)).f1) - ((rd_T34 l0 x10_2).f1)))).bind fun t271 => (if x7_2.length < 17592186044416 then ((some (x7_2 ++ [wrap64 (t270 + t271)] : List Int)).bind fun y272 => (if x10_2 > 0 then (if x8_2.length < 17592186044416 then (impl_Flat.l0 kj12 l0 (l0.length : Int) y272 (x8_2 ++ [wrap64 ((wrap64 (x261000_2 * t268)) - (wrap64 (x261001_2 * t267)))]) (wrap64 (x10_2 + 1)) t267 t268) else (none)) else (impl_Flat.l0 kj12 l0 (l0.length : Int) y272 x8_2 (wrap64 (x10_2 + 1)) t267 t268))) else (none))) = some (r1, r2, r3) := H
       have A39 := Kp.a A390
       clear A390
       replace H := Option.bind_eq_some_iff.mp H
       obtain ⟨t271, A400, H⟩ := H
       replace H : (if x7_2.length < 17592186044416 then ((some (x7_2 ++ [wrap64 (t270 + t271)] : List Int)).bind fun y272 => (if x10_2 > 0 then (if x8_2.length < 17592186044416 then (impl_Flat.l0 kj12 l0 (l0.length : Int) y272 (x8_2 ++ [wrap64 ((wrap64 (x261000_2 * t268)) - (wrap64 (x261001_2 * t267)))]) (wrap64 (x10_2 + 1)) t267 t268) else (none)) else (impl_Flat.l0 kj12 l0 (l0.length : Int) y272 x8_2 (wrap64 (x10_2 + 1)) t267 t268))) else (none)) = some (r1, r2, r3) := H
       have A40 := Kp.a A400
       clear A400
       by_cases c41 : x7_2.length < 17592186044416
       rotate_left
       ·rw [if_neg c41] at H
        exact absurd H (by simp)
       rw [if_pos c41] at H
       have LMc41 := Kp.a c41
       clear c41
       obtain ⟨y272, hy272⟩ : ∃ y_ : List Int, y_ = (x7_2 ++ [wrap64 (t270 + t271)]) := ⟨_, rfl⟩
       replace H : (if x10_2 > 0 then (if x8_2.length < 17592186044416 then (impl_Flat.l0 kj12 l0 (l0.length : Int) y272 (x8_2 ++ [wrap64 ((wrap64 (x261000_2 * t268)) - (wrap64 (x261001_2 * t267)))]) (wrap64 (x10_2 + 1)) t267 t268) else (none)) else (impl_Flat.l0 kj12 l0 (l0.length : Int) y272 x8_2 (wrap64 (x10_2 + 1)) t267 t268)) = some (r1, r2, r3) := by first | (rw [hy272]; with_reducible exact H) | (have H2_ := (Option.bind_some _ _).symm.trans H; rw [hy272]; with_reducible exact H2_) | (have H2_ := (Option.bind_some _ _).symm.trans H; with_reducible exact H2_) | with_reducible exact H | (rw [hy272]; exact H) | exact H
       have Ny272 := Kp.a hy272
       clear hy272
       by_cases c42 : x10_2 > 0
       rotate_left
       ·rw [if_neg c42] at H
        have c42b0 : decide (0 < x10_2) = false := decide_eq_false c42
        clear c42
        have H' := Kp.a H
        clear H
        try go_wp2
        have n0_ := Kp.a (Kd.R_drew HO_7.out)
        have n1_ := Kp.a (Kd.R_drew HO_8.out)
        have n2_ := Kp.a (blk_drew BK260.out)
        have n3_ := Kp.a (blk_drew BK263.out)
        have n4_ := Kp.a (blk_drew BK264.out)
        have n5_ := Kp.a (below_drew1 HB.out)
        clear HO_7
        clear HO_8
        clear BK260
        clear BK263
        clear BK264
        clear HB
        have HO_7 := n0_
        have HO_8 := n1_
        have BK260 := n2_
        have BK263 := n3_
        have BK264 := n4_
        have HB := n5_
        clear n0_ n1_ n2_ n3_ n4_ n5_
        refine start_ (n := 15) (S := fun w' => w'.cell? ⟨gb264, 0, none⟩ = some (.int .i64 ((rd_T34 l0 (ji10)).f0)) ∧ w'.cell? ⟨gb264, 1, none⟩ = some (.int .i64 ((rd_T34 l0 (ji10)).f1)) ∧ w'.cell? ⟨gb263, 0, none⟩ = some (.int .i64 ((rd_T34 l0 x10_2).f0)) ∧ w'.cell? ⟨gb263, 1, none⟩ = some (.int .i64 ((rd_T34 l0 x10_2).f1))) (ds := []) #[false, false, false, false, false, false, false, false, false, false, false, false, false, false, false] (by kernel_rfl) rfl rfl ⟨(blk_cell BK264.out 0).trans rfl, (blk_cell BK264.out 1).trans rfl, (blk_cell BK263.out 0).trans rfl, (blk_cell BK263.out 1).trans rfl⟩ (fun hHeld => ?_); refine with_tabW impl_Flat.tab15 impl_Flat.bits15 (fun HT_ HW_ => ?_)
        generalize wc.drew = w64 at HO_7 HO_8 BK260 BK263 BK264 HB hHeld ⊢
        refine pure_ (i := 0) (N := some 54) (v := ?_) (a' := ?_) #[true, false, false, false, false, false, false, false, false, false, false, false, false, false, false] rfl rfl (any_of HT_.out (by kernel_rfl)) (fun _ _ _ h => h) (Or.inl ⟨by rfl, ?_⟩) ?_ ?_
        rotate_left
        ·intro w'
         go_simp
         with_reducible rfl
        rotate_left
        ·simp only [Act.put, Kp.s0, Kp.s1, Kp.s2, i64_w, i32_w]
         rfl
        refine pure_ (i := 2) (N := some 56) (v := ?_) (a' := ?_) #[true, false, true, false, false, false, false, false, false, false, false, false, false, false, false] rfl rfl (any_of HT_.out (by kernel_rfl)) (fun _ _ _ h => h) (Or.inl ⟨by rfl, ?_⟩) ?_ ?_
        rotate_left
        ·intro w'
         go_simp
         with_reducible rfl
        rotate_left
        ·simp only [Act.put, Kp.s0, Kp.s1, Kp.s2, i64_w, i32_w]
         rfl
        refine pure_ (i := 6) (N := some 60) (v := ?_) (a' := ?_) #[true, false, true, false, false, false, true, false, false, false, false, false, false, false, false] rfl rfl (any_of HT_.out (by kernel_rfl)) (fun _ _ _ h => h) (Or.inl ⟨by rfl, ?_⟩) ?_ ?_
        rotate_left
        ·intro w'
         go_simp
         with_reducible rfl
        rotate_left
        ·simp only [Act.put, Kp.s0, Kp.s1, Kp.s2, i64_w, i32_w]
         rfl
        refine pure_ (i := 8) (N := some 62) (v := ?_) (a' := ?_) #[true, false, true, false, false, false, true, false, true, false, false, false, false, false, false] rfl rfl (any_of HT_.out (by kernel_rfl)) (fun _ _ _ h => h) (Or.inl ⟨by rfl, ?_⟩) ?_ ?_
        rotate_left
        ·intro w'
         go_simp
         with_reducible rfl
        rotate_left
        ·simp only [Act.put, Kp.s0, Kp.s1, Kp.s2, i64_w, i32_w]
         rfl
        refine take_ (i := 1) (N := some 55) (v := ?_) (a' := ?_) #[true, true, true, false, false, false, true, false, true, false, false, false, false, false, false] rfl rfl (take_ofW HT_.out HW_.out (by kernel_rfl)) (fun _ _ _ h => h) (Or.inl ⟨by rfl, ?_⟩) hHeld ?_ ?_
        rotate_left
        ·rintro w' ⟨s0, s1, s2, s3⟩
         go_simp
         with_reducible rfl
        rotate_left
        ·simp only [Act.put, Kp.s0, Kp.s1, Kp.s2, i64_w, i32_w]
         rfl
        refine take_ (i := 3) (N := some 57) (v := ?_) (a' := ?_) #[true, true, true, true, false, false, true, false, true, false, false, false, false, false, false] rfl rfl (take_ofW HT_.out HW_.out (by kernel_rfl)) (fun _ _ _ h => h) (Or.inl ⟨by rfl, ?_⟩) hHeld ?_ ?_
        rotate_left
        ·rintro w' ⟨s0, s1, s2, s3⟩
         go_simp
         with_reducible rfl
        rotate_left
        ·simp only [Act.put, Kp.s0, Kp.s1, Kp.s2, i64_w, i32_w]
         rfl
        refine pure_ (i := 4) (N := some 58) (v := ?_) (a' := ?_) #[true, true, true, true, true, false, true, false, true, false, false, false, false, false, false] rfl rfl (any_of HT_.out (by kernel_rfl)) (fun _ _ _ h => h) (Or.inl ⟨by rfl, ?_⟩) ?_ ?_
        rotate_left
        ·intro w'
         go_simp
         with_reducible rfl
        rotate_left
        ·simp only [Act.put, Kp.s0, Kp.s1, Kp.s2, i64_w, i32_w]
         rfl
        refine take_ (i := 7) (N := some 61) (v := ?_) (a' := ?_) #[true, true, true, true, true, false, true, true, true, false, false, false, false, false, false] rfl rfl (take_ofW HT_.out HW_.out (by kernel_rfl)) (fun _ _ _ h => h) (Or.inl ⟨by rfl, ?_⟩) hHeld ?_ ?_
        rotate_left
        ·rintro w' ⟨s0, s1, s2, s3⟩
         go_simp
         with_reducible rfl
        rotate_left
        ·simp only [Act.put, Kp.s0, Kp.s1, Kp.s2, i64_w, i32_w]
         rfl
        refine take_ (i := 9) (N := some 63) (v := ?_) (a' := ?_) #[true, true, true, true, true, false, true, true, true, true, false, false, false, false, false] rfl rfl (take_ofW HT_.out HW_.out (by kernel_rfl)) (fun _ _ _ h => h) (Or.inl ⟨by rfl, ?_⟩) hHeld ?_ ?_
        rotate_left
        ·rintro w' ⟨s0, s1, s2, s3⟩
         go_simp
         with_reducible rfl
        rotate_left
        ·simp only [Act.put, Kp.s0, Kp.s1, Kp.s2, i64_w, i32_w]
         rfl
        refine pure_ (i := 10) (N := some 64) (v := ?_) (a' := ?_) #[true, true, true, true, true, false, true, true, true, true, true, false, false, false, false] rfl rfl (any_of HT_.out (by kernel_rfl)) (fun _ _ _ h => h) (Or.inl ⟨by rfl, ?_⟩) ?_ ?_
        rotate_left
        ·intro w'
         go_simp
         with_reducible rfl
        rotate_left
        ·simp only [Act.put, Kp.s0, Kp.s1, Kp.s2, i64_w, i32_w]
         rfl
        refine join_ (σ := Nat) 1 #[true, true, true, true, true, true, true, true, true, true, true, true, true, true, false] (fun s_ => [(59, .int .i64 t267), (65, .int .i64 t268), (13, .pointer (some ⟨s_, 0, none⟩)), (66, .agg #[.int .i64 t267, .int .i64 t268])]) (fun s_ w' => (w'.cell? ⟨gb264, 0, none⟩ = some (.int .i64 ((rd_T34 l0 (ji10)).f0)) ∧ w'.cell? ⟨gb264, 1, none⟩ = some (.int .i64 ((rd_T34 l0 (ji10)).f1)) ∧ w'.cell? ⟨gb263, 0, none⟩ = some (.int .i64 ((rd_T34 l0 x10_2).f0)) ∧ w'.cell? ⟨gb263, 1, none⟩ = some (.int .i64 ((rd_T34 l0 x10_2).f1))) ∧ (Kd.R (Kd.int .i64) 3 w' w.heap.size (fun k_ => some k_ ≠ (u8 : Value).ownBlock) u7 x7_2) ∧ (Kd.R (Kd.int .i64) 3 w' w.heap.size (fun k_ => some k_ ≠ (u7 : Value).ownBlock) u8 x8_2) ∧ (w'.heap[gb260]? = some (.cells #[.int .i64 x261000_2, .int .i64 x261001_2] 34 (0, 0))) ∧ (w'.heap[gb263]? = some (.cells #[.int .i64 ((rd_T34 l0 x10_2).f0), .int .i64 ((rd_T34 l0 x10_2).f1)] 34 (0, 0))) ∧ (w'.heap[gb264]? = some (.cells #[.int .i64 ((rd_T34 l0 (ji10)).f0), .int .i64 ((rd_T34 l0 (ji10)).f1)] 34 (0, 0))) ∧ (w'.heap[s_]? = some (.cells #[.int .i64 0, .int .i64 0] 34 (0, 0))) ∧ (w.heap.size ≤ s_) ∧ (w.heap.size ≤ s_) ∧ (gb260 ≠ s_) ∧ (s_ ≠ gb260) ∧ (gb263 ≠ s_) ∧ (s_ ≠ gb263) ∧ (gb264 ≠ s_) ∧ (s_ ≠ gb264) ∧ (Below w.heap.size w w')) ?_ ?_
        rotate_left
        ·intro hCont
         refine two_ (i := 5) (j := 13) (Ni := some 59) (Nj := some 13) #[true, true, true, true, true, true, true, true, true, true, true, false, false, false, false] #[true, true, true, true, true, false, true, true, true, true, true, false, false, true, false] rfl rfl rfl rfl (two_of HT_.out (by kernel_rfl)) (by decide) (by decide) (fun K hK => ?_) (fun K hK => ?_)
         ·skip
          refine goes_ Try.func65 (by kernel_rfl) rfl #[.int .i64 (wrap64 (((rd_T34 l0 (ji10)).f0) - ((rd_T34 l0 x10_2).f0)))] (by rfl) rfl rfl (by (try simp only [List.map_toArray, List.map_cons, List.map_nil]); first | done | (simp only [hji10]; rfl) | rfl | (simp only [List.length_drop, List.length_take]; rfl)) ?_
          with_reducible refine (impl_sign.calls (wrap64 (((rd_T34 l0 (ji10)).f0) - ((rd_T34 l0 x10_2).f0))) t267 _ A37.out).mono ?_
          rintro e w' ⟨rfl, ⟨nd, rfl⟩⟩
          refine ⟨_, rfl, ?_⟩
          refine hK.out _ _ ⟨(blk_cell BK264.out 0).trans rfl, (blk_cell BK264.out 1).trans rfl, (blk_cell BK263.out 0).trans rfl, (blk_cell BK263.out 1).trans rfl⟩ (fun hHeld => ?_)
          clear hK K
          refine norm_ (a' := ?_) ?_ ?_
          rotate_left
          ·show Act.put _ (some 59) _ = _
           simp only [Act.put, Kp.s0, Kp.s1, Kp.s2, i64_w, i32_w]
           rfl
          refine two_ (i := 11) (j := 13) (Ni := some 65) (Nj := some 13) #[true, true, true, true, true, true, true, true, true, true, true, true, false, false, false] #[true, true, true, true, true, true, true, true, true, true, true, false, false, true, false] rfl rfl rfl rfl (two_of HT_.out (by kernel_rfl)) (by decide) (by decide) (fun K hK => ?_) (fun K hK => ?_)
          ·skip
           refine goes_ Try.func65 (by kernel_rfl) rfl #[.int .i64 (wrap64 (((rd_T34 l0 (ji10)).f1) - ((rd_T34 l0 x10_2).f1)))] (by rfl) rfl rfl (by (try simp only [List.map_toArray, List.map_cons, List.map_nil]); first | done | (simp only [hji10]; rfl) | rfl | (simp only [List.length_drop, List.length_take]; rfl)) ?_
           with_reducible refine (impl_sign.calls (wrap64 (((rd_T34 l0 (ji10)).f1) - ((rd_T34 l0 x10_2).f1))) t268 _ A38.out).mono ?_
           rintro e w' ⟨rfl, ⟨nd, rfl⟩⟩
           refine ⟨_, rfl, ?_⟩
           refine hK.out _ _ ⟨(blk_cell BK264.out 0).trans rfl, (blk_cell BK264.out 1).trans rfl, (blk_cell BK263.out 0).trans rfl, (blk_cell BK263.out 1).trans rfl⟩ (fun hHeld => ?_)
           clear hK K
           refine norm_ (a' := ?_) ?_ ?_
           rotate_left
           ·show Act.put _ (some 65) _ = _
            simp only [Act.put, Kp.s0, Kp.s1, Kp.s2, i64_w, i32_w]
            rfl
           refine pure_ (i := 12) (N := some 66) (v := ?_) (a' := ?_) #[true, true, true, true, true, true, true, true, true, true, true, true, true, false, false] rfl rfl (any_of HT_.out (by kernel_rfl)) (fun _ _ _ h => h) (Or.inl ⟨by rfl, ?_⟩) ?_ ?_
           rotate_left
           ·intro w'
            go_simp
            with_reducible rfl
           rotate_left
           ·simp only [Act.put, Kp.s0, Kp.s1, Kp.s2, i64_w, i32_w]
            rfl
           refine one_ (i := 13) (N := some 13) #[true, true, true, true, true, true, true, true, true, true, true, true, true, true, false] rfl rfl (one_of HT_.out (by kernel_rfl)) (by decide) (fun K hK => ?_)
           refine box_step ?hg (N := 13) ?hd (cs := #[.int .i64 0, .int .i64 0]) (t := 34) ?hr ?_; (case hd => rfl); (case hg => rfl); (case hr => first | (go_simp; done) | (go_simp; rfl))
           intro gb269 hg w65 hbox hb
           have n0_ := Kp.a (Kd.R_below (Kp.kpR HO_7.out) hb)
           have n1_ := Kp.a (Kd.R_below (Kp.kpR HO_8.out) hb)
           have n2_ := Kp.a (blk_below (g := gb260) (o := .cells #[.int .i64 x261000_2, .int .i64 x261001_2] 34 (0, 0)) (Kp.kpB BK260.out) hb)
           have n3_ := Kp.a (blk_below (g := gb263) (o := .cells #[.int .i64 ((rd_T34 l0 x10_2).f0), .int .i64 ((rd_T34 l0 x10_2).f1)] 34 (0, 0)) (Kp.kpB BK263.out) hb)
           have n4_ := Kp.a (blk_below (g := gb264) (o := .cells #[.int .i64 ((rd_T34 l0 (ji10)).f0), .int .i64 ((rd_T34 l0 (ji10)).f1)] 34 (0, 0)) (Kp.kpB BK264.out) hb)
           have n5_ := Kp.a (below_step (by repeat (first | (with_reducible first | exact HB.out | apply below_alloc | apply pw_below_drewN | apply below_drew1 | refine below_set ?_ GE260.out | refine below_set ?_ GE263.out | refine below_set ?_ GE264.out) | exact HB.out)) hb)
           have n6_ := Kp.a (hbox)
           have n7_ := Kp.a ((by rw [hg]; exact (below_size (by repeat (first | (with_reducible first | exact HB.out | apply below_alloc | apply pw_below_drewN | apply below_drew1 | refine below_set ?_ GE260.out | refine below_set ?_ GE263.out | refine below_set ?_ GE264.out) | exact HB.out))) : w.heap.size ≤ gb269))
           have n8_ := Kp.a ((by rw [hg]; exact (below_size (by repeat (first | (with_reducible first | exact HB.out | apply below_alloc | apply pw_below_drewN | apply below_drew1 | refine below_set ?_ GE260.out | refine below_set ?_ GE263.out | refine below_set ?_ GE264.out) | exact HB.out))) : w.heap.size ≤ gb269))
           have n9_ := Kp.a ((by rw [hg]; exact Nat.ne_of_lt (blk_lt (g := gb260) (o := .cells #[.int .i64 x261000_2, .int .i64 x261001_2] 34 (0, 0)) (Kp.kpB BK260.out)) : gb260 ≠ gb269))
           have n10_ := Kp.a ((by rw [hg]; exact Nat.ne_of_gt (blk_lt (g := gb260) (o := .cells #[.int .i64 x261000_2, .int .i64 x261001_2] 34 (0, 0)) (Kp.kpB BK260.out)) : gb269 ≠ gb260))
           have n11_ := Kp.a ((by rw [hg]; exact Nat.ne_of_lt (blk_lt (g := gb263) (o := .cells #[.int .i64 ((rd_T34 l0 x10_2).f0), .int .i64 ((rd_T34 l0 x10_2).f1)] 34 (0, 0)) (Kp.kpB BK263.out)) : gb263 ≠ gb269))
           have n12_ := Kp.a ((by rw [hg]; exact Nat.ne_of_gt (blk_lt (g := gb263) (o := .cells #[.int .i64 ((rd_T34 l0 x10_2).f0), .int .i64 ((rd_T34 l0 x10_2).f1)] 34 (0, 0)) (Kp.kpB BK263.out)) : gb269 ≠ gb263))
           have n13_ := Kp.a ((by rw [hg]; exact Nat.ne_of_lt (blk_lt (g := gb264) (o := .cells #[.int .i64 ((rd_T34 l0 (ji10)).f0), .int .i64 ((rd_T34 l0 (ji10)).f1)] 34 (0, 0)) (Kp.kpB BK264.out)) : gb264 ≠ gb269))
           have n14_ := Kp.a ((by rw [hg]; exact Nat.ne_of_gt (blk_lt (g := gb264) (o := .cells #[.int .i64 ((rd_T34 l0 (ji10)).f0), .int .i64 ((rd_T34 l0 (ji10)).f1)] 34 (0, 0)) (Kp.kpB BK264.out)) : gb269 ≠ gb264))
           clear HO_7
           clear HO_8
           clear BK260
           clear BK263
           clear BK264
           clear HB
           have HO_7 := n0_
           have HO_8 := n1_
           have BK260 := n2_
           have BK263 := n3_
           have BK264 := n4_
           have HB := n5_
           have BK269 := n6_
           have GW269 := n7_
           have GE269 := n8_
           have NB260_269 := n9_
           have NB269_260 := n10_
           have NB263_269 := n11_
           have NB269_263 := n12_
           have NB264_269 := n13_
           have NB269_264 := n14_
           clear n0_ n1_ n2_ n3_ n4_ n5_ n6_ n7_ n8_ n9_ n10_ n11_ n12_ n13_ n14_
           clear hb hbox hg
           refine hK.out _ _ ⟨(blk_cell BK264.out 0).trans rfl, (blk_cell BK264.out 1).trans rfl, (blk_cell BK263.out 0).trans rfl, (blk_cell BK263.out 1).trans rfl⟩ (fun hHeld => ?_)
           clear hK K
           refine norm_ (a' := ?_) ?_ ?_
           rotate_left
           ·show Act.put _ (some 13) _ = _
            simp only [Act.put, Kp.s0, Kp.s1, Kp.s2, i64_w, i32_w]
            rfl
           exact norm_ (by simp only [putAll, Act.put, Kp.s0, Kp.s1, Kp.s2]) (hCont (gb269) _ ⟨hHeld, (Kp.kpR HO_7.out), (Kp.kpR HO_8.out), (Kp.kpB BK260.out), (Kp.kpB BK263.out), (Kp.kpB BK264.out), (Kp.kpB BK269.out), GW269.out, GE269.out, NB260_269.out, NB269_260.out, NB263_269.out, NB269_263.out, NB264_269.out, NB269_264.out, (by repeat (first | (with_reducible first | exact HB.out | apply below_alloc | apply pw_below_drewN | apply below_drew1 | refine below_set ?_ GE260.out | refine below_set ?_ GE263.out | refine below_set ?_ GE264.out | refine below_set ?_ GE269.out) | exact HB.out))⟩)
          skip
          refine box_step ?hg (N := 13) ?hd (cs := #[.int .i64 0, .int .i64 0]) (t := 34) ?hr ?_; (case hd => rfl); (case hg => rfl); (case hr => first | (go_simp; done) | (go_simp; rfl))
          intro gb269 hg w65 hbox hb
          have n0_ := Kp.a (Kd.R_below (Kp.kpR HO_7.out) hb)
          have n1_ := Kp.a (Kd.R_below (Kp.kpR HO_8.out) hb)
          have n2_ := Kp.a (blk_below (g := gb260) (o := .cells #[.int .i64 x261000_2, .int .i64 x261001_2] 34 (0, 0)) (Kp.kpB BK260.out) hb)
          have n3_ := Kp.a (blk_below (g := gb263) (o := .cells #[.int .i64 ((rd_T34 l0 x10_2).f0), .int .i64 ((rd_T34 l0 x10_2).f1)] 34 (0, 0)) (Kp.kpB BK263.out) hb)
          have n4_ := Kp.a (blk_below (g := gb264) (o := .cells #[.int .i64 ((rd_T34 l0 (ji10)).f0), .int .i64 ((rd_T34 l0 (ji10)).f1)] 34 (0, 0)) (Kp.kpB BK264.out) hb)
          have n5_ := Kp.a (below_step (by repeat (first | (with_reducible first | exact HB.out | apply below_alloc | apply pw_below_drewN | apply below_drew1 | refine below_set ?_ GE260.out | refine below_set ?_ GE263.out | refine below_set ?_ GE264.out) | exact HB.out)) hb)
          have n6_ := Kp.a (hbox)
          have n7_ := Kp.a ((by rw [hg]; exact (below_size (by repeat (first | (with_reducible first | exact HB.out | apply below_alloc | apply pw_below_drewN | apply below_drew1 | refine below_set ?_ GE260.out | refine below_set ?_ GE263.out | refine below_set ?_ GE264.out) | exact HB.out))) : w.heap.size ≤ gb269))
          have n8_ := Kp.a ((by rw [hg]; exact (below_size (by repeat (first | (with_reducible first | exact HB.out | apply below_alloc | apply pw_below_drewN | apply below_drew1 | refine below_set ?_ GE260.out | refine below_set ?_ GE263.out | refine below_set ?_ GE264.out) | exact HB.out))) : w.heap.size ≤ gb269))
          have n9_ := Kp.a ((by rw [hg]; exact Nat.ne_of_lt (blk_lt (g := gb260) (o := .cells #[.int .i64 x261000_2, .int .i64 x261001_2] 34 (0, 0)) (Kp.kpB BK260.out)) : gb260 ≠ gb269))
          have n10_ := Kp.a ((by rw [hg]; exact Nat.ne_of_gt (blk_lt (g := gb260) (o := .cells #[.int .i64 x261000_2, .int .i64 x261001_2] 34 (0, 0)) (Kp.kpB BK260.out)) : gb269 ≠ gb260))
          have n11_ := Kp.a ((by rw [hg]; exact Nat.ne_of_lt (blk_lt (g := gb263) (o := .cells #[.int .i64 ((rd_T34 l0 x10_2).f0), .int .i64 ((rd_T34 l0 x10_2).f1)] 34 (0, 0)) (Kp.kpB BK263.out)) : gb263 ≠ gb269))
          have n12_ := Kp.a ((by rw [hg]; exact Nat.ne_of_gt (blk_lt (g := gb263) (o := .cells #[.int .i64 ((rd_T34 l0 x10_2).f0), .int .i64 ((rd_T34 l0 x10_2).f1)] 34 (0, 0)) (Kp.kpB BK263.out)) : gb269 ≠ gb263))
          have n13_ := Kp.a ((by rw [hg]; exact Nat.ne_of_lt (blk_lt (g := gb264) (o := .cells #[.int .i64 ((rd_T34 l0 (ji10)).f0), .int .i64 ((rd_T34 l0 (ji10)).f1)] 34 (0, 0)) (Kp.kpB BK264.out)) : gb264 ≠ gb269))
          have n14_ := Kp.a ((by rw [hg]; exact Nat.ne_of_gt (blk_lt (g := gb264) (o := .cells #[.int .i64 ((rd_T34 l0 (ji10)).f0), .int .i64 ((rd_T34 l0 (ji10)).f1)] 34 (0, 0)) (Kp.kpB BK264.out)) : gb269 ≠ gb264))
          clear HO_7
          clear HO_8
          clear BK260
          clear BK263
          clear BK264
          clear HB
          have HO_7 := n0_
          have HO_8 := n1_
          have BK260 := n2_
          have BK263 := n3_
          have BK264 := n4_
          have HB := n5_
          have BK269 := n6_
          have GW269 := n7_
          have GE269 := n8_
          have NB260_269 := n9_
          have NB269_260 := n10_
          have NB263_269 := n11_
          have NB269_263 := n12_
          have NB264_269 := n13_
          have NB269_264 := n14_
          clear n0_ n1_ n2_ n3_ n4_ n5_ n6_ n7_ n8_ n9_ n10_ n11_ n12_ n13_ n14_
          clear hb hbox hg
          refine hK.out _ _ ⟨(blk_cell BK264.out 0).trans rfl, (blk_cell BK264.out 1).trans rfl, (blk_cell BK263.out 0).trans rfl, (blk_cell BK263.out 1).trans rfl⟩ (fun hHeld => ?_)
          clear hK K
          refine norm_ (a' := ?_) ?_ ?_
          rotate_left
          ·show Act.put _ (some 13) _ = _
           simp only [Act.put, Kp.s0, Kp.s1, Kp.s2, i64_w, i32_w]
           rfl
          refine one_ (i := 11) (N := some 65) #[true, true, true, true, true, true, true, true, true, true, true, true, false, true, false] rfl rfl (one_of HT_.out (by kernel_rfl)) (by decide) (fun K hK => ?_)
          refine goes_ Try.func65 (by kernel_rfl) rfl #[.int .i64 (wrap64 (((rd_T34 l0 (ji10)).f1) - ((rd_T34 l0 x10_2).f1)))] (by rfl) rfl rfl (by (try simp only [List.map_toArray, List.map_cons, List.map_nil]); first | done | (simp only [hji10]; rfl) | rfl | (simp only [List.length_drop, List.length_take]; rfl)) ?_
          with_reducible refine (impl_sign.calls (wrap64 (((rd_T34 l0 (ji10)).f1) - ((rd_T34 l0 x10_2).f1))) t268 _ A38.out).mono ?_
          rintro e w' ⟨rfl, ⟨nd, rfl⟩⟩
          refine ⟨_, rfl, ?_⟩
          refine hK.out _ _ ⟨(blk_cell BK264.out 0).trans rfl, (blk_cell BK264.out 1).trans rfl, (blk_cell BK263.out 0).trans rfl, (blk_cell BK263.out 1).trans rfl⟩ (fun hHeld => ?_)
          clear hK K
          refine norm_ (a' := ?_) ?_ ?_
          rotate_left
          ·show Act.put _ (some 65) _ = _
           simp only [Act.put, Kp.s0, Kp.s1, Kp.s2, i64_w, i32_w]
           rfl
          refine pure_ (i := 12) (N := some 66) (v := ?_) (a' := ?_) #[true, true, true, true, true, true, true, true, true, true, true, true, true, true, false] rfl rfl (any_of HT_.out (by kernel_rfl)) (fun _ _ _ h => h) (Or.inl ⟨by rfl, ?_⟩) ?_ ?_
          rotate_left
          ·intro w'
           go_simp
           with_reducible rfl
          rotate_left
          ·simp only [Act.put, Kp.s0, Kp.s1, Kp.s2, i64_w, i32_w]
           rfl
          exact norm_ (by simp only [putAll, Act.put, Kp.s0, Kp.s1, Kp.s2]) (hCont (gb269) _ ⟨hHeld, (Kp.kpR HO_7.out), (Kp.kpR HO_8.out), (Kp.kpB BK260.out), (Kp.kpB BK263.out), (Kp.kpB BK264.out), (Kp.kpB BK269.out), GW269.out, GE269.out, NB260_269.out, NB269_260.out, NB263_269.out, NB269_263.out, NB264_269.out, NB269_264.out, (by repeat (first | (with_reducible first | exact HB.out | apply below_alloc | apply pw_below_drewN | apply below_drew1 | refine below_set ?_ GE260.out | refine below_set ?_ GE263.out | refine below_set ?_ GE264.out | refine below_set ?_ GE269.out) | exact HB.out))⟩)
         skip
         refine box_step ?hg (N := 13) ?hd (cs := #[.int .i64 0, .int .i64 0]) (t := 34) ?hr ?_; (case hd => rfl); (case hg => rfl); (case hr => first | (go_simp; done) | (go_simp; rfl))
         intro gb269 hg w65 hbox hb
         have n0_ := Kp.a (Kd.R_below (Kp.kpR HO_7.out) hb)
         have n1_ := Kp.a (Kd.R_below (Kp.kpR HO_8.out) hb)
         have n2_ := Kp.a (blk_below (g := gb260) (o := .cells #[.int .i64 x261000_2, .int .i64 x261001_2] 34 (0, 0)) (Kp.kpB BK260.out) hb)
         have n3_ := Kp.a (blk_below (g := gb263) (o := .cells #[.int .i64 ((rd_T34 l0 x10_2).f0), .int .i64 ((rd_T34 l0 x10_2).f1)] 34 (0, 0)) (Kp.kpB BK263.out) hb)
         have n4_ := Kp.a (blk_below (g := gb264) (o := .cells #[.int .i64 ((rd_T34 l0 (ji10)).f0), .int .i64 ((rd_T34 l0 (ji10)).f1)] 34 (0, 0)) (Kp.kpB BK264.out) hb)
         have n5_ := Kp.a (below_step (by repeat (first | (with_reducible first | exact HB.out | apply below_alloc | apply pw_below_drewN | apply below_drew1 | refine below_set ?_ GE260.out | refine below_set ?_ GE263.out | refine below_set ?_ GE264.out) | exact HB.out)) hb)
         have n6_ := Kp.a (hbox)
         have n7_ := Kp.a ((by rw [hg]; exact (below_size (by repeat (first | (with_reducible first | exact HB.out | apply below_alloc | apply pw_below_drewN | apply below_drew1 | refine below_set ?_ GE260.out | refine below_set ?_ GE263.out | refine below_set ?_ GE264.out) | exact HB.out))) : w.heap.size ≤ gb269))
         have n8_ := Kp.a ((by rw [hg]; exact (below_size (by repeat (first | (with_reducible first | exact HB.out | apply below_alloc | apply pw_below_drewN | apply below_drew1 | refine below_set ?_ GE260.out | refine below_set ?_ GE263.out | refine below_set ?_ GE264.out) | exact HB.out))) : w.heap.size ≤ gb269))
         have n9_ := Kp.a ((by rw [hg]; exact Nat.ne_of_lt (blk_lt (g := gb260) (o := .cells #[.int .i64 x261000_2, .int .i64 x261001_2] 34 (0, 0)) (Kp.kpB BK260.out)) : gb260 ≠ gb269))
         have n10_ := Kp.a ((by rw [hg]; exact Nat.ne_of_gt (blk_lt (g := gb260) (o := .cells #[.int .i64 x261000_2, .int .i64 x261001_2] 34 (0, 0)) (Kp.kpB BK260.out)) : gb269 ≠ gb260))
         have n11_ := Kp.a ((by rw [hg]; exact Nat.ne_of_lt (blk_lt (g := gb263) (o := .cells #[.int .i64 ((rd_T34 l0 x10_2).f0), .int .i64 ((rd_T34 l0 x10_2).f1)] 34 (0, 0)) (Kp.kpB BK263.out)) : gb263 ≠ gb269))
         have n12_ := Kp.a ((by rw [hg]; exact Nat.ne_of_gt (blk_lt (g := gb263) (o := .cells #[.int .i64 ((rd_T34 l0 x10_2).f0), .int .i64 ((rd_T34 l0 x10_2).f1)] 34 (0, 0)) (Kp.kpB BK263.out)) : gb269 ≠ gb263))
         have n13_ := Kp.a ((by rw [hg]; exact Nat.ne_of_lt (blk_lt (g := gb264) (o := .cells #[.int .i64 ((rd_T34 l0 (ji10)).f0), .int .i64 ((rd_T34 l0 (ji10)).f1)] 34 (0, 0)) (Kp.kpB BK264.out)) : gb264 ≠ gb269))
         have n14_ := Kp.a ((by rw [hg]; exact Nat.ne_of_gt (blk_lt (g := gb264) (o := .cells #[.int .i64 ((rd_T34 l0 (ji10)).f0), .int .i64 ((rd_T34 l0 (ji10)).f1)] 34 (0, 0)) (Kp.kpB BK264.out)) : gb269 ≠ gb264))
         clear HO_7
         clear HO_8
         clear BK260
         clear BK263
         clear BK264
         clear HB
         have HO_7 := n0_
         have HO_8 := n1_
         have BK260 := n2_
         have BK263 := n3_
         have BK264 := n4_
         have HB := n5_
         have BK269 := n6_
         have GW269 := n7_
         have GE269 := n8_
         have NB260_269 := n9_
         have NB269_260 := n10_
         have NB263_269 := n11_
         have NB269_263 := n12_
         have NB264_269 := n13_
         have NB269_264 := n14_
         clear n0_ n1_ n2_ n3_ n4_ n5_ n6_ n7_ n8_ n9_ n10_ n11_ n12_ n13_ n14_
         clear hb hbox hg
         refine hK.out _ _ ⟨(blk_cell BK264.out 0).trans rfl, (blk_cell BK264.out 1).trans rfl, (blk_cell BK263.out 0).trans rfl, (blk_cell BK263.out 1).trans rfl⟩ (fun hHeld => ?_)
         clear hK K
         refine norm_ (a' := ?_) ?_ ?_
         rotate_left
         ·show Act.put _ (some 13) _ = _
          simp only [Act.put, Kp.s0, Kp.s1, Kp.s2, i64_w, i32_w]
          rfl
         refine one_ (i := 5) (N := some 59) #[true, true, true, true, true, true, true, true, true, true, true, false, false, true, false] rfl rfl (one_of HT_.out (by kernel_rfl)) (by decide) (fun K hK => ?_)
         refine goes_ Try.func65 (by kernel_rfl) rfl #[.int .i64 (wrap64 (((rd_T34 l0 (ji10)).f0) - ((rd_T34 l0 x10_2).f0)))] (by rfl) rfl rfl (by (try simp only [List.map_toArray, List.map_cons, List.map_nil]); first | done | (simp only [hji10]; rfl) | rfl | (simp only [List.length_drop, List.length_take]; rfl)) ?_
         with_reducible refine (impl_sign.calls (wrap64 (((rd_T34 l0 (ji10)).f0) - ((rd_T34 l0 x10_2).f0))) t267 _ A37.out).mono ?_
         rintro e w' ⟨rfl, ⟨nd, rfl⟩⟩
         refine ⟨_, rfl, ?_⟩
         refine hK.out _ _ ⟨(blk_cell BK264.out 0).trans rfl, (blk_cell BK264.out 1).trans rfl, (blk_cell BK263.out 0).trans rfl, (blk_cell BK263.out 1).trans rfl⟩ (fun hHeld => ?_)
         clear hK K
         refine norm_ (a' := ?_) ?_ ?_
         rotate_left
         ·show Act.put _ (some 59) _ = _
          simp only [Act.put, Kp.s0, Kp.s1, Kp.s2, i64_w, i32_w]
          rfl
         refine one_ (i := 11) (N := some 65) #[true, true, true, true, true, true, true, true, true, true, true, true, false, true, false] rfl rfl (one_of HT_.out (by kernel_rfl)) (by decide) (fun K hK => ?_)
         refine goes_ Try.func65 (by kernel_rfl) rfl #[.int .i64 (wrap64 (((rd_T34 l0 (ji10)).f1) - ((rd_T34 l0 x10_2).f1)))] (by rfl) rfl rfl (by (try simp only [List.map_toArray, List.map_cons, List.map_nil]); first | done | (simp only [hji10]; rfl) | rfl | (simp only [List.length_drop, List.length_take]; rfl)) ?_
         with_reducible refine (impl_sign.calls (wrap64 (((rd_T34 l0 (ji10)).f1) - ((rd_T34 l0 x10_2).f1))) t268 _ A38.out).mono ?_
         rintro e w' ⟨rfl, ⟨nd, rfl⟩⟩
         refine ⟨_, rfl, ?_⟩
         refine hK.out _ _ ⟨(blk_cell BK264.out 0).trans rfl, (blk_cell BK264.out 1).trans rfl, (blk_cell BK263.out 0).trans rfl, (blk_cell BK263.out 1).trans rfl⟩ (fun hHeld => ?_)
         clear hK K
         refine norm_ (a' := ?_) ?_ ?_
         rotate_left
         ·show Act.put _ (some 65) _ = _
          simp only [Act.put, Kp.s0, Kp.s1, Kp.s2, i64_w, i32_w]
          rfl
         refine pure_ (i := 12) (N := some 66) (v := ?_) (a' := ?_) #[true, true, true, true, true, true, true, true, true, true, true, true, true, true, false] rfl rfl (any_of HT_.out (by kernel_rfl)) (fun _ _ _ h => h) (Or.inl ⟨by rfl, ?_⟩) ?_ ?_
         rotate_left
         ·intro w'
          go_simp
          with_reducible rfl
         rotate_left
         ·simp only [Act.put, Kp.s0, Kp.s1, Kp.s2, i64_w, i32_w]
          rfl
         exact norm_ (by simp only [putAll, Act.put, Kp.s0, Kp.s1, Kp.s2]) (hCont (gb269) _ ⟨hHeld, (Kp.kpR HO_7.out), (Kp.kpR HO_8.out), (Kp.kpB BK260.out), (Kp.kpB BK263.out), (Kp.kpB BK264.out), (Kp.kpB BK269.out), GW269.out, GE269.out, NB260_269.out, NB269_260.out, NB263_269.out, NB269_263.out, NB264_269.out, NB269_264.out, (by repeat (first | (with_reducible first | exact HB.out | apply below_alloc | apply pw_below_drewN | apply below_drew1 | refine below_set ?_ GE260.out | refine below_set ?_ GE263.out | refine below_set ?_ GE264.out | refine below_set ?_ GE269.out) | exact HB.out))⟩)
        rintro gb269 w66 ⟨hS_, h0_, h1_, h2_, h3_, h4_, h5_, h6_, h7_, h8_, h9_, h10_, h11_, h12_, h13_, h14_⟩
        have n0_ : Aside0 (Kd.R (Kd.int .i64) 3 w66 w.heap.size (fun k_ => some k_ ≠ (u8 : Value).ownBlock) u7 x7_2) := ⟨h0_⟩
        have n1_ : Aside0 (Kd.R (Kd.int .i64) 3 w66 w.heap.size (fun k_ => some k_ ≠ (u7 : Value).ownBlock) u8 x8_2) := ⟨h1_⟩
        have n2_ : Aside0 (w66.heap[gb260]? = some (.cells #[.int .i64 x261000_2, .int .i64 x261001_2] 34 (0, 0))) := ⟨h2_⟩
        have n3_ : Aside0 (w66.heap[gb263]? = some (.cells #[.int .i64 ((rd_T34 l0 x10_2).f0), .int .i64 ((rd_T34 l0 x10_2).f1)] 34 (0, 0))) := ⟨h3_⟩
        have n4_ : Aside0 (w66.heap[gb264]? = some (.cells #[.int .i64 ((rd_T34 l0 (ji10)).f0), .int .i64 ((rd_T34 l0 (ji10)).f1)] 34 (0, 0))) := ⟨h4_⟩
        have n5_ : Aside0 (w66.heap[gb269]? = some (.cells #[.int .i64 0, .int .i64 0] 34 (0, 0))) := ⟨h5_⟩
        have n6_ : Aside0 (w.heap.size ≤ gb269) := ⟨h6_⟩
        have n7_ : Aside0 (w.heap.size ≤ gb269) := ⟨h7_⟩
        have n8_ : Aside0 (gb260 ≠ gb269) := ⟨h8_⟩
        have n9_ : Aside0 (gb269 ≠ gb260) := ⟨h9_⟩
        have n10_ : Aside0 (gb263 ≠ gb269) := ⟨h10_⟩
        have n11_ : Aside0 (gb269 ≠ gb263) := ⟨h11_⟩
        have n12_ : Aside0 (gb264 ≠ gb269) := ⟨h12_⟩
        have n13_ : Aside0 (gb269 ≠ gb264) := ⟨h13_⟩
        have n14_ : Aside0 (Below w.heap.size w w66) := ⟨h14_⟩
        clear HO_7
        clear HO_8
        clear BK260
        clear BK263
        clear BK264
        clear HB
        clear h0_ h1_ h2_ h3_ h4_ h5_ h6_ h7_ h8_ h9_ h10_ h11_ h12_ h13_ h14_
        have HO_7 := n0_
        have HO_8 := n1_
        have BK260 := n2_
        have BK263 := n3_
        have BK264 := n4_
        have BK269 := n5_
        have GW269 := n6_
        have GE269 := n7_
        have NB260_269 := n8_
        have NB269_260 := n9_
        have NB263_269 := n10_
        have NB269_263 := n11_
        have NB264_269 := n12_
        have NB269_264 := n13_
        have HB := n14_
        clear n0_ n1_ n2_ n3_ n4_ n5_ n6_ n7_ n8_ n9_ n10_ n11_ n12_ n13_ n14_
        have hHeld : w66.cell? ⟨gb264, 0, none⟩ = some (.int .i64 ((rd_T34 l0 (ji10)).f0)) ∧ w66.cell? ⟨gb264, 1, none⟩ = some (.int .i64 ((rd_T34 l0 (ji10)).f1)) ∧ w66.cell? ⟨gb263, 0, none⟩ = some (.int .i64 ((rd_T34 l0 x10_2).f0)) ∧ w66.cell? ⟨gb263, 1, none⟩ = some (.int .i64 ((rd_T34 l0 x10_2).f1)) := hS_
        refine norm_ (a' := ?_) ?_ ?_
        rotate_left
        ·simp only [putAll, Act.put, Kp.s0, Kp.s1, Kp.s2]
         rfl
        refine one_ (i := 14) (N := none) #[true, true, true, true, true, true, true, true, true, true, true, true, true, true, true] rfl rfl (one_of HT_.out (by kernel_rfl)) (by decide) (fun K hK => ?_)
        have hs67 : w66.cell? ⟨gb269, 0, none⟩ = some (.int .i64 0) := (blk_cell BK269.out 0).trans rfl
        have hfs67 := blk_frozen BK269.out 0
        have hns67_0 := NB260_269.out
        have hns67_1 := NB263_269.out
        have hns67_2 := NB264_269.out
        have hms67_0 := NB269_260.out
        have hms67_1 := NB269_263.out
        have hms67_2 := NB269_264.out
        have hs68 : w66.cell? ⟨gb269, 1, none⟩ = some (.int .i64 0) := (blk_cell BK269.out 1).trans rfl
        have hfs68 := blk_frozen BK269.out 1
        have hns68_0 := NB260_269.out
        have hns68_1 := NB263_269.out
        have hns68_2 := NB264_269.out
        have hms68_0 := NB269_260.out
        have hms68_1 := NB269_263.out
        have hms68_2 := NB269_264.out
        refine skip_ (w1 := ?_) (by rfl) rfl ?_ ?_
        rotate_left
        ·go_simp
         rfl
        refine hK.out _ _ ⟨((cell_far (p := ⟨gb269, _, none⟩) NB264_269.out _).trans (((cell_far (p := ⟨gb269, _, none⟩) NB264_269.out _).trans (hHeld.1)))), ((cell_far (p := ⟨gb269, _, none⟩) NB264_269.out _).trans (((cell_far (p := ⟨gb269, _, none⟩) NB264_269.out _).trans (hHeld.2.1)))), ((cell_far (p := ⟨gb269, _, none⟩) NB263_269.out _).trans (((cell_far (p := ⟨gb269, _, none⟩) NB263_269.out _).trans (hHeld.2.2.1)))), ((cell_far (p := ⟨gb269, _, none⟩) NB263_269.out _).trans (((cell_far (p := ⟨gb269, _, none⟩) NB263_269.out _).trans (hHeld.2.2.2))))⟩ (fun hHeld => ?_)
        clear hK K
        refine done_ (done_of HT_.out (by kernel_rfl)) ?_
        try go_wp2
        have n0_ : Aside0 (Kd.R (Kd.int .i64) 3 ((w66.setCell ⟨gb269, 0, none⟩ (.int .i64 t267)).setCell ⟨gb269, 1, none⟩ (.int .i64 t268)) w.heap.size (fun k_ => some k_ ≠ (u8 : Value).ownBlock) u7 x7_2) := ⟨Kp.kpR (Kd.R_mono (Kd.R_far (p := ⟨gb269, 1, none⟩) (Kd.R_far (p := ⟨gb269, 0, none⟩) (Kd.R_types HO_7.out BK269.out (by decide)) (fun _ hk => hk.2) (.int .i64 t267)) (fun _ hk => hk.2) (.int .i64 t268)) (fun _ hk => hk.1))⟩
        have n1_ : Aside0 (Kd.R (Kd.int .i64) 3 ((w66.setCell ⟨gb269, 0, none⟩ (.int .i64 t267)).setCell ⟨gb269, 1, none⟩ (.int .i64 t268)) w.heap.size (fun k_ => some k_ ≠ (u7 : Value).ownBlock) u8 x8_2) := ⟨Kp.kpR (Kd.R_mono (Kd.R_far (p := ⟨gb269, 1, none⟩) (Kd.R_far (p := ⟨gb269, 0, none⟩) (Kd.R_types HO_8.out BK269.out (by decide)) (fun _ hk => hk.2) (.int .i64 t267)) (fun _ hk => hk.2) (.int .i64 t268)) (fun _ hk => hk.1))⟩
        have n2_ : Aside0 (((w66.setCell ⟨gb269, 0, none⟩ (.int .i64 t267)).setCell ⟨gb269, 1, none⟩ (.int .i64 t268)).heap[gb260]? = some (.cells #[.int .i64 x261000_2, .int .i64 x261001_2] 34 (0, 0))) := ⟨by (with_reducible repeat (first | refine blk_drewN ?_ _ | refine blk_drew ?_ | refine blk_alloc ?_ _)); refine blk_far ?_ NB260_269.out _; (with_reducible repeat (first | refine blk_drewN ?_ _ | refine blk_drew ?_ | refine blk_alloc ?_ _)); refine blk_far ?_ NB260_269.out _; (with_reducible repeat (first | refine blk_drewN ?_ _ | refine blk_drew ?_ | refine blk_alloc ?_ _)); exact BK260.out⟩
        have n3_ : Aside0 (((w66.setCell ⟨gb269, 0, none⟩ (.int .i64 t267)).setCell ⟨gb269, 1, none⟩ (.int .i64 t268)).heap[gb263]? = some (.cells #[.int .i64 ((rd_T34 l0 x10_2).f0), .int .i64 ((rd_T34 l0 x10_2).f1)] 34 (0, 0))) := ⟨by (with_reducible repeat (first | refine blk_drewN ?_ _ | refine blk_drew ?_ | refine blk_alloc ?_ _)); refine blk_far ?_ NB263_269.out _; (with_reducible repeat (first | refine blk_drewN ?_ _ | refine blk_drew ?_ | refine blk_alloc ?_ _)); refine blk_far ?_ NB263_269.out _; (with_reducible repeat (first | refine blk_drewN ?_ _ | refine blk_drew ?_ | refine blk_alloc ?_ _)); exact BK263.out⟩
        have n4_ : Aside0 (((w66.setCell ⟨gb269, 0, none⟩ (.int .i64 t267)).setCell ⟨gb269, 1, none⟩ (.int .i64 t268)).heap[gb264]? = some (.cells #[.int .i64 ((rd_T34 l0 (ji10)).f0), .int .i64 ((rd_T34 l0 (ji10)).f1)] 34 (0, 0))) := ⟨by (with_reducible repeat (first | refine blk_drewN ?_ _ | refine blk_drew ?_ | refine blk_alloc ?_ _)); refine blk_far ?_ NB264_269.out _; (with_reducible repeat (first | refine blk_drewN ?_ _ | refine blk_drew ?_ | refine blk_alloc ?_ _)); refine blk_far ?_ NB264_269.out _; (with_reducible repeat (first | refine blk_drewN ?_ _ | refine blk_drew ?_ | refine blk_alloc ?_ _)); exact BK264.out⟩
        have n5_ : Aside0 (((w66.setCell ⟨gb269, 0, none⟩ (.int .i64 t267)).setCell ⟨gb269, 1, none⟩ (.int .i64 t268)).heap[gb269]? = some (.cells #[.int .i64 t267, .int .i64 t268] 34 (0, 0))) := ⟨by (with_reducible repeat (first | refine blk_drewN ?_ _ | refine blk_drew ?_ | refine blk_alloc ?_ _)); refine blk_put (cs := #[.int .i64 t267, .int .i64 0]) ?_ 1 _ rfl; (with_reducible repeat (first | refine blk_drewN ?_ _ | refine blk_drew ?_ | refine blk_alloc ?_ _)); refine blk_put (cs := #[.int .i64 0, .int .i64 0]) ?_ 0 _ rfl; (with_reducible repeat (first | refine blk_drewN ?_ _ | refine blk_drew ?_ | refine blk_alloc ?_ _)); exact BK269.out⟩
        have n6_ : Aside0 (Below w.heap.size w ((w66.setCell ⟨gb269, 0, none⟩ (.int .i64 t267)).setCell ⟨gb269, 1, none⟩ (.int .i64 t268))) := ⟨by repeat (first | (with_reducible first | exact HB.out | apply below_alloc | apply pw_below_drewN | apply below_drew1 | refine below_set ?_ GE260.out | refine below_set ?_ GE263.out | refine below_set ?_ GE264.out | refine below_set ?_ GE269.out) | exact HB.out)⟩
        (try clear HO_7)
        (try clear HO_8)
        (try clear BK260)
        (try clear BK263)
        (try clear BK264)
        (try clear BK269)
        (try clear HB)
        generalize ((w66.setCell ⟨gb269, 0, none⟩ (.int .i64 t267)).setCell ⟨gb269, 1, none⟩ (.int .i64 t268)) = w69 at n0_ n1_ n2_ n3_ n4_ n5_ n6_ ⊢
        have HO_7 := n0_
        have HO_8 := n1_
        have BK260 := n2_
        have BK263 := n3_
        have BK264 := n4_
        have BK269 := n5_
        have HB := n6_
        clear n0_ n1_ n2_ n3_ n4_ n5_ n6_
        have n0_ := Kp.a (Kd.R_drew HO_7.out)
        have n1_ := Kp.a (Kd.R_drew HO_8.out)
        have n2_ := Kp.a (blk_drew BK260.out)
        have n3_ := Kp.a (blk_drew BK263.out)
        have n4_ := Kp.a (blk_drew BK264.out)
        have n5_ := Kp.a (blk_drew BK269.out)
        have n6_ := Kp.a (below_drew1 HB.out)
        clear HO_7
        clear HO_8
        clear BK260
        clear BK263
        clear BK264
        clear BK269
        clear HB
        have HO_7 := n0_
        have HO_8 := n1_
        have BK260 := n2_
        have BK263 := n3_
        have BK264 := n4_
        have BK269 := n5_
        have HB := n6_
        clear n0_ n1_ n2_ n3_ n4_ n5_ n6_
        refine start_ (n := 17) (S := fun w' => w'.cell? ⟨gb264, 0, none⟩ = some (.int .i64 ((rd_T34 l0 (ji10)).f0)) ∧ w'.cell? ⟨gb264, 1, none⟩ = some (.int .i64 ((rd_T34 l0 (ji10)).f1)) ∧ w'.cell? ⟨gb263, 0, none⟩ = some (.int .i64 ((rd_T34 l0 x10_2).f0)) ∧ w'.cell? ⟨gb263, 1, none⟩ = some (.int .i64 ((rd_T34 l0 x10_2).f1))) (ds := []) #[false, false, false, false, false, false, false, false, false, false, false, false, false, false, false, false, false] (by kernel_rfl) rfl rfl ⟨(blk_cell BK264.out 0).trans rfl, (blk_cell BK264.out 1).trans rfl, (blk_cell BK263.out 0).trans rfl, (blk_cell BK263.out 1).trans rfl⟩ (fun hHeld => ?_); refine with_tabW impl_Flat.tab16 impl_Flat.bits16 (fun HT_ HW_ => ?_)
        generalize w69.drew = w70 at HO_7 HO_8 BK260 BK263 BK264 BK269 HB hHeld ⊢
        refine pure_ (i := 0) (N := some 67) (v := ?_) (a' := ?_) #[true, false, false, false, false, false, false, false, false, false, false, false, false, false, false, false, false] rfl rfl (any_of HT_.out (by kernel_rfl)) (fun _ _ _ h => h) (Or.inl ⟨by rfl, ?_⟩) ?_ ?_
        rotate_left
        ·intro w'
         go_simp
         with_reducible rfl
        rotate_left
        ·simp only [Act.put, Kp.s0, Kp.s1, Kp.s2, i64_w, i32_w]
         rfl
        refine pure_ (i := 1) (N := some 68) (v := ?_) (a' := ?_) #[true, true, false, false, false, false, false, false, false, false, false, false, false, false, false, false, false] rfl rfl (any_of HT_.out (by kernel_rfl)) (fun _ _ _ h => h) (Or.inl ⟨by rfl, ?_⟩) ?_ ?_
        rotate_left
        ·intro w'
         go_simp
         with_reducible rfl
        rotate_left
        ·simp only [Act.put, Kp.s0, Kp.s1, Kp.s2, i64_w, i32_w]
         rfl
        refine pure_ (i := 3) (N := some 70) (v := ?_) (a' := ?_) #[true, true, false, true, false, false, false, false, false, false, false, false, false, false, false, false, false] rfl rfl (any_of HT_.out (by kernel_rfl)) (fun _ _ _ h => h) (Or.inl ⟨by rfl, ?_⟩) ?_ ?_
        rotate_left
        ·intro w'
         go_simp
         with_reducible rfl
        rotate_left
        ·simp only [Act.put, Kp.s0, Kp.s1, Kp.s2, i64_w, i32_w]
         rfl
        refine pure_ (i := 7) (N := some 74) (v := ?_) (a' := ?_) #[true, true, false, true, false, false, false, true, false, false, false, false, false, false, false, false, false] rfl rfl (any_of HT_.out (by kernel_rfl)) (fun _ _ _ h => h) (Or.inl ⟨by rfl, ?_⟩) ?_ ?_
        rotate_left
        ·intro w'
         go_simp
         with_reducible rfl
        rotate_left
        ·simp only [Act.put, Kp.s0, Kp.s1, Kp.s2, i64_w, i32_w]
         rfl
        refine pure_ (i := 9) (N := some 76) (v := ?_) (a' := ?_) #[true, true, false, true, false, false, false, true, false, true, false, false, false, false, false, false, false] rfl rfl (any_of HT_.out (by kernel_rfl)) (fun _ _ _ h => h) (Or.inl ⟨by rfl, ?_⟩) ?_ ?_
        rotate_left
        ·intro w'
         go_simp
         with_reducible rfl
        rotate_left
        ·simp only [Act.put, Kp.s0, Kp.s1, Kp.s2, i64_w, i32_w]
         rfl
        refine take_ (i := 2) (N := some 69) (v := ?_) (a' := ?_) #[true, true, true, true, false, false, false, true, false, true, false, false, false, false, false, false, false] rfl rfl (take_ofW HT_.out HW_.out (by kernel_rfl)) (fun _ _ _ h => h) (Or.inl ⟨by rfl, ?_⟩) hHeld ?_ ?_
        rotate_left
        ·rintro w' ⟨s0, s1, s2, s3⟩
         go_simp
         with_reducible rfl
        rotate_left
        ·simp only [Act.put, Kp.s0, Kp.s1, Kp.s2, i64_w, i32_w]
         rfl
        refine take_ (i := 4) (N := some 71) (v := ?_) (a' := ?_) #[true, true, true, true, true, false, false, true, false, true, false, false, false, false, false, false, false] rfl rfl (take_ofW HT_.out HW_.out (by kernel_rfl)) (fun _ _ _ h => h) (Or.inl ⟨by rfl, ?_⟩) hHeld ?_ ?_
        rotate_left
        ·rintro w' ⟨s0, s1, s2, s3⟩
         go_simp
         with_reducible rfl
        rotate_left
        ·simp only [Act.put, Kp.s0, Kp.s1, Kp.s2, i64_w, i32_w]
         rfl
        refine pure_ (i := 5) (N := some 72) (v := ?_) (a' := ?_) #[true, true, true, true, true, true, false, true, false, true, false, false, false, false, false, false, false] rfl rfl (any_of HT_.out (by kernel_rfl)) (fun _ _ _ h => h) (Or.inl ⟨by rfl, ?_⟩) ?_ ?_
        rotate_left
        ·intro w'
         go_simp
         with_reducible rfl
        rotate_left
        ·simp only [Act.put, Kp.s0, Kp.s1, Kp.s2, i64_w, i32_w]
         rfl
        refine take_ (i := 8) (N := some 75) (v := ?_) (a' := ?_) #[true, true, true, true, true, true, false, true, true, true, false, false, false, false, false, false, false] rfl rfl (take_ofW HT_.out HW_.out (by kernel_rfl)) (fun _ _ _ h => h) (Or.inl ⟨by rfl, ?_⟩) hHeld ?_ ?_
        rotate_left
        ·rintro w' ⟨s0, s1, s2, s3⟩
         go_simp
         with_reducible rfl
        rotate_left
        ·simp only [Act.put, Kp.s0, Kp.s1, Kp.s2, i64_w, i32_w]
         rfl
        refine take_ (i := 10) (N := some 77) (v := ?_) (a' := ?_) #[true, true, true, true, true, true, false, true, true, true, true, false, false, false, false, false, false] rfl rfl (take_ofW HT_.out HW_.out (by kernel_rfl)) (fun _ _ _ h => h) (Or.inl ⟨by rfl, ?_⟩) hHeld ?_ ?_
        rotate_left
        ·rintro w' ⟨s0, s1, s2, s3⟩
         go_simp
         with_reducible rfl
        rotate_left
        ·simp only [Act.put, Kp.s0, Kp.s1, Kp.s2, i64_w, i32_w]
         rfl
        refine pure_ (i := 11) (N := some 78) (v := ?_) (a' := ?_) #[true, true, true, true, true, true, false, true, true, true, true, true, false, false, false, false, false] rfl rfl (any_of HT_.out (by kernel_rfl)) (fun _ _ _ h => h) (Or.inl ⟨by rfl, ?_⟩) ?_ ?_
        rotate_left
        ·intro w'
         go_simp
         with_reducible rfl
        rotate_left
        ·simp only [Act.put, Kp.s0, Kp.s1, Kp.s2, i64_w, i32_w]
         rfl
        refine one_ (i := 6) (N := some 73) #[true, true, true, true, true, true, true, true, true, true, true, true, false, false, false, false, false] rfl rfl (one_of HT_.out (by kernel_rfl)) (by decide) (fun K hK => ?_)
        refine goes_ Try.func88 (by kernel_rfl) rfl #[.int .i64 (wrap64 (((rd_T34 l0 (ji10)).f0) - ((rd_T34 l0 x10_2).f0)))] (by rfl) rfl rfl (by (try simp only [List.map_toArray, List.map_cons, List.map_nil]); first | done | (simp only [hji10]; rfl) | rfl | (simp only [List.length_drop, List.length_take]; rfl)) ?_
        with_reducible refine (impl_abs.calls (wrap64 (((rd_T34 l0 (ji10)).f0) - ((rd_T34 l0 x10_2).f0))) t270 _ A39.out).mono ?_
        rintro e w71 ⟨rfl, hb⟩
        refine ⟨_, rfl, ?_⟩
        have n0_ := Kp.a (Kd.R_below (Kp.kpR HO_7.out) hb)
        have n1_ := Kp.a (Kd.R_below (Kp.kpR HO_8.out) hb)
        have n2_ := Kp.a (blk_below (g := gb260) (o := .cells #[.int .i64 x261000_2, .int .i64 x261001_2] 34 (0, 0)) (Kp.kpB BK260.out) hb)
        have n3_ := Kp.a (blk_below (g := gb263) (o := .cells #[.int .i64 ((rd_T34 l0 x10_2).f0), .int .i64 ((rd_T34 l0 x10_2).f1)] 34 (0, 0)) (Kp.kpB BK263.out) hb)
        have n4_ := Kp.a (blk_below (g := gb264) (o := .cells #[.int .i64 ((rd_T34 l0 (ji10)).f0), .int .i64 ((rd_T34 l0 (ji10)).f1)] 34 (0, 0)) (Kp.kpB BK264.out) hb)
        have n5_ := Kp.a (blk_below (g := gb269) (o := .cells #[.int .i64 t267, .int .i64 t268] 34 (0, 0)) (Kp.kpB BK269.out) hb)
        have n6_ := Kp.a (below_step (by repeat (first | (with_reducible first | exact HB.out | apply below_alloc | apply pw_below_drewN | apply below_drew1 | refine below_set ?_ GE260.out | refine below_set ?_ GE263.out | refine below_set ?_ GE264.out | refine below_set ?_ GE269.out) | exact HB.out)) hb)
        clear HO_7
        clear HO_8
        clear BK260
        clear BK263
        clear BK264
        clear BK269
        clear HB
        have HO_7 := n0_
        have HO_8 := n1_
        have BK260 := n2_
        have BK263 := n3_
        have BK264 := n4_
        have BK269 := n5_
        have HB := n6_
        clear n0_ n1_ n2_ n3_ n4_ n5_ n6_
        (try clear hb)
        (try clear hb2)
        (try clear hk)
        (try clear hi)
        refine hK.out _ _ ⟨(blk_cell BK264.out 0).trans rfl, (blk_cell BK264.out 1).trans rfl, (blk_cell BK263.out 0).trans rfl, (blk_cell BK263.out 1).trans rfl⟩ (fun hHeld => ?_)
        clear hK K
        refine norm_ (a' := ?_) ?_ ?_
        rotate_left
        ·show Act.put _ (some 73) _ = _
         simp only [Act.put, Kp.s0, Kp.s1, Kp.s2, i64_w, i32_w]
         rfl
        refine one_ (i := 12) (N := some 79) #[true, true, true, true, true, true, true, true, true, true, true, true, true, false, false, false, false] rfl rfl (one_of HT_.out (by kernel_rfl)) (by decide) (fun K hK => ?_)
        refine goes_ Try.func88 (by kernel_rfl) rfl #[.int .i64 (wrap64 (((rd_T34 l0 (ji10)).f1) - ((rd_T34 l0 x10_2).f1)))] (by rfl) rfl rfl (by (try simp only [List.map_toArray, List.map_cons, List.map_nil]); first | done | (simp only [hji10]; rfl) | rfl | (simp only [List.length_drop, List.length_take]; rfl)) ?_
        with_reducible refine (impl_abs.calls (wrap64 (((rd_T34 l0 (ji10)).f1) - ((rd_T34 l0 x10_2).f1))) t271 _ A40.out).mono ?_
        rintro e w72 ⟨rfl, hb⟩
        refine ⟨_, rfl, ?_⟩
        have n0_ := Kp.a (Kd.R_below (Kp.kpR HO_7.out) hb)
        have n1_ := Kp.a (Kd.R_below (Kp.kpR HO_8.out) hb)
        have n2_ := Kp.a (blk_below (g := gb260) (o := .cells #[.int .i64 x261000_2, .int .i64 x261001_2] 34 (0, 0)) (Kp.kpB BK260.out) hb)
        have n3_ := Kp.a (blk_below (g := gb263) (o := .cells #[.int .i64 ((rd_T34 l0 x10_2).f0), .int .i64 ((rd_T34 l0 x10_2).f1)] 34 (0, 0)) (Kp.kpB BK263.out) hb)
        have n4_ := Kp.a (blk_below (g := gb264) (o := .cells #[.int .i64 ((rd_T34 l0 (ji10)).f0), .int .i64 ((rd_T34 l0 (ji10)).f1)] 34 (0, 0)) (Kp.kpB BK264.out) hb)
        have n5_ := Kp.a (blk_below (g := gb269) (o := .cells #[.int .i64 t267, .int .i64 t268] 34 (0, 0)) (Kp.kpB BK269.out) hb)
        have n6_ := Kp.a (below_step (by repeat (first | (with_reducible first | exact HB.out | apply below_alloc | apply pw_below_drewN | apply below_drew1 | refine below_set ?_ GE260.out | refine below_set ?_ GE263.out | refine below_set ?_ GE264.out | refine below_set ?_ GE269.out) | exact HB.out)) hb)
        clear HO_7
        clear HO_8
        clear BK260
        clear BK263
        clear BK264
        clear BK269
        clear HB
        have HO_7 := n0_
        have HO_8 := n1_
        have BK260 := n2_
        have BK263 := n3_
        have BK264 := n4_
        have BK269 := n5_
        have HB := n6_
        clear n0_ n1_ n2_ n3_ n4_ n5_ n6_
        (try clear hb)
        (try clear hb2)
        (try clear hk)
        (try clear hi)
        refine hK.out _ _ ⟨(blk_cell BK264.out 0).trans rfl, (blk_cell BK264.out 1).trans rfl, (blk_cell BK263.out 0).trans rfl, (blk_cell BK263.out 1).trans rfl⟩ (fun hHeld => ?_)
        clear hK K
        refine norm_ (a' := ?_) ?_ ?_
        rotate_left
        ·show Act.put _ (some 79) _ = _
         simp only [Act.put, Kp.s0, Kp.s1, Kp.s2, i64_w, i32_w]
         rfl
        refine pure_ (i := 13) (N := some 80) (v := ?_) (a' := ?_) #[true, true, true, true, true, true, true, true, true, true, true, true, true, true, false, false, false] rfl rfl (any_of HT_.out (by kernel_rfl)) (fun _ _ _ h => h) (Or.inl ⟨by rfl, ?_⟩) ?_ ?_
        rotate_left
        ·intro w'
         go_simp
         with_reducible rfl
        rotate_left
        ·simp only [Act.put, Kp.s0, Kp.s1, Kp.s2, i64_w, i32_w]
         rfl
        refine one_ (i := 14) (N := some 81) #[true, true, true, true, true, true, true, true, true, true, true, true, true, true, true, false, false] rfl rfl (one_of HT_.out (by kernel_rfl)) (by decide) (fun K hK => ?_)
        refine value_ (w1 := ?_) (v := ?_) (by rfl) rfl ?_ ?_
        rotate_left 2
        ·go_simp
         constructor
         ·rfl
         rfl
        refine hK.out _ _ ⟨(blk_cell (blk_alloc BK264.out _) 0).trans rfl, (blk_cell (blk_alloc BK264.out _) 1).trans rfl, (blk_cell (blk_alloc BK263.out _) 0).trans rfl, (blk_cell (blk_alloc BK263.out _) 1).trans rfl⟩ (fun hHeld => ?_)
        clear hK K
        refine norm_ (a' := ?_) ?_ ?_
        rotate_left
        ·show Act.put _ (some 81) _ = _
         simp only [Act.put, Kp.s0, Kp.s1, Kp.s2, i64_w, i32_w]
         rfl
        refine one_ (i := 15) (N := some 82) #[true, true, true, true, true, true, true, true, true, true, true, true, true, true, true, true, false] rfl rfl (one_of HT_.out (by kernel_rfl)) (by decide) (fun K hK => ?_)
        refine Kd.R_append_step (Kd.int .i64) (w0 := w) w.heap.size (by rfl) (.tmp 67) (.tmp 81) 55 3 (.int .i64 0) 8 rfl Try.underlying55 info3 rfl (by decide) (by omega) u7 x7_2 (wrap64 (t270 + t271)) [.int .i64 (wrap64 (t270 + t271))] (fun k_ => some k_ ≠ (u8 : Value).ownBlock) (fun _ => False) rfl rfl ?aP (fun _ hk => hk.elim) ?aF ?aO ?aB ?aS ?aL ?_
        (case aP => exact rfl)
        (case aB => exact (by repeat (first | (with_reducible first | exact HB.out | apply below_alloc | apply pw_below_drewN | apply below_drew1 | refine below_set ?_ GE260.out | refine below_set ?_ GE263.out | refine below_set ?_ GE264.out | refine below_set ?_ GE269.out) | exact HB.out)))
        (case aF => exact (fun k_ hk => Kd.fresh' (Kd.R_lt (Kp.kpR HO_8.out)) k_ hk))
        (case aO => exact (Kp.kpR HO_7.out))
        (case aS => exact (below_size (by repeat (first | (with_reducible first | exact HB.out | apply below_alloc | apply pw_below_drewN | apply below_drew1 | refine below_set ?_ GE260.out | refine below_set ?_ GE263.out | refine below_set ?_ GE264.out | refine below_set ?_ GE269.out) | exact HB.out))))
        (case aL => have := LMc41.out; omega)
        intro v273 w73 ho hb hg hat
        rw [← Ny272.out] at ho
        have n0_ := Kp.a (Kd.R_after (ok := (fun _ => True)) (Kp.kpR (Kd.R_mono HO_8.out (fun _ hk => ⟨trivial, hk⟩))) hg hat)
        have n1_ := Kp.a (blk_grown (g := gb260) (o := .cells #[.int .i64 x261000_2, .int .i64 x261001_2] 34 (0, 0)) (Kp.kpB BK260.out) hg (Kd.R_ne HO_7.out BK260.out (by decide)))
        have n2_ := Kp.a (blk_grown (g := gb263) (o := .cells #[.int .i64 ((rd_T34 l0 x10_2).f0), .int .i64 ((rd_T34 l0 x10_2).f1)] 34 (0, 0)) (Kp.kpB BK263.out) hg (Kd.R_ne HO_7.out BK263.out (by decide)))
        have n3_ := Kp.a (blk_grown (g := gb264) (o := .cells #[.int .i64 ((rd_T34 l0 (ji10)).f0), .int .i64 ((rd_T34 l0 (ji10)).f1)] 34 (0, 0)) (Kp.kpB BK264.out) hg (Kd.R_ne HO_7.out BK264.out (by decide)))
        have n4_ := Kp.a (blk_grown (g := gb269) (o := .cells #[.int .i64 t267, .int .i64 t268] 34 (0, 0)) (Kp.kpB BK269.out) hg (Kd.R_ne HO_7.out BK269.out (by decide)))
        have n5_ := Kp.a (hb)
        have n6_ := Kp.a (ho)
        clear HO_8
        clear BK260
        clear BK263
        clear BK264
        clear BK269
        clear HB
        clear HO_7
        have HO_8 := n0_
        have BK260 := n1_
        have BK263 := n2_
        have BK264 := n3_
        have BK269 := n4_
        have HB := n5_
        have HO274 := n6_
        clear n0_ n1_ n2_ n3_ n4_ n5_ n6_
        clear ho hb hg hat
        refine hK.out _ _ ⟨(blk_cell BK264.out 0).trans rfl, (blk_cell BK264.out 1).trans rfl, (blk_cell BK263.out 0).trans rfl, (blk_cell BK263.out 1).trans rfl⟩ (fun hHeld => ?_)
        clear hK K
        refine norm_ (a' := ?_) ?_ ?_
        rotate_left
        ·show Act.put _ (some 82) _ = _
         simp only [Act.put, Kp.s0, Kp.s1, Kp.s2, i64_w, i32_w]
         rfl
        refine pure_ (i := 16) (N := some 7) (v := ?_) (a' := ?_) #[true, true, true, true, true, true, true, true, true, true, true, true, true, true, true, true, true] rfl rfl (any_of HT_.out (by kernel_rfl)) (fun _ _ _ h => h) (Or.inl ⟨by rfl, ?_⟩) ?_ ?_
        rotate_left
        ·intro w'
         go_simp
         with_reducible rfl
        rotate_left
        ·simp only [Act.put, Kp.s0, Kp.s1, Kp.s2, i64_w, i32_w]
         rfl
        refine done_ (done_of HT_.out (by kernel_rfl)) ?_
        have hnb74 := NB269_260.out
        have hnc74 := NB260_269.out
        have hnb75 := NB269_263.out
        have hnc75 := NB263_269.out
        have hnb76 := NB269_264.out
        have hnc76 := NB264_269.out
        have hcz77_0 : w73.cell? ⟨gb269, 0, none⟩ = some (.int .i64 t267) := (blk_cell BK269.out 0).trans rfl
        have hcz77_1 : w73.cell? ⟨gb269, 1, none⟩ = some (.int .i64 t268) := (blk_cell BK269.out 1).trans rfl
        have hfz77_0 := blk_frozen BK269.out 0
        have hfz77_1 := blk_frozen BK269.out 1
        have hnb78 := NB260_263.out
        have hnc78 := NB263_260.out
        have hnb79 := NB260_264.out
        have hnc79 := NB264_260.out
        have hcz80_0 : w73.cell? ⟨gb260, 0, none⟩ = some (.int .i64 x261000_2) := (blk_cell BK260.out 0).trans rfl
        have hcz80_1 : w73.cell? ⟨gb260, 1, none⟩ = some (.int .i64 x261001_2) := (blk_cell BK260.out 1).trans rfl
        have hfz80_0 := blk_frozen BK260.out 0
        have hfz80_1 := blk_frozen BK260.out 1
        try go_wp2
        go_roundg kj12
        case measure => have := HJ2.out; have := HK2.out; have := HJ12.out; omega
        case rel => exact ⟨(y272), (x8_2), (wrap64 (x10_2 + 1)), (t267), (t268), (by first | rfl | (simp; done) | (simp [*]; done)), H', ⟨by have := HJ2.out; have := HK2.out; have := HJ12.out; omega⟩, ⟨Kp.kpR (Kd.R_mono (Kd.R_far (p := ⟨gb260, 1, none⟩) (Kd.R_far (p := ⟨gb260, 0, none⟩) (Kd.R_types HO274.out BK260.out (by decide)) (fun _ hk => hk.2) (.int .i64 t267)) (fun _ hk => hk.2) (.int .i64 t268)) (fun _ hk => hk.1))⟩, ⟨Kp.kpR (Kd.R_mono (Kd.R_far (p := ⟨gb260, 1, none⟩) (Kd.R_far (p := ⟨gb260, 0, none⟩) (Kd.R_types HO_8.out BK260.out (by decide)) (fun _ hk => hk.2) (.int .i64 t267)) (fun _ hk => hk.2) (.int .i64 t268)) (fun _ hk => hk.1.2))⟩, ⟨by (with_reducible repeat (first | refine blk_drewN ?_ _ | refine blk_drew ?_ | refine blk_alloc ?_ _)); refine blk_put (cs := #[.int .i64 t267, .int .i64 x261001_2]) ?_ 1 _ rfl; (with_reducible repeat (first | refine blk_drewN ?_ _ | refine blk_drew ?_ | refine blk_alloc ?_ _)); refine blk_put (cs := #[.int .i64 x261000_2, .int .i64 x261001_2]) ?_ 0 _ rfl; (with_reducible repeat (first | refine blk_drewN ?_ _ | refine blk_drew ?_ | refine blk_alloc ?_ _)); exact BK260.out⟩, ⟨by repeat (first | (with_reducible first | exact HB.out | apply below_alloc | apply pw_below_drewN | apply below_drew1 | refine below_set ?_ GE260.out | refine below_set ?_ GE263.out | refine below_set ?_ GE264.out | refine below_set ?_ GE269.out) | exact HB.out)⟩⟩
       rw [if_pos c42] at H
       have c42b0 : decide (0 < x10_2) = true := decide_eq_true c42
       clear c42
       by_cases c43 : x8_2.length < 17592186044416
       rotate_left
       ·rw [if_neg c43] at H
        exact absurd H (by simp)
       rw [if_pos c43] at H
       have LMc43 := Kp.a c43
       clear c43
       obtain ⟨y275, hy275⟩ : ∃ y_ : List Int, y_ = (x8_2 ++ [wrap64 ((wrap64 (x261000_2 * t268)) - (wrap64 (x261001_2 * t267)))]) := ⟨_, rfl⟩
       replace H : (impl_Flat.l0 kj12 l0 (l0.length : Int) y272 y275 (wrap64 (x10_2 + 1)) t267 t268) = some (r1, r2, r3) := by first | (rw [hy275]; with_reducible exact H) | (have H2_ := (Option.bind_some _ _).symm.trans H; rw [hy275]; with_reducible exact H2_) | (have H2_ := (Option.bind_some _ _).symm.trans H; with_reducible exact H2_) | with_reducible exact H | (rw [hy275]; exact H) | exact H
       have Ny275 := Kp.a hy275
       clear hy275
       have H' := Kp.a H
       clear H
       try go_wp2
       have n0_ := Kp.a (Kd.R_drew HO_7.out)
       have n1_ := Kp.a (Kd.R_drew HO_8.out)
       have n2_ := Kp.a (blk_drew BK260.out)
       have n3_ := Kp.a (blk_drew BK263.out)
       have n4_ := Kp.a (blk_drew BK264.out)
       have n5_ := Kp.a (below_drew1 HB.out)
       clear HO_7
       clear HO_8
       clear BK260
       clear BK263
       clear BK264
       clear HB
       have HO_7 := n0_
       have HO_8 := n1_
       have BK260 := n2_
       have BK263 := n3_
       have BK264 := n4_
       have HB := n5_
       clear n0_ n1_ n2_ n3_ n4_ n5_
       refine start_ (n := 15) (S := fun w' => w'.cell? ⟨gb264, 0, none⟩ = some (.int .i64 ((rd_T34 l0 (ji10)).f0)) ∧ w'.cell? ⟨gb264, 1, none⟩ = some (.int .i64 ((rd_T34 l0 (ji10)).f1)) ∧ w'.cell? ⟨gb263, 0, none⟩ = some (.int .i64 ((rd_T34 l0 x10_2).f0)) ∧ w'.cell? ⟨gb263, 1, none⟩ = some (.int .i64 ((rd_T34 l0 x10_2).f1))) (ds := []) #[false, false, false, false, false, false, false, false, false, false, false, false, false, false, false] (by kernel_rfl) rfl rfl ⟨(blk_cell BK264.out 0).trans rfl, (blk_cell BK264.out 1).trans rfl, (blk_cell BK263.out 0).trans rfl, (blk_cell BK263.out 1).trans rfl⟩ (fun hHeld => ?_); refine with_tabW impl_Flat.tab15 impl_Flat.bits15 (fun HT_ HW_ => ?_)
       generalize wc.drew = w44 at HO_7 HO_8 BK260 BK263 BK264 HB hHeld ⊢
       refine pure_ (i := 0) (N := some 54) (v := ?_) (a' := ?_) #[true, false, false, false, false, false, false, false, false, false, false, false, false, false, false] rfl rfl (any_of HT_.out (by kernel_rfl)) (fun _ _ _ h => h) (Or.inl ⟨by rfl, ?_⟩) ?_ ?_
       rotate_left
       ·intro w'
        go_simp
        with_reducible rfl
       rotate_left
       ·simp only [Act.put, Kp.s0, Kp.s1, Kp.s2, i64_w, i32_w]
        rfl
       refine pure_ (i := 2) (N := some 56) (v := ?_) (a' := ?_) #[true, false, true, false, false, false, false, false, false, false, false, false, false, false, false] rfl rfl (any_of HT_.out (by kernel_rfl)) (fun _ _ _ h => h) (Or.inl ⟨by rfl, ?_⟩) ?_ ?_
       rotate_left
       ·intro w'
        go_simp
        with_reducible rfl
       rotate_left
       ·simp only [Act.put, Kp.s0, Kp.s1, Kp.s2, i64_w, i32_w]
        rfl
       refine pure_ (i := 6) (N := some 60) (v := ?_) (a' := ?_) #[true, false, true, false, false, false, true, false, false, false, false, false, false, false, false] rfl rfl (any_of HT_.out (by kernel_rfl)) (fun _ _ _ h => h) (Or.inl ⟨by rfl, ?_⟩) ?_ ?_
       rotate_left
       ·intro w'
        go_simp
        with_reducible rfl
       rotate_left
       ·simp only [Act.put, Kp.s0, Kp.s1, Kp.s2, i64_w, i32_w]
        rfl
       refine pure_ (i := 8) (N := some 62) (v := ?_) (a' := ?_) #[true, false, true, false, false, false, true, false, true, false, false, false, false, false, false] rfl rfl (any_of HT_.out (by kernel_rfl)) (fun _ _ _ h => h) (Or.inl ⟨by rfl, ?_⟩) ?_ ?_
       rotate_left
       ·intro w'
        go_simp
        with_reducible rfl
       rotate_left
       ·simp only [Act.put, Kp.s0, Kp.s1, Kp.s2, i64_w, i32_w]
        rfl
       refine take_ (i := 1) (N := some 55) (v := ?_) (a' := ?_) #[true, true, true, false, false, false, true, false, true, false, false, false, false, false, false] rfl rfl (take_ofW HT_.out HW_.out (by kernel_rfl)) (fun _ _ _ h => h) (Or.inl ⟨by rfl, ?_⟩) hHeld ?_ ?_
       rotate_left
       ·rintro w' ⟨s0, s1, s2, s3⟩
        go_simp
        with_reducible rfl
       rotate_left
       ·simp only [Act.put, Kp.s0, Kp.s1, Kp.s2, i64_w, i32_w]
        rfl
       refine take_ (i := 3) (N := some 57) (v := ?_) (a' := ?_) #[true, true, true, true, false, false, true, false, true, false, false, false, false, false, false] rfl rfl (take_ofW HT_.out HW_.out (by kernel_rfl)) (fun _ _ _ h => h) (Or.inl ⟨by rfl, ?_⟩) hHeld ?_ ?_
       rotate_left
       ·rintro w' ⟨s0, s1, s2, s3⟩
        go_simp
        with_reducible rfl
       rotate_left
       ·simp only [Act.put, Kp.s0, Kp.s1, Kp.s2, i64_w, i32_w]
        rfl
       refine pure_ (i := 4) (N := some 58) (v := ?_) (a' := ?_) #[true, true, true, true, true, false, true, false, true, false, false, false, false, false, false] rfl rfl (any_of HT_.out (by kernel_rfl)) (fun _ _ _ h => h) (Or.inl ⟨by rfl, ?_⟩) ?_ ?_
       rotate_left
       ·intro w'
        go_simp
        with_reducible rfl
       rotate_left
       ·simp only [Act.put, Kp.s0, Kp.s1, Kp.s2, i64_w, i32_w]
        rfl
       refine take_ (i := 7) (N := some 61) (v := ?_) (a' := ?_) #[true, true, true, true, true, false, true, true, true, false, false, false, false, false, false] rfl rfl (take_ofW HT_.out HW_.out (by kernel_rfl)) (fun _ _ _ h => h) (Or.inl ⟨by rfl, ?_⟩) hHeld ?_ ?_
       rotate_left
       ·rintro w' ⟨s0, s1, s2, s3⟩
        go_simp
        with_reducible rfl
       rotate_left
       ·simp only [Act.put, Kp.s0, Kp.s1, Kp.s2, i64_w, i32_w]
        rfl
       refine take_ (i := 9) (N := some 63) (v := ?_) (a' := ?_) #[true, true, true, true, true, false, true, true, true, true, false, false, false, false, false] rfl rfl (take_ofW HT_.out HW_.out (by kernel_rfl)) (fun _ _ _ h => h) (Or.inl ⟨by rfl, ?_⟩) hHeld ?_ ?_
       rotate_left
       ·rintro w' ⟨s0, s1, s2, s3⟩
        go_simp
        with_reducible rfl
       rotate_left
       ·simp only [Act.put, Kp.s0, Kp.s1, Kp.s2, i64_w, i32_w]
        rfl
       refine pure_ (i := 10) (N := some 64) (v := ?_) (a' := ?_) #[true, true, true, true, true, false, true, true, true, true, true, false, false, false, false] rfl rfl (any_of HT_.out (by kernel_rfl)) (fun _ _ _ h => h) (Or.inl ⟨by rfl, ?_⟩) ?_ ?_
       rotate_left
       ·intro w'
        go_simp
        with_reducible rfl
       rotate_left
       ·simp only [Act.put, Kp.s0, Kp.s1, Kp.s2, i64_w, i32_w]
        rfl
       refine join_ (σ := Nat) 1 #[true, true, true, true, true, true, true, true, true, true, true, true, true, true, false] (fun s_ => [(59, .int .i64 t267), (65, .int .i64 t268), (13, .pointer (some ⟨s_, 0, none⟩)), (66, .agg #[.int .i64 t267, .int .i64 t268])]) (fun s_ w' => (w'.cell? ⟨gb264, 0, none⟩ = some (.int .i64 ((rd_T34 l0 (ji10)).f0)) ∧ w'.cell? ⟨gb264, 1, none⟩ = some (.int .i64 ((rd_T34 l0 (ji10)).f1)) ∧ w'.cell? ⟨gb263, 0, none⟩ = some (.int .i64 ((rd_T34 l0 x10_2).f0)) ∧ w'.cell? ⟨gb263, 1, none⟩ = some (.int .i64 ((rd_T34 l0 x10_2).f1))) ∧ (Kd.R (Kd.int .i64) 3 w' w.heap.size (fun k_ => some k_ ≠ (u8 : Value).ownBlock) u7 x7_2) ∧ (Kd.R (Kd.int .i64) 3 w' w.heap.size (fun k_ => some k_ ≠ (u7 : Value).ownBlock) u8 x8_2) ∧ (w'.heap[gb260]? = some (.cells #[.int .i64 x261000_2, .int .i64 x261001_2] 34 (0, 0))) ∧ (w'.heap[gb263]? = some (.cells #[.int .i64 ((rd_T34 l0 x10_2).f0), .int .i64 ((rd_T34 l0 x10_2).f1)] 34 (0, 0))) ∧ (w'.heap[gb264]? = some (.cells #[.int .i64 ((rd_T34 l0 (ji10)).f0), .int .i64 ((rd_T34 l0 (ji10)).f1)] 34 (0, 0))) ∧ (w'.heap[s_]? = some (.cells #[.int .i64 0, .int .i64 0] 34 (0, 0))) ∧ (w.heap.size ≤ s_) ∧ (w.heap.size ≤ s_) ∧ (gb260 ≠ s_) ∧ (s_ ≠ gb260) ∧ (gb263 ≠ s_) ∧ (s_ ≠ gb263) ∧ (gb264 ≠ s_) ∧ (s_ ≠ gb264) ∧ (Below w.heap.size w w')) ?_ ?_
       rotate_left
       ·intro hCont
        refine two_ (i := 5) (j := 13) (Ni := some 59) (Nj := some 13) #[true, true, true, true, true, true, true, true, true, true, true, false, false, false, false] #[true, true, true, true, true, false, true, true, true, true, true, false, false, true, false] rfl rfl rfl rfl (two_of HT_.out (by kernel_rfl)) (by decide) (by decide) (fun K hK => ?_) (fun K hK => ?_)
        ·skip
         refine goes_ Try.func65 (by kernel_rfl) rfl #[.int .i64 (wrap64 (((rd_T34 l0 (ji10)).f0) - ((rd_T34 l0 x10_2).f0)))] (by rfl) rfl rfl (by (try simp only [List.map_toArray, List.map_cons, List.map_nil]); first | done | (simp only [hji10]; rfl) | rfl | (simp only [List.length_drop, List.length_take]; rfl)) ?_
         with_reducible refine (impl_sign.calls (wrap64 (((rd_T34 l0 (ji10)).f0) - ((rd_T34 l0 x10_2).f0))) t267 _ A37.out).mono ?_
         rintro e w' ⟨rfl, ⟨nd, rfl⟩⟩
         refine ⟨_, rfl, ?_⟩
         refine hK.out _ _ ⟨(blk_cell BK264.out 0).trans rfl, (blk_cell BK264.out 1).trans rfl, (blk_cell BK263.out 0).trans rfl, (blk_cell BK263.out 1).trans rfl⟩ (fun hHeld => ?_)
         clear hK K
         refine norm_ (a' := ?_) ?_ ?_
         rotate_left
         ·show Act.put _ (some 59) _ = _
          simp only [Act.put, Kp.s0, Kp.s1, Kp.s2, i64_w, i32_w]
          rfl
         refine two_ (i := 11) (j := 13) (Ni := some 65) (Nj := some 13) #[true, true, true, true, true, true, true, true, true, true, true, true, false, false, false] #[true, true, true, true, true, true, true, true, true, true, true, false, false, true, false] rfl rfl rfl rfl (two_of HT_.out (by kernel_rfl)) (by decide) (by decide) (fun K hK => ?_) (fun K hK => ?_)
         ·skip
          refine goes_ Try.func65 (by kernel_rfl) rfl #[.int .i64 (wrap64 (((rd_T34 l0 (ji10)).f1) - ((rd_T34 l0 x10_2).f1)))] (by rfl) rfl rfl (by (try simp only [List.map_toArray, List.map_cons, List.map_nil]); first | done | (simp only [hji10]; rfl) | rfl | (simp only [List.length_drop, List.length_take]; rfl)) ?_
          with_reducible refine (impl_sign.calls (wrap64 (((rd_T34 l0 (ji10)).f1) - ((rd_T34 l0 x10_2).f1))) t268 _ A38.out).mono ?_
          rintro e w' ⟨rfl, ⟨nd, rfl⟩⟩
          refine ⟨_, rfl, ?_⟩
          refine hK.out _ _ ⟨(blk_cell BK264.out 0).trans rfl, (blk_cell BK264.out 1).trans rfl, (blk_cell BK263.out 0).trans rfl, (blk_cell BK263.out 1).trans rfl⟩ (fun hHeld => ?_)
          clear hK K
          refine norm_ (a' := ?_) ?_ ?_
          rotate_left
          ·show Act.put _ (some 65) _ = _
           simp only [Act.put, Kp.s0, Kp.s1, Kp.s2, i64_w, i32_w]
           rfl
          refine pure_ (i := 12) (N := some 66) (v := ?_) (a' := ?_) #[true, true, true, true, true, true, true, true, true, true, true, true, true, false, false] rfl rfl (any_of HT_.out (by kernel_rfl)) (fun _ _ _ h => h) (Or.inl ⟨by rfl, ?_⟩) ?_ ?_
          rotate_left
          ·intro w'
           go_simp
           with_reducible rfl
          rotate_left
          ·simp only [Act.put, Kp.s0, Kp.s1, Kp.s2, i64_w, i32_w]
           rfl
          refine one_ (i := 13) (N := some 13) #[true, true, true, true, true, true, true, true, true, true, true, true, true, true, false] rfl rfl (one_of HT_.out (by kernel_rfl)) (by decide) (fun K hK => ?_)
          refine box_step ?hg (N := 13) ?hd (cs := #[.int .i64 0, .int .i64 0]) (t := 34) ?hr ?_; (case hd => rfl); (case hg => rfl); (case hr => first | (go_simp; done) | (go_simp; rfl))
          intro gb269 hg w45 hbox hb
          have n0_ := Kp.a (Kd.R_below (Kp.kpR HO_7.out) hb)
          have n1_ := Kp.a (Kd.R_below (Kp.kpR HO_8.out) hb)
          have n2_ := Kp.a (blk_below (g := gb260) (o := .cells #[.int .i64 x261000_2, .int .i64 x261001_2] 34 (0, 0)) (Kp.kpB BK260.out) hb)
          have n3_ := Kp.a (blk_below (g := gb263) (o := .cells #[.int .i64 ((rd_T34 l0 x10_2).f0), .int .i64 ((rd_T34 l0 x10_2).f1)] 34 (0, 0)) (Kp.kpB BK263.out) hb)
          have n4_ := Kp.a (blk_below (g := gb264) (o := .cells #[.int .i64 ((rd_T34 l0 (ji10)).f0), .int .i64 ((rd_T34 l0 (ji10)).f1)] 34 (0, 0)) (Kp.kpB BK264.out) hb)
          have n5_ := Kp.a (below_step (by repeat (first | (with_reducible first | exact HB.out | apply below_alloc | apply pw_below_drewN | apply below_drew1 | refine below_set ?_ GE260.out | refine below_set ?_ GE263.out | refine below_set ?_ GE264.out) | exact HB.out)) hb)
          have n6_ := Kp.a (hbox)
          have n7_ := Kp.a ((by rw [hg]; exact (below_size (by repeat (first | (with_reducible first | exact HB.out | apply below_alloc | apply pw_below_drewN | apply below_drew1 | refine below_set ?_ GE260.out | refine below_set ?_ GE263.out | refine below_set ?_ GE264.out) | exact HB.out))) : w.heap.size ≤ gb269))
          have n8_ := Kp.a ((by rw [hg]; exact (below_size (by repeat (first | (with_reducible first | exact HB.out | apply below_alloc | apply pw_below_drewN | apply below_drew1 | refine below_set ?_ GE260.out | refine below_set ?_ GE263.out | refine below_set ?_ GE264.out) | exact HB.out))) : w.heap.size ≤ gb269))
          have n9_ := Kp.a ((by rw [hg]; exact Nat.ne_of_lt (blk_lt (g := gb260) (o := .cells #[.int .i64 x261000_2, .int .i64 x261001_2] 34 (0, 0)) (Kp.kpB BK260.out)) : gb260 ≠ gb269))
          have n10_ := Kp.a ((by rw [hg]; exact Nat.ne_of_gt (blk_lt (g := gb260) (o := .cells #[.int .i64 x261000_2, .int .i64 x261001_2] 34 (0, 0)) (Kp.kpB BK260.out)) : gb269 ≠ gb260))
          have n11_ := Kp.a ((by rw [hg]; exact Nat.ne_of_lt (blk_lt (g := gb263) (o := .cells #[.int .i64 ((rd_T34 l0 x10_2).f0), .int .i64 ((rd_T34 l0 x10_2).f1)] 34 (0, 0)) (Kp.kpB BK263.out)) : gb263 ≠ gb269))
          have n12_ := Kp.a ((by rw [hg]; exact Nat.ne_of_gt (blk_lt (g := gb263) (o := .cells #[.int .i64 ((rd_T34 l0 x10_2).f0), .int .i64 ((rd_T34 l0 x10_2).f1)] 34 (0, 0)) (Kp.kpB BK263.out)) : gb269 ≠ gb263))
          have n13_ := Kp.a ((by rw [hg]; exact Nat.ne_of_lt (blk_lt (g := gb264) (o := .cells #[.int .i64 ((rd_T34 l0 (ji10)).f0), .int .i64 ((rd_T34 l0 (ji10)).f1)] 34 (0, 0)) (Kp.kpB BK264.out)) : gb264 ≠ gb269))
          have n14_ := Kp.a ((by rw [hg]; exact Nat.ne_of_gt (blk_lt (g := gb264) (o := .cells #[.int .i64 ((rd_T34 l0 (ji10)).f0), .int .i64 ((rd_T34 l0 (ji10)).f1)] 34 (0, 0)) (Kp.kpB BK264.out)) : gb269 ≠ gb264))
          clear HO_7
          clear HO_8
          clear BK260
          clear BK263
          clear BK264
          clear HB
          have HO_7 := n0_
          have HO_8 := n1_
          have BK260 := n2_
          have BK263 := n3_
          have BK264 := n4_
          have HB := n5_
          have BK269 := n6_
          have GW269 := n7_
          have GE269 := n8_
          have NB260_269 := n9_
          have NB269_260 := n10_
          have NB263_269 := n11_
          have NB269_263 := n12_
          have NB264_269 := n13_
          have NB269_264 := n14_
          clear n0_ n1_ n2_ n3_ n4_ n5_ n6_ n7_ n8_ n9_ n10_ n11_ n12_ n13_ n14_
          clear hb hbox hg
          refine hK.out _ _ ⟨(blk_cell BK264.out 0).trans rfl, (blk_cell BK264.out 1).trans rfl, (blk_cell BK263.out 0).trans rfl, (blk_cell BK263.out 1).trans rfl⟩ (fun hHeld => ?_)
          clear hK K
          refine norm_ (a' := ?_) ?_ ?_
          rotate_left
          ·show Act.put _ (some 13) _ = _
           simp only [Act.put, Kp.s0, Kp.s1, Kp.s2, i64_w, i32_w]
           rfl
          exact norm_ (by simp only [putAll, Act.put, Kp.s0, Kp.s1, Kp.s2]) (hCont (gb269) _ ⟨hHeld, (Kp.kpR HO_7.out), (Kp.kpR HO_8.out), (Kp.kpB BK260.out), (Kp.kpB BK263.out), (Kp.kpB BK264.out), (Kp.kpB BK269.out), GW269.out, GE269.out, NB260_269.out, NB269_260.out, NB263_269.out, NB269_263.out, NB264_269.out, NB269_264.out, (by repeat (first | (with_reducible first | exact HB.out | apply below_alloc | apply pw_below_drewN | apply below_drew1 | refine below_set ?_ GE260.out | refine below_set ?_ GE263.out | refine below_set ?_ GE264.out | refine below_set ?_ GE269.out) | exact HB.out))⟩)
         skip
         refine box_step ?hg (N := 13) ?hd (cs := #[.int .i64 0, .int .i64 0]) (t := 34) ?hr ?_; (case hd => rfl); (case hg => rfl); (case hr => first | (go_simp; done) | (go_simp; rfl))
         intro gb269 hg w45 hbox hb
         have n0_ := Kp.a (Kd.R_below (Kp.kpR HO_7.out) hb)
         have n1_ := Kp.a (Kd.R_below (Kp.kpR HO_8.out) hb)
         have n2_ := Kp.a (blk_below (g := gb260) (o := .cells #[.int .i64 x261000_2, .int .i64 x261001_2] 34 (0, 0)) (Kp.kpB BK260.out) hb)
         have n3_ := Kp.a (blk_below (g := gb263) (o := .cells #[.int .i64 ((rd_T34 l0 x10_2).f0), .int .i64 ((rd_T34 l0 x10_2).f1)] 34 (0, 0)) (Kp.kpB BK263.out) hb)
         have n4_ := Kp.a (blk_below (g := gb264) (o := .cells #[.int .i64 ((rd_T34 l0 (ji10)).f0), .int .i64 ((rd_T34 l0 (ji10)).f1)] 34 (0, 0)) (Kp.kpB BK264.out) hb)
         have n5_ := Kp.a (below_step (by repeat (first | (with_reducible first | exact HB.out | apply below_alloc | apply pw_below_drewN | apply below_drew1 | refine below_set ?_ GE260.out | refine below_set ?_ GE263.out | refine below_set ?_ GE264.out) | exact HB.out)) hb)
         have n6_ := Kp.a (hbox)
         have n7_ := Kp.a ((by rw [hg]; exact (below_size (by repeat (first | (with_reducible first | exact HB.out | apply below_alloc | apply pw_below_drewN | apply below_drew1 | refine below_set ?_ GE260.out | refine below_set ?_ GE263.out | refine below_set ?_ GE264.out) | exact HB.out))) : w.heap.size ≤ gb269))
         have n8_ := Kp.a ((by rw [hg]; exact (below_size (by repeat (first | (with_reducible first | exact HB.out | apply below_alloc | apply pw_below_drewN | apply below_drew1 | refine below_set ?_ GE260.out | refine below_set ?_ GE263.out | refine below_set ?_ GE264.out) | exact HB.out))) : w.heap.size ≤ gb269))
         have n9_ := Kp.a ((by rw [hg]; exact Nat.ne_of_lt (blk_lt (g := gb260) (o := .cells #[.int .i64 x261000_2, .int .i64 x261001_2] 34 (0, 0)) (Kp.kpB BK260.out)) : gb260 ≠ gb269))
         have n10_ := Kp.a ((by rw [hg]; exact Nat.ne_of_gt (blk_lt (g := gb260) (o := .cells #[.int .i64 x261000_2, .int .i64 x261001_2] 34 (0, 0)) (Kp.kpB BK260.out)) : gb269 ≠ gb260))
         have n11_ := Kp.a ((by rw [hg]; exact Nat.ne_of_lt (blk_lt (g := gb263) (o := .cells #[.int .i64 ((rd_T34 l0 x10_2).f0), .int .i64 ((rd_T34 l0 x10_2).f1)] 34 (0, 0)) (Kp.kpB BK263.out)) : gb263 ≠ gb269))
         have n12_ := Kp.a ((by rw [hg]; exact Nat.ne_of_gt (blk_lt (g := gb263) (o := .cells #[.int .i64 ((rd_T34 l0 x10_2).f0), .int .i64 ((rd_T34 l0 x10_2).f1)] 34 (0, 0)) (Kp.kpB BK263.out)) : gb269 ≠ gb263))
         have n13_ := Kp.a ((by rw [hg]; exact Nat.ne_of_lt (blk_lt (g := gb264) (o := .cells #[.int .i64 ((rd_T34 l0 (ji10)).f0), .int .i64 ((rd_T34 l0 (ji10)).f1)] 34 (0, 0)) (Kp.kpB BK264.out)) : gb264 ≠ gb269))
         have n14_ := Kp.a ((by rw [hg]; exact Nat.ne_of_gt (blk_lt (g := gb264) (o := .cells #[.int .i64 ((rd_T34 l0 (ji10)).f0), .int .i64 ((rd_T34 l0 (ji10)).f1)] 34 (0, 0)) (Kp.kpB BK264.out)) : gb269 ≠ gb264))
         clear HO_7
         clear HO_8
         clear BK260
         clear BK263
         clear BK264
         clear HB
         have HO_7 := n0_
         have HO_8 := n1_
         have BK260 := n2_
         have BK263 := n3_
         have BK264 := n4_
         have HB := n5_
         have BK269 := n6_
         have GW269 := n7_
         have GE269 := n8_
         have NB260_269 := n9_
         have NB269_260 := n10_
         have NB263_269 := n11_
         have NB269_263 := n12_
         have NB264_269 := n13_
         have NB269_264 := n14_
         clear n0_ n1_ n2_ n3_ n4_ n5_ n6_ n7_ n8_ n9_ n10_ n11_ n12_ n13_ n14_
         clear hb hbox hg
         refine hK.out _ _ ⟨(blk_cell BK264.out 0).trans rfl, (blk_cell BK264.out 1).trans rfl, (blk_cell BK263.out 0).trans rfl, (blk_cell BK263.out 1).trans rfl⟩ (fun hHeld => ?_)
         clear hK K
         refine norm_ (a' := ?_) ?_ ?_
         rotate_left
         ·show Act.put _ (some 13) _ = _
          simp only [Act.put, Kp.s0, Kp.s1, Kp.s2, i64_w, i32_w]
          rfl
         refine one_ (i := 11) (N := some 65) #[true, true, true, true, true, true, true, true, true, true, true, true, false, true, false] rfl rfl (one_of HT_.out (by kernel_rfl)) (by decide) (fun K hK => ?_)
         refine goes_ Try.func65 (by kernel_rfl) rfl #[.int .i64 (wrap64 (((rd_T34 l0 (ji10)).f1) - ((rd_T34 l0 x10_2).f1)))] (by rfl) rfl rfl (by (try simp only [List.map_toArray, List.map_cons, List.map_nil]); first | done | (simp only [hji10]; rfl) | rfl | (simp only [List.length_drop, List.length_take]; rfl)) ?_
         with_reducible refine (impl_sign.calls (wrap64 (((rd_T34 l0 (ji10)).f1) - ((rd_T34 l0 x10_2).f1))) t268 _ A38.out).mono ?_
         rintro e w' ⟨rfl, ⟨nd, rfl⟩⟩
         refine ⟨_, rfl, ?_⟩
         refine hK.out _ _ ⟨(blk_cell BK264.out 0).trans rfl, (blk_cell BK264.out 1).trans rfl, (blk_cell BK263.out 0).trans rfl, (blk_cell BK263.out 1).trans rfl⟩ (fun hHeld => ?_)
         clear hK K
         refine norm_ (a' := ?_) ?_ ?_
         rotate_left
         ·show Act.put _ (some 65) _ = _
          simp only [Act.put, Kp.s0, Kp.s1, Kp.s2, i64_w, i32_w]
          rfl
         refine pure_ (i := 12) (N := some 66) (v := ?_) (a' := ?_) #[true, true, true, true, true, true, true, true, true, true, true, true, true, true, false] rfl rfl (any_of HT_.out (by kernel_rfl)) (fun _ _ _ h => h) (Or.inl ⟨by rfl, ?_⟩) ?_ ?_
         rotate_left
         ·intro w'
          go_simp
          with_reducible rfl
         rotate_left
         ·simp only [Act.put, Kp.s0, Kp.s1, Kp.s2, i64_w, i32_w]
          rfl
         exact norm_ (by simp only [putAll, Act.put, Kp.s0, Kp.s1, Kp.s2]) (hCont (gb269) _ ⟨hHeld, (Kp.kpR HO_7.out), (Kp.kpR HO_8.out), (Kp.kpB BK260.out), (Kp.kpB BK263.out), (Kp.kpB BK264.out), (Kp.kpB BK269.out), GW269.out, GE269.out, NB260_269.out, NB269_260.out, NB263_269.out, NB269_263.out, NB264_269.out, NB269_264.out, (by repeat (first | (with_reducible first | exact HB.out | apply below_alloc | apply pw_below_drewN | apply below_drew1 | refine below_set ?_ GE260.out | refine below_set ?_ GE263.out | refine below_set ?_ GE264.out | refine below_set ?_ GE269.out) | exact HB.out))⟩)
        skip
        refine box_step ?hg (N := 13) ?hd (cs := #[.int .i64 0, .int .i64 0]) (t := 34) ?hr ?_; (case hd => rfl); (case hg => rfl); (case hr => first | (go_simp; done) | (go_simp; rfl))
        intro gb269 hg w45 hbox hb
        have n0_ := Kp.a (Kd.R_below (Kp.kpR HO_7.out) hb)
        have n1_ := Kp.a (Kd.R_below (Kp.kpR HO_8.out) hb)
        have n2_ := Kp.a (blk_below (g := gb260) (o := .cells #[.int .i64 x261000_2, .int .i64 x261001_2] 34 (0, 0)) (Kp.kpB BK260.out) hb)
        have n3_ := Kp.a (blk_below (g := gb263) (o := .cells #[.int .i64 ((rd_T34 l0 x10_2).f0), .int .i64 ((rd_T34 l0 x10_2).f1)] 34 (0, 0)) (Kp.kpB BK263.out) hb)
        have n4_ := Kp.a (blk_below (g := gb264) (o := .cells #[.int .i64 ((rd_T34 l0 (ji10)).f0), .int .i64 ((rd_T34 l0 (ji10)).f1)] 34 (0, 0)) (Kp.kpB BK264.out) hb)
        have n5_ := Kp.a (below_step (by repeat (first | (with_reducible first | exact HB.out | apply below_alloc | apply pw_below_drewN | apply below_drew1 | refine below_set ?_ GE260.out | refine below_set ?_ GE263.out | refine below_set ?_ GE264.out) | exact HB.out)) hb)
        have n6_ := Kp.a (hbox)
        have n7_ := Kp.a ((by rw [hg]; exact (below_size (by repeat (first | (with_reducible first | exact HB.out | apply below_alloc | apply pw_below_drewN | apply below_drew1 | refine below_set ?_ GE260.out | refine below_set ?_ GE263.out | refine below_set ?_ GE264.out) | exact HB.out))) : w.heap.size ≤ gb269))
        have n8_ := Kp.a ((by rw [hg]; exact (below_size (by repeat (first | (with_reducible first | exact HB.out | apply below_alloc | apply pw_below_drewN | apply below_drew1 | refine below_set ?_ GE260.out | refine below_set ?_ GE263.out | refine below_set ?_ GE264.out) | exact HB.out))) : w.heap.size ≤ gb269))
        have n9_ := Kp.a ((by rw [hg]; exact Nat.ne_of_lt (blk_lt (g := gb260) (o := .cells #[.int .i64 x261000_2, .int .i64 x261001_2] 34 (0, 0)) (Kp.kpB BK260.out)) : gb260 ≠ gb269))
        have n10_ := Kp.a ((by rw [hg]; exact Nat.ne_of_gt (blk_lt (g := gb260) (o := .cells #[.int .i64 x261000_2, .int .i64 x261001_2] 34 (0, 0)) (Kp.kpB BK260.out)) : gb269 ≠ gb260))
        have n11_ := Kp.a ((by rw [hg]; exact Nat.ne_of_lt (blk_lt (g := gb263) (o := .cells #[.int .i64 ((rd_T34 l0 x10_2).f0), .int .i64 ((rd_T34 l0 x10_2).f1)] 34 (0, 0)) (Kp.kpB BK263.out)) : gb263 ≠ gb269))
        have n12_ := Kp.a ((by rw [hg]; exact Nat.ne_of_gt (blk_lt (g := gb263) (o := .cells #[.int .i64 ((rd_T34 l0 x10_2).f0), .int .i64 ((rd_T34 l0 x10_2).f1)] 34 (0, 0)) (Kp.kpB BK263.out)) : gb269 ≠ gb263))
        have n13_ := Kp.a ((by rw [hg]; exact Nat.ne_of_lt (blk_lt (g := gb264) (o := .cells #[.int .i64 ((rd_T34 l0 (ji10)).f0), .int .i64 ((rd_T34 l0 (ji10)).f1)] 34 (0, 0)) (Kp.kpB BK264.out)) : gb264 ≠ gb269))
        have n14_ := Kp.a ((by rw [hg]; exact Nat.ne_of_gt (blk_lt (g := gb264) (o := .cells #[.int .i64 ((rd_T34 l0 (ji10)).f0), .int .i64 ((rd_T34 l0 (ji10)).f1)] 34 (0, 0)) (Kp.kpB BK264.out)) : gb269 ≠ gb264))
        clear HO_7
        clear HO_8
        clear BK260
        clear BK263
        clear BK264
        clear HB
        have HO_7 := n0_
        have HO_8 := n1_
        have BK260 := n2_
        have BK263 := n3_
        have BK264 := n4_
        have HB := n5_
        have BK269 := n6_
        have GW269 := n7_
        have GE269 := n8_
        have NB260_269 := n9_
        have NB269_260 := n10_
        have NB263_269 := n11_
        have NB269_263 := n12_
        have NB264_269 := n13_
        have NB269_264 := n14_
        clear n0_ n1_ n2_ n3_ n4_ n5_ n6_ n7_ n8_ n9_ n10_ n11_ n12_ n13_ n14_
        clear hb hbox hg
        refine hK.out _ _ ⟨(blk_cell BK264.out 0).trans rfl, (blk_cell BK264.out 1).trans rfl, (blk_cell BK263.out 0).trans rfl, (blk_cell BK263.out 1).trans rfl⟩ (fun hHeld => ?_)
        clear hK K
        refine norm_ (a' := ?_) ?_ ?_
        rotate_left
        ·show Act.put _ (some 13) _ = _
         simp only [Act.put, Kp.s0, Kp.s1, Kp.s2, i64_w, i32_w]
         rfl
        refine one_ (i := 5) (N := some 59) #[true, true, true, true, true, true, true, true, true, true, true, false, false, true, false] rfl rfl (one_of HT_.out (by kernel_rfl)) (by decide) (fun K hK => ?_)
        refine goes_ Try.func65 (by kernel_rfl) rfl #[.int .i64 (wrap64 (((rd_T34 l0 (ji10)).f0) - ((rd_T34 l0 x10_2).f0)))] (by rfl) rfl rfl (by (try simp only [List.map_toArray, List.map_cons, List.map_nil]); first | done | (simp only [hji10]; rfl) | rfl | (simp only [List.length_drop, List.length_take]; rfl)) ?_
        with_reducible refine (impl_sign.calls (wrap64 (((rd_T34 l0 (ji10)).f0) - ((rd_T34 l0 x10_2).f0))) t267 _ A37.out).mono ?_
        rintro e w' ⟨rfl, ⟨nd, rfl⟩⟩
        refine ⟨_, rfl, ?_⟩
        refine hK.out _ _ ⟨(blk_cell BK264.out 0).trans rfl, (blk_cell BK264.out 1).trans rfl, (blk_cell BK263.out 0).trans rfl, (blk_cell BK263.out 1).trans rfl⟩ (fun hHeld => ?_)
        clear hK K
        refine norm_ (a' := ?_) ?_ ?_
        rotate_left
        ·show Act.put _ (some 59) _ = _
         simp only [Act.put, Kp.s0, Kp.s1, Kp.s2, i64_w, i32_w]
         rfl
        refine one_ (i := 11) (N := some 65) #[true, true, true, true, true, true, true, true, true, true, true, true, false, true, false] rfl rfl (one_of HT_.out (by kernel_rfl)) (by decide) (fun K hK => ?_)
        refine goes_ Try.func65 (by kernel_rfl) rfl #[.int .i64 (wrap64 (((rd_T34 l0 (ji10)).f1) - ((rd_T34 l0 x10_2).f1)))] (by rfl) rfl rfl (by (try simp only [List.map_toArray, List.map_cons, List.map_nil]); first | done | (simp only [hji10]; rfl) | rfl | (simp only [List.length_drop, List.length_take]; rfl)) ?_
        with_reducible refine (impl_sign.calls (wrap64 (((rd_T34 l0 (ji10)).f1) - ((rd_T34 l0 x10_2).f1))) t268 _ A38.out).mono ?_
        rintro e w' ⟨rfl, ⟨nd, rfl⟩⟩
        refine ⟨_, rfl, ?_⟩
        refine hK.out _ _ ⟨(blk_cell BK264.out 0).trans rfl, (blk_cell BK264.out 1).trans rfl, (blk_cell BK263.out 0).trans rfl, (blk_cell BK263.out 1).trans rfl⟩ (fun hHeld => ?_)
        clear hK K
        refine norm_ (a' := ?_) ?_ ?_
        rotate_left
        ·show Act.put _ (some 65) _ = _
         simp only [Act.put, Kp.s0, Kp.s1, Kp.s2, i64_w, i32_w]
         rfl
        refine pure_ (i := 12) (N := some 66) (v := ?_) (a' := ?_) #[true, true, true, true, true, true, true, true, true, true, true, true, true, true, false] rfl rfl (any_of HT_.out (by kernel_rfl)) (fun _ _ _ h => h) (Or.inl ⟨by rfl, ?_⟩) ?_ ?_
        rotate_left
        ·intro w'
         go_simp
         with_reducible rfl
        rotate_left
        ·simp only [Act.put, Kp.s0, Kp.s1, Kp.s2, i64_w, i32_w]
         rfl
        exact norm_ (by simp only [putAll, Act.put, Kp.s0, Kp.s1, Kp.s2]) (hCont (gb269) _ ⟨hHeld, (Kp.kpR HO_7.out), (Kp.kpR HO_8.out), (Kp.kpB BK260.out), (Kp.kpB BK263.out), (Kp.kpB BK264.out), (Kp.kpB BK269.out), GW269.out, GE269.out, NB260_269.out, NB269_260.out, NB263_269.out, NB269_263.out, NB264_269.out, NB269_264.out, (by repeat (first | (with_reducible first | exact HB.out | apply below_alloc | apply pw_below_drewN | apply below_drew1 | refine below_set ?_ GE260.out | refine below_set ?_ GE263.out | refine below_set ?_ GE264.out | refine below_set ?_ GE269.out) | exact HB.out))⟩)
       rintro gb269 w46 ⟨hS_, h0_, h1_, h2_, h3_, h4_, h5_, h6_, h7_, h8_, h9_, h10_, h11_, h12_, h13_, h14_⟩
       have n0_ : Aside0 (Kd.R (Kd.int .i64) 3 w46 w.heap.size (fun k_ => some k_ ≠ (u8 : Value).ownBlock) u7 x7_2) := ⟨h0_⟩
       have n1_ : Aside0 (Kd.R (Kd.int .i64) 3 w46 w.heap.size (fun k_ => some k_ ≠ (u7 : Value).ownBlock) u8 x8_2) := ⟨h1_⟩
       have n2_ : Aside0 (w46.heap[gb260]? = some (.cells #[.int .i64 x261000_2, .int .i64 x261001_2] 34 (0, 0))) := ⟨h2_⟩
       have n3_ : Aside0 (w46.heap[gb263]? = some (.cells #[.int .i64 ((rd_T34 l0 x10_2).f0), .int .i64 ((rd_T34 l0 x10_2).f1)] 34 (0, 0))) := ⟨h3_⟩
       have n4_ : Aside0 (w46.heap[gb264]? = some (.cells #[.int .i64 ((rd_T34 l0 (ji10)).f0), .int .i64 ((rd_T34 l0 (ji10)).f1)] 34 (0, 0))) := ⟨h4_⟩
       have n5_ : Aside0 (w46.heap[gb269]? = some (.cells #[.int .i64 0, .int .i64 0] 34 (0, 0))) := ⟨h5_⟩
       have n6_ : Aside0 (w.heap.size ≤ gb269) := ⟨h6_⟩
       have n7_ : Aside0 (w.heap.size ≤ gb269) := ⟨h7_⟩
       have n8_ : Aside0 (gb260 ≠ gb269) := ⟨h8_⟩
       have n9_ : Aside0 (gb269 ≠ gb260) := ⟨h9_⟩
       have n10_ : Aside0 (gb263 ≠ gb269) := ⟨h10_⟩
       have n11_ : Aside0 (gb269 ≠ gb263) := ⟨h11_⟩
       have n12_ : Aside0 (gb264 ≠ gb269) := ⟨h12_⟩
       have n13_ : Aside0 (gb269 ≠ gb264) := ⟨h13_⟩
       have n14_ : Aside0 (Below w.heap.size w w46) := ⟨h14_⟩
       clear HO_7
       clear HO_8
       clear BK260
       clear BK263
       clear BK264
       clear HB
       clear h0_ h1_ h2_ h3_ h4_ h5_ h6_ h7_ h8_ h9_ h10_ h11_ h12_ h13_ h14_
       have HO_7 := n0_
       have HO_8 := n1_
       have BK260 := n2_
       have BK263 := n3_
       have BK264 := n4_
       have BK269 := n5_
       have GW269 := n6_
       have GE269 := n7_
       have NB260_269 := n8_
       have NB269_260 := n9_
       have NB263_269 := n10_
       have NB269_263 := n11_
       have NB264_269 := n12_
       have NB269_264 := n13_
       have HB := n14_
       clear n0_ n1_ n2_ n3_ n4_ n5_ n6_ n7_ n8_ n9_ n10_ n11_ n12_ n13_ n14_
       have hHeld : w46.cell? ⟨gb264, 0, none⟩ = some (.int .i64 ((rd_T34 l0 (ji10)).f0)) ∧ w46.cell? ⟨gb264, 1, none⟩ = some (.int .i64 ((rd_T34 l0 (ji10)).f1)) ∧ w46.cell? ⟨gb263, 0, none⟩ = some (.int .i64 ((rd_T34 l0 x10_2).f0)) ∧ w46.cell? ⟨gb263, 1, none⟩ = some (.int .i64 ((rd_T34 l0 x10_2).f1)) := hS_
       refine norm_ (a' := ?_) ?_ ?_
       rotate_left
       ·simp only [putAll, Act.put, Kp.s0, Kp.s1, Kp.s2]
        rfl
       refine one_ (i := 14) (N := none) #[true, true, true, true, true, true, true, true, true, true, true, true, true, true, true] rfl rfl (one_of HT_.out (by kernel_rfl)) (by decide) (fun K hK => ?_)
       have hs47 : w46.cell? ⟨gb269, 0, none⟩ = some (.int .i64 0) := (blk_cell BK269.out 0).trans rfl
       have hfs47 := blk_frozen BK269.out 0
       have hns47_0 := NB260_269.out
       have hns47_1 := NB263_269.out
       have hns47_2 := NB264_269.out
       have hms47_0 := NB269_260.out
       have hms47_1 := NB269_263.out
       have hms47_2 := NB269_264.out
       have hs48 : w46.cell? ⟨gb269, 1, none⟩ = some (.int .i64 0) := (blk_cell BK269.out 1).trans rfl
       have hfs48 := blk_frozen BK269.out 1
       have hns48_0 := NB260_269.out
       have hns48_1 := NB263_269.out
       have hns48_2 := NB264_269.out
       have hms48_0 := NB269_260.out
       have hms48_1 := NB269_263.out
       have hms48_2 := NB269_264.out
       refine skip_ (w1 := ?_) (by rfl) rfl ?_ ?_
       rotate_left
       ·go_simp
        rfl
       refine hK.out _ _ ⟨((cell_far (p := ⟨gb269, _, none⟩) NB264_269.out _).trans (((cell_far (p := ⟨gb269, _, none⟩) NB264_269.out _).trans (hHeld.1)))), ((cell_far (p := ⟨gb269, _, none⟩) NB264_269.out _).trans (((cell_far (p := ⟨gb269, _, none⟩) NB264_269.out _).trans (hHeld.2.1)))), ((cell_far (p := ⟨gb269, _, none⟩) NB263_269.out _).trans (((cell_far (p := ⟨gb269, _, none⟩) NB263_269.out _).trans (hHeld.2.2.1)))), ((cell_far (p := ⟨gb269, _, none⟩) NB263_269.out _).trans (((cell_far (p := ⟨gb269, _, none⟩) NB263_269.out _).trans (hHeld.2.2.2))))⟩ (fun hHeld => ?_)
       clear hK K
       refine done_ (done_of HT_.out (by kernel_rfl)) ?_
       try go_wp2
       have n0_ : Aside0 (Kd.R (Kd.int .i64) 3 ((w46.setCell ⟨gb269, 0, none⟩ (.int .i64 t267)).setCell ⟨gb269, 1, none⟩ (.int .i64 t268)) w.heap.size (fun k_ => some k_ ≠ (u8 : Value).ownBlock) u7 x7_2) := ⟨Kp.kpR (Kd.R_mono (Kd.R_far (p := ⟨gb269, 1, none⟩) (Kd.R_far (p := ⟨gb269, 0, none⟩) (Kd.R_types HO_7.out BK269.out (by decide)) (fun _ hk => hk.2) (.int .i64 t267)) (fun _ hk => hk.2) (.int .i64 t268)) (fun _ hk => hk.1))⟩
       have n1_ : Aside0 (Kd.R (Kd.int .i64) 3 ((w46.setCell ⟨gb269, 0, none⟩ (.int .i64 t267)).setCell ⟨gb269, 1, none⟩ (.int .i64 t268)) w.heap.size (fun k_ => some k_ ≠ (u7 : Value).ownBlock) u8 x8_2) := ⟨Kp.kpR (Kd.R_mono (Kd.R_far (p := ⟨gb269, 1, none⟩) (Kd.R_far (p := ⟨gb269, 0, none⟩) (Kd.R_types HO_8.out BK269.out (by decide)) (fun _ hk => hk.2) (.int .i64 t267)) (fun _ hk => hk.2) (.int .i64 t268)) (fun _ hk => hk.1))⟩
       have n2_ : Aside0 (((w46.setCell ⟨gb269, 0, none⟩ (.int .i64 t267)).setCell ⟨gb269, 1, none⟩ (.int .i64 t268)).heap[gb260]? = some (.cells #[.int .i64 x261000_2, .int .i64 x261001_2] 34 (0, 0))) := ⟨by (with_reducible repeat (first | refine blk_drewN ?_ _ | refine blk_drew ?_ | refine blk_alloc ?_ _)); refine blk_far ?_ NB260_269.out _; (with_reducible repeat (first | refine blk_drewN ?_ _ | refine blk_drew ?_ | refine blk_alloc ?_ _)); refine blk_far ?_ NB260_269.out _; (with_reducible repeat (first | refine blk_drewN ?_ _ | refine blk_drew ?_ | refine blk_alloc ?_ _)); exact BK260.out⟩
       have n3_ : Aside0 (((w46.setCell ⟨gb269, 0, none⟩ (.int .i64 t267)).setCell ⟨gb269, 1, none⟩ (.int .i64 t268)).heap[gb263]? = some (.cells #[.int .i64 ((rd_T34 l0 x10_2).f0), .int .i64 ((rd_T34 l0 x10_2).f1)] 34 (0, 0))) := ⟨by (with_reducible repeat (first | refine blk_drewN ?_ _ | refine blk_drew ?_ | refine blk_alloc ?_ _)); refine blk_far ?_ NB263_269.out _; (with_reducible repeat (first | refine blk_drewN ?_ _ | refine blk_drew ?_ | refine blk_alloc ?_ _)); refine blk_far ?_ NB263_269.out _; (with_reducible repeat (first | refine blk_drewN ?_ _ | refine blk_drew ?_ | refine blk_alloc ?_ _)); exact BK263.out⟩
       have n4_ : Aside0 (((w46.setCell ⟨gb269, 0, none⟩ (.int .i64 t267)).setCell ⟨gb269, 1, none⟩ (.int .i64 t268)).heap[gb264]? = some (.cells #[.int .i64 ((rd_T34 l0 (ji10)).f0), .int .i64 ((rd_T34 l0 (ji10)).f1)] 34 (0, 0))) := ⟨by (with_reducible repeat (first | refine blk_drewN ?_ _ | refine blk_drew ?_ | refine blk_alloc ?_ _)); refine blk_far ?_ NB264_269.out _; (with_reducible repeat (first | refine blk_drewN ?_ _ | refine blk_drew ?_ | refine blk_alloc ?_ _)); refine blk_far ?_ NB264_269.out _; (with_reducible repeat (first | refine blk_drewN ?_ _ | refine blk_drew ?_ | refine blk_alloc ?_ _)); exact BK264.out⟩
       have n5_ : Aside0 (((w46.setCell ⟨gb269, 0, none⟩ (.int .i64 t267)).setCell ⟨gb269, 1, none⟩ (.int .i64 t268)).heap[gb269]? = some (.cells #[.int .i64 t267, .int .i64 t268] 34 (0, 0))) := ⟨by (with_reducible repeat (first | refine blk_drewN ?_ _ | refine blk_drew ?_ | refine blk_alloc ?_ _)); refine blk_put (cs := #[.int .i64 t267, .int .i64 0]) ?_ 1 _ rfl; (with_reducible repeat (first | refine blk_drewN ?_ _ | refine blk_drew ?_ | refine blk_alloc ?_ _)); refine blk_put (cs := #[.int .i64 0, .int .i64 0]) ?_ 0 _ rfl; (with_reducible repeat (first | refine blk_drewN ?_ _ | refine blk_drew ?_ | refine blk_alloc ?_ _)); exact BK269.out⟩
       have n6_ : Aside0 (Below w.heap.size w ((w46.setCell ⟨gb269, 0, none⟩ (.int .i64 t267)).setCell ⟨gb269, 1, none⟩ (.int .i64 t268))) := ⟨by repeat (first | (with_reducible first | exact HB.out | apply below_alloc | apply pw_below_drewN | apply below_drew1 | refine below_set ?_ GE260.out | refine below_set ?_ GE263.out | refine below_set ?_ GE264.out | refine below_set ?_ GE269.out) | exact HB.out)⟩
       (try clear HO_7)
       (try clear HO_8)
       (try clear BK260)
       (try clear BK263)
       (try clear BK264)
       (try clear BK269)
       (try clear HB)
       generalize ((w46.setCell ⟨gb269, 0, none⟩ (.int .i64 t267)).setCell ⟨gb269, 1, none⟩ (.int .i64 t268)) = w49 at n0_ n1_ n2_ n3_ n4_ n5_ n6_ ⊢
       have HO_7 := n0_
       have HO_8 := n1_
       have BK260 := n2_
       have BK263 := n3_
       have BK264 := n4_
       have BK269 := n5_
       have HB := n6_
       clear n0_ n1_ n2_ n3_ n4_ n5_ n6_
       have n0_ := Kp.a (Kd.R_drew HO_7.out)
       have n1_ := Kp.a (Kd.R_drew HO_8.out)
       have n2_ := Kp.a (blk_drew BK260.out)
       have n3_ := Kp.a (blk_drew BK263.out)
       have n4_ := Kp.a (blk_drew BK264.out)
       have n5_ := Kp.a (blk_drew BK269.out)
       have n6_ := Kp.a (below_drew1 HB.out)
       clear HO_7
       clear HO_8
       clear BK260
       clear BK263
       clear BK264
       clear BK269
       clear HB
       have HO_7 := n0_
       have HO_8 := n1_
       have BK260 := n2_
       have BK263 := n3_
       have BK264 := n4_
       have BK269 := n5_
       have HB := n6_
       clear n0_ n1_ n2_ n3_ n4_ n5_ n6_
       refine start_ (n := 17) (S := fun w' => w'.cell? ⟨gb264, 0, none⟩ = some (.int .i64 ((rd_T34 l0 (ji10)).f0)) ∧ w'.cell? ⟨gb264, 1, none⟩ = some (.int .i64 ((rd_T34 l0 (ji10)).f1)) ∧ w'.cell? ⟨gb263, 0, none⟩ = some (.int .i64 ((rd_T34 l0 x10_2).f0)) ∧ w'.cell? ⟨gb263, 1, none⟩ = some (.int .i64 ((rd_T34 l0 x10_2).f1))) (ds := []) #[false, false, false, false, false, false, false, false, false, false, false, false, false, false, false, false, false] (by kernel_rfl) rfl rfl ⟨(blk_cell BK264.out 0).trans rfl, (blk_cell BK264.out 1).trans rfl, (blk_cell BK263.out 0).trans rfl, (blk_cell BK263.out 1).trans rfl⟩ (fun hHeld => ?_); refine with_tabW impl_Flat.tab16 impl_Flat.bits16 (fun HT_ HW_ => ?_)
       generalize w49.drew = w50 at HO_7 HO_8 BK260 BK263 BK264 BK269 HB hHeld ⊢
       refine pure_ (i := 0) (N := some 67) (v := ?_) (a' := ?_) #[true, false, false, false, false, false, false, false, false, false, false, false, false, false, false, false, false] rfl rfl (any_of HT_.out (by kernel_rfl)) (fun _ _ _ h => h) (Or.inl ⟨by rfl, ?_⟩) ?_ ?_
       rotate_left
       ·intro w'
        go_simp
        with_reducible rfl
       rotate_left
       ·simp only [Act.put, Kp.s0, Kp.s1, Kp.s2, i64_w, i32_w]
        rfl
       refine pure_ (i := 1) (N := some 68) (v := ?_) (a' := ?_) #[true, true, false, false, false, false, false, false, false, false, false, false, false, false, false, false, false] rfl rfl (any_of HT_.out (by kernel_rfl)) (fun _ _ _ h => h) (Or.inl ⟨by rfl, ?_⟩) ?_ ?_
       rotate_left
       ·intro w'
        go_simp
        with_reducible rfl
       rotate_left
       ·simp only [Act.put, Kp.s0, Kp.s1, Kp.s2, i64_w, i32_w]
        rfl
       refine pure_ (i := 3) (N := some 70) (v := ?_) (a' := ?_) #[true, true, false, true, false, false, false, false, false, false, false, false, false, false, false, false, false] rfl rfl (any_of HT_.out (by kernel_rfl)) (fun _ _ _ h => h) (Or.inl ⟨by rfl, ?_⟩) ?_ ?_
       rotate_left
       ·intro w'
        go_simp
        with_reducible rfl
       rotate_left
       ·simp only [Act.put, Kp.s0, Kp.s1, Kp.s2, i64_w, i32_w]
        rfl
       refine pure_ (i := 7) (N := some 74) (v := ?_) (a' := ?_) #[true, true, false, true, false, false, false, true, false, false, false, false, false, false, false, false, false] rfl rfl (any_of HT_.out (by kernel_rfl)) (fun _ _ _ h => h) (Or.inl ⟨by rfl, ?_⟩) ?_ ?_
       rotate_left
       ·intro w'
        go_simp
        with_reducible rfl
       rotate_left
       ·simp only [Act.put, Kp.s0, Kp.s1, Kp.s2, i64_w, i32_w]
        rfl
       refine pure_ (i := 9) (N := some 76) (v := ?_) (a' := ?_) #[true, true, false, true, false, false, false, true, false, true, false, false, false, false, false, false, false] rfl rfl (any_of HT_.out (by kernel_rfl)) (fun _ _ _ h => h) (Or.inl ⟨by rfl, ?_⟩) ?_ ?_
       rotate_left
       ·intro w'
        go_simp
        with_reducible rfl
       rotate_left
       ·simp only [Act.put, Kp.s0, Kp.s1, Kp.s2, i64_w, i32_w]
        rfl
       refine take_ (i := 2) (N := some 69) (v := ?_) (a' := ?_) #[true, true, true, true, false, false, false, true, false, true, false, false, false, false, false, false, false] rfl rfl (take_ofW HT_.out HW_.out (by kernel_rfl)) (fun _ _ _ h => h) (Or.inl ⟨by rfl, ?_⟩) hHeld ?_ ?_
       rotate_left
       ·rintro w' ⟨s0, s1, s2, s3⟩
        go_simp
        with_reducible rfl
       rotate_left
       ·simp only [Act.put, Kp.s0, Kp.s1, Kp.s2, i64_w, i32_w]
        rfl
       refine take_ (i := 4) (N := some 71) (v := ?_) (a' := ?_) #[true, true, true, true, true, false, false, true, false, true, false, false, false, false, false, false, false] rfl rfl (take_ofW HT_.out HW_.out (by kernel_rfl)) (fun _ _ _ h => h) (Or.inl ⟨by rfl, ?_⟩) hHeld ?_ ?_
       rotate_left
       ·rintro w' ⟨s0, s1, s2, s3⟩
        go_simp
        with_reducible rfl
       rotate_left
       ·simp only [Act.put, Kp.s0, Kp.s1, Kp.s2, i64_w, i32_w]
        rfl
       refine pure_ (i := 5) (N := some 72) (v := ?_) (a' := ?_) #[true, true, true, true, true, true, false, true, false, true, false, false, false, false, false, false, false] rfl rfl (any_of HT_.out (by kernel_rfl)) (fun _ _ _ h => h) (Or.inl ⟨by rfl, ?_⟩) ?_ ?_
       rotate_left
       ·intro w'
        go_simp
        with_reducible rfl
       rotate_left
       ·simp only [Act.put, Kp.s0, Kp.s1, Kp.s2, i64_w, i32_w]
        rfl
       refine take_ (i := 8) (N := some 75) (v := ?_) (a' := ?_) #[true, true, true, true, true, true, false, true, true, true, false, false, false, false, false, false, false] rfl rfl (take_ofW HT_.out HW_.out (by kernel_rfl)) (fun _ _ _ h => h) (Or.inl ⟨by rfl, ?_⟩) hHeld ?_ ?_
       rotate_left
       ·rintro w' ⟨s0, s1, s2, s3⟩
        go_simp
        with_reducible rfl
       rotate_left
       ·simp only [Act.put, Kp.s0, Kp.s1, Kp.s2, i64_w, i32_w]
        rfl
       refine take_ (i := 10) (N := some 77) (v := ?_) (a' := ?_) #[true, true, true, true, true, true, false, true, true, true, true, false, false, false, false, false, false] rfl rfl (take_ofW HT_.out HW_.out (by kernel_rfl)) (fun _ _ _ h => h) (Or.inl ⟨by rfl, ?_⟩) hHeld ?_ ?_
       rotate_left
       ·rintro w' ⟨s0, s1, s2, s3⟩
        go_simp
        with_reducible rfl
       rotate_left
       ·simp only [Act.put, Kp.s0, Kp.s1, Kp.s2, i64_w, i32_w]
        rfl
       refine pure_ (i := 11) (N := some 78) (v := ?_) (a' := ?_) #[true, true, true, true, true, true, false, true, true, true, true, true, false, false, false, false, false] rfl rfl (any_of HT_.out (by kernel_rfl)) (fun _ _ _ h => h) (Or.inl ⟨by rfl, ?_⟩) ?_ ?_
       rotate_left
       ·intro w'
        go_simp
        with_reducible rfl
       rotate_left
       ·simp only [Act.put, Kp.s0, Kp.s1, Kp.s2, i64_w, i32_w]
        rfl
       refine one_ (i := 6) (N := some 73) #[true, true, true, true, true, true, true, true, true, true, true, true, false, false, false, false, false] rfl rfl (one_of HT_.out (by kernel_rfl)) (by decide) (fun K hK => ?_)
       refine goes_ Try.func88 (by kernel_rfl) rfl #[.int .i64 (wrap64 (((rd_T34 l0 (ji10)).f0) - ((rd_T34 l0 x10_2).f0)))] (by rfl) rfl rfl (by (try simp only [List.map_toArray, List.map_cons, List.map_nil]); first | done | (simp only [hji10]; rfl) | rfl | (simp only [List.length_drop, List.length_take]; rfl)) ?_
       with_reducible refine (impl_abs.calls (wrap64 (((rd_T34 l0 (ji10)).f0) - ((rd_T34 l0 x10_2).f0))) t270 _ A39.out).mono ?_
       rintro e w51 ⟨rfl, hb⟩
       refine ⟨_, rfl, ?_⟩
       have n0_ := Kp.a (Kd.R_below (Kp.kpR HO_7.out) hb)
       have n1_ := Kp.a (Kd.R_below (Kp.kpR HO_8.out) hb)
       have n2_ := Kp.a (blk_below (g := gb260) (o := .cells #[.int .i64 x261000_2, .int .i64 x261001_2] 34 (0, 0)) (Kp.kpB BK260.out) hb)
       have n3_ := Kp.a (blk_below (g := gb263) (o := .cells #[.int .i64 ((rd_T34 l0 x10_2).f0), .int .i64 ((rd_T34 l0 x10_2).f1)] 34 (0, 0)) (Kp.kpB BK263.out) hb)
       have n4_ := Kp.a (blk_below (g := gb264) (o := .cells #[.int .i64 ((rd_T34 l0 (ji10)).f0), .int .i64 ((rd_T34 l0 (ji10)).f1)] 34 (0, 0)) (Kp.kpB BK264.out) hb)
       have n5_ := Kp.a (blk_below (g := gb269) (o := .cells #[.int .i64 t267, .int .i64 t268] 34 (0, 0)) (Kp.kpB BK269.out) hb)
       have n6_ := Kp.a (below_step (by repeat (first | (with_reducible first | exact HB.out | apply below_alloc | apply pw_below_drewN | apply below_drew1 | refine below_set ?_ GE260.out | refine below_set ?_ GE263.out | refine below_set ?_ GE264.out | refine below_set ?_ GE269.out) | exact HB.out)) hb)
       clear HO_7
       clear HO_8
       clear BK260
       clear BK263
       clear BK264
       clear BK269
       clear HB
       have HO_7 := n0_
       have HO_8 := n1_
       have BK260 := n2_
       have BK263 := n3_
       have BK264 := n4_
       have BK269 := n5_
       have HB := n6_
       clear n0_ n1_ n2_ n3_ n4_ n5_ n6_
       (try clear hb)
       (try clear hb2)
       (try clear hk)
       (try clear hi)
       refine hK.out _ _ ⟨(blk_cell BK264.out 0).trans rfl, (blk_cell BK264.out 1).trans rfl, (blk_cell BK263.out 0).trans rfl, (blk_cell BK263.out 1).trans rfl⟩ (fun hHeld => ?_)
       clear hK K
       refine norm_ (a' := ?_) ?_ ?_
       rotate_left
       ·show Act.put _ (some 73) _ = _
        simp only [Act.put, Kp.s0, Kp.s1, Kp.s2, i64_w, i32_w]
        rfl
       refine one_ (i := 12) (N := some 79) #[true, true, true, true, true, true, true, true, true, true, true, true, true, false, false, false, false] rfl rfl (one_of HT_.out (by kernel_rfl)) (by decide) (fun K hK => ?_)
       refine goes_ Try.func88 (by kernel_rfl) rfl #[.int .i64 (wrap64 (((rd_T34 l0 (ji10)).f1) - ((rd_T34 l0 x10_2).f1)))] (by rfl) rfl rfl (by (try simp only [List.map_toArray, List.map_cons, List.map_nil]); first | done | (simp only [hji10]; rfl) | rfl | (simp only [List.length_drop, List.length_take]; rfl)) ?_
       with_reducible refine (impl_abs.calls (wrap64 (((rd_T34 l0 (ji10)).f1) - ((rd_T34 l0 x10_2).f1))) t271 _ A40.out).mono ?_
       rintro e w52 ⟨rfl, hb⟩
       refine ⟨_, rfl, ?_⟩
       have n0_ := Kp.a (Kd.R_below (Kp.kpR HO_7.out) hb)
       have n1_ := Kp.a (Kd.R_below (Kp.kpR HO_8.out) hb)
       have n2_ := Kp.a (blk_below (g := gb260) (o := .cells #[.int .i64 x261000_2, .int .i64 x261001_2] 34 (0, 0)) (Kp.kpB BK260.out) hb)
       have n3_ := Kp.a (blk_below (g := gb263) (o := .cells #[.int .i64 ((rd_T34 l0 x10_2).f0), .int .i64 ((rd_T34 l0 x10_2).f1)] 34 (0, 0)) (Kp.kpB BK263.out) hb)
       have n4_ := Kp.a (blk_below (g := gb264) (o := .cells #[.int .i64 ((rd_T34 l0 (ji10)).f0), .int .i64 ((rd_T34 l0 (ji10)).f1)] 34 (0, 0)) (Kp.kpB BK264.out) hb)
       have n5_ := Kp.a (blk_below (g := gb269) (o := .cells #[.int .i64 t267, .int .i64 t268] 34 (0, 0)) (Kp.kpB BK269.out) hb)
       have n6_ := Kp.a (below_step (by repeat (first | (with_reducible first | exact HB.out | apply below_alloc | apply pw_below_drewN | apply below_drew1 | refine below_set ?_ GE260.out | refine below_set ?_ GE263.out | refine below_set ?_ GE264.out | refine below_set ?_ GE269.out) | exact HB.out)) hb)
       clear HO_7
       clear HO_8
       clear BK260
       clear BK263
       clear BK264
       clear BK269
       clear HB
       have HO_7 := n0_
       have HO_8 := n1_
       have BK260 := n2_
       have BK263 := n3_
       have BK264 := n4_
       have BK269 := n5_
       have HB := n6_
       clear n0_ n1_ n2_ n3_ n4_ n5_ n6_
       (try clear hb)
       (try clear hb2)
       (try clear hk)
       (try clear hi)
       refine hK.out _ _ ⟨(blk_cell BK264.out 0).trans rfl, (blk_cell BK264.out 1).trans rfl, (blk_cell BK263.out 0).trans rfl, (blk_cell BK263.out 1).trans rfl⟩ (fun hHeld => ?_)
       clear hK K
       refine norm_ (a' := ?_) ?_ ?_
       rotate_left
       ·show Act.put _ (some 79) _ = _
        simp only [Act.put, Kp.s0, Kp.s1, Kp.s2, i64_w, i32_w]
        rfl
       refine pure_ (i := 13) (N := some 80) (v := ?_) (a' := ?_) #[true, true, true, true, true, true, true, true, true, true, true, true, true, true, false, false, false] rfl rfl (any_of HT_.out (by kernel_rfl)) (fun _ _ _ h => h) (Or.inl ⟨by rfl, ?_⟩) ?_ ?_
       rotate_left
       ·intro w'
        go_simp
        with_reducible rfl
       rotate_left
       ·simp only [Act.put, Kp.s0, Kp.s1, Kp.s2, i64_w, i32_w]
        rfl
       refine one_ (i := 14) (N := some 81) #[true, true, true, true, true, true, true, true, true, true, true, true, true, true, true, false, false] rfl rfl (one_of HT_.out (by kernel_rfl)) (by decide) (fun K hK => ?_)
       refine value_ (w1 := ?_) (v := ?_) (by rfl) rfl ?_ ?_
       rotate_left 2
       ·go_simp
        constructor
        ·rfl
        rfl
       refine hK.out _ _ ⟨(blk_cell (blk_alloc BK264.out _) 0).trans rfl, (blk_cell (blk_alloc BK264.out _) 1).trans rfl, (blk_cell (blk_alloc BK263.out _) 0).trans rfl, (blk_cell (blk_alloc BK263.out _) 1).trans rfl⟩ (fun hHeld => ?_)
       clear hK K
       refine norm_ (a' := ?_) ?_ ?_
       rotate_left
       ·show Act.put _ (some 81) _ = _
        simp only [Act.put, Kp.s0, Kp.s1, Kp.s2, i64_w, i32_w]
        rfl
       refine one_ (i := 15) (N := some 82) #[true, true, true, true, true, true, true, true, true, true, true, true, true, true, true, true, false] rfl rfl (one_of HT_.out (by kernel_rfl)) (by decide) (fun K hK => ?_)
       refine Kd.R_append_step (Kd.int .i64) (w0 := w) w.heap.size (by rfl) (.tmp 67) (.tmp 81) 55 3 (.int .i64 0) 8 rfl Try.underlying55 info3 rfl (by decide) (by omega) u7 x7_2 (wrap64 (t270 + t271)) [.int .i64 (wrap64 (t270 + t271))] (fun k_ => some k_ ≠ (u8 : Value).ownBlock) (fun _ => False) rfl rfl ?aP (fun _ hk => hk.elim) ?aF ?aO ?aB ?aS ?aL ?_
       (case aP => exact rfl)
       (case aB => exact (by repeat (first | (with_reducible first | exact HB.out | apply below_alloc | apply pw_below_drewN | apply below_drew1 | refine below_set ?_ GE260.out | refine below_set ?_ GE263.out | refine below_set ?_ GE264.out | refine below_set ?_ GE269.out) | exact HB.out)))
       (case aF => exact (fun k_ hk => Kd.fresh' (Kd.R_lt (Kp.kpR HO_8.out)) k_ hk))
       (case aO => exact (Kp.kpR HO_7.out))
       (case aS => exact (below_size (by repeat (first | (with_reducible first | exact HB.out | apply below_alloc | apply pw_below_drewN | apply below_drew1 | refine below_set ?_ GE260.out | refine below_set ?_ GE263.out | refine below_set ?_ GE264.out | refine below_set ?_ GE269.out) | exact HB.out))))
       (case aL => have := LMc41.out; omega)
       intro v273 w53 ho hb hg hat
       rw [← Ny272.out] at ho
       have n0_ := Kp.a (Kd.R_after (ok := (fun _ => True)) (Kp.kpR (Kd.R_mono HO_8.out (fun _ hk => ⟨trivial, hk⟩))) hg hat)
       have n1_ := Kp.a (blk_grown (g := gb260) (o := .cells #[.int .i64 x261000_2, .int .i64 x261001_2] 34 (0, 0)) (Kp.kpB BK260.out) hg (Kd.R_ne HO_7.out BK260.out (by decide)))
       have n2_ := Kp.a (blk_grown (g := gb263) (o := .cells #[.int .i64 ((rd_T34 l0 x10_2).f0), .int .i64 ((rd_T34 l0 x10_2).f1)] 34 (0, 0)) (Kp.kpB BK263.out) hg (Kd.R_ne HO_7.out BK263.out (by decide)))
       have n3_ := Kp.a (blk_grown (g := gb264) (o := .cells #[.int .i64 ((rd_T34 l0 (ji10)).f0), .int .i64 ((rd_T34 l0 (ji10)).f1)] 34 (0, 0)) (Kp.kpB BK264.out) hg (Kd.R_ne HO_7.out BK264.out (by decide)))
       have n4_ := Kp.a (blk_grown (g := gb269) (o := .cells #[.int .i64 t267, .int .i64 t268] 34 (0, 0)) (Kp.kpB BK269.out) hg (Kd.R_ne HO_7.out BK269.out (by decide)))
       have n5_ := Kp.a (hb)
       have n6_ := Kp.a (ho)
       clear HO_8
       clear BK260
       clear BK263
       clear BK264
       clear BK269
       clear HB
       clear HO_7
       have HO_8 := n0_
       have BK260 := n1_
       have BK263 := n2_
       have BK264 := n3_
       have BK269 := n4_
       have HB := n5_
       have HO274 := n6_
       clear n0_ n1_ n2_ n3_ n4_ n5_ n6_
       clear ho hb hg hat
       refine hK.out _ _ ⟨(blk_cell BK264.out 0).trans rfl, (blk_cell BK264.out 1).trans rfl, (blk_cell BK263.out 0).trans rfl, (blk_cell BK263.out 1).trans rfl⟩ (fun hHeld => ?_)
       clear hK K
       refine norm_ (a' := ?_) ?_ ?_
       rotate_left
       ·show Act.put _ (some 82) _ = _
        simp only [Act.put, Kp.s0, Kp.s1, Kp.s2, i64_w, i32_w]
        rfl
       refine pure_ (i := 16) (N := some 7) (v := ?_) (a' := ?_) #[true, true, true, true, true, true, true, true, true, true, true, true, true, true, true, true, true] rfl rfl (any_of HT_.out (by kernel_rfl)) (fun _ _ _ h => h) (Or.inl ⟨by rfl, ?_⟩) ?_ ?_
       rotate_left
       ·intro w'
        go_simp
        with_reducible rfl
       rotate_left
       ·simp only [Act.put, Kp.s0, Kp.s1, Kp.s2, i64_w, i32_w]
        rfl
       refine done_ (done_of HT_.out (by kernel_rfl)) ?_
       have hnb54 := NB260_263.out
       have hnc54 := NB263_260.out
       have hnb55 := NB260_264.out
       have hnc55 := NB264_260.out
       have hnb56 := NB260_269.out
       have hnc56 := NB269_260.out
       have hcz57_0 : w53.cell? ⟨gb260, 0, none⟩ = some (.int .i64 x261000_2) := (blk_cell BK260.out 0).trans rfl
       have hcz57_1 : w53.cell? ⟨gb260, 1, none⟩ = some (.int .i64 x261001_2) := (blk_cell BK260.out 1).trans rfl
       have hfz57_0 := blk_frozen BK260.out 0
       have hfz57_1 := blk_frozen BK260.out 1
       have hnb58 := NB269_263.out
       have hnc58 := NB263_269.out
       have hnb59 := NB269_264.out
       have hnc59 := NB264_269.out
       have hcz60_0 : w53.cell? ⟨gb269, 0, none⟩ = some (.int .i64 t267) := (blk_cell BK269.out 0).trans rfl
       have hcz60_1 : w53.cell? ⟨gb269, 1, none⟩ = some (.int .i64 t268) := (blk_cell BK269.out 1).trans rfl
       have hfz60_0 := blk_frozen BK269.out 0
       have hfz60_1 := blk_frozen BK269.out 1
       try go_wp2_with (first | ((with_reducible refine gate_builtin (b := .append) (xs := #[.tmp 85, .tmp 97]) rfl ?_); (try (refine gate_guard (by rfl) ?_; dsimp only)); at_builtin; refine Kd.R_append (Kd.int .i64) (w0 := w) w.heap.size rfl (.tmp 85) (.tmp 97) 55 3 (.int .i64 0) 8 rfl Try.underlying55 info3 rfl (by decide) (by omega) u8 x8_2 (wrap64 ((wrap64 (x261000_2 * t268)) - (wrap64 (x261001_2 * t267)))) [.int .i64 (wrap64 ((wrap64 (x261000_2 * t268)) - (wrap64 (x261001_2 * t267))))] (fun k_ => some k_ ≠ (v273 : Value).ownBlock) (fun _ => False) rfl rfl ?aP (fun _ hk => hk.elim) ?aF ?aO ?aB ?aS ?aL ?_; (case aP => exact rfl); (case aB => exact (by repeat (first | (with_reducible first | exact HB.out | apply below_alloc | apply pw_below_drewN | apply below_drew1 | refine below_set ?_ GE260.out | refine below_set ?_ GE263.out | refine below_set ?_ GE264.out | refine below_set ?_ GE269.out) | exact HB.out))); (case aF => exact (fun k_ hk => Kd.fresh' (Kd.R_lt (Kp.kpR HO274.out)) k_ hk)); (case aO => exact (Kp.kpR (Kd.R_mono HO_8.out (fun _ hk => hk.2)))); (case aS => exact (below_size (by repeat (first | (with_reducible first | exact HB.out | apply below_alloc | apply pw_below_drewN | apply below_drew1 | refine below_set ?_ GE260.out | refine below_set ?_ GE263.out | refine below_set ?_ GE264.out | refine below_set ?_ GE269.out) | exact HB.out)))); (case aL => have := LMc43.out; omega); intro v276 w61 ho hb hg hat; rw [← Ny275.out] at ho; have n0_ := Kp.a (blk_grown (g := gb260) (o := .cells #[.int .i64 x261000_2, .int .i64 x261001_2] 34 (0, 0)) (Kp.kpB BK260.out) hg (Kd.R_ne HO_8.out BK260.out (by decide))); have n1_ := Kp.a (blk_grown (g := gb263) (o := .cells #[.int .i64 ((rd_T34 l0 x10_2).f0), .int .i64 ((rd_T34 l0 x10_2).f1)] 34 (0, 0)) (Kp.kpB BK263.out) hg (Kd.R_ne HO_8.out BK263.out (by decide))); have n2_ := Kp.a (blk_grown (g := gb264) (o := .cells #[.int .i64 ((rd_T34 l0 (ji10)).f0), .int .i64 ((rd_T34 l0 (ji10)).f1)] 34 (0, 0)) (Kp.kpB BK264.out) hg (Kd.R_ne HO_8.out BK264.out (by decide))); have n3_ := Kp.a (blk_grown (g := gb269) (o := .cells #[.int .i64 t267, .int .i64 t268] 34 (0, 0)) (Kp.kpB BK269.out) hg (Kd.R_ne HO_8.out BK269.out (by decide))); have n4_ := Kp.a (Kd.R_after (ok := (fun _ => True)) (Kp.kpR (Kd.R_mono HO274.out (fun _ hk => ⟨trivial, hk⟩))) hg hat); have n5_ := Kp.a (hb); have n6_ := Kp.a (ho); clear BK260; clear BK263; clear BK264; clear BK269; clear HO274; clear HB; clear HO_8; have BK260 := n0_; have BK263 := n1_; have BK264 := n2_; have BK269 := n3_; have HO274 := n4_; have HB := n5_; have HO277 := n6_; clear n0_ n1_ n2_ n3_ n4_ n5_ n6_; clear ho hb hg hat; have hcz62_0 : w61.cell? ⟨gb269, 0, none⟩ = some (.int .i64 t267) := (blk_cell BK269.out 0).trans rfl; have hcz62_1 : w61.cell? ⟨gb269, 1, none⟩ = some (.int .i64 t268) := (blk_cell BK269.out 1).trans rfl; have hfz62_0 := blk_frozen BK269.out 0; have hfz62_1 := blk_frozen BK269.out 1; have hcz63_0 : w61.cell? ⟨gb260, 0, none⟩ = some (.int .i64 x261000_2) := (blk_cell BK260.out 0).trans rfl; have hcz63_1 : w61.cell? ⟨gb260, 1, none⟩ = some (.int .i64 x261001_2) := (blk_cell BK260.out 1).trans rfl; have hfz63_0 := blk_frozen BK260.out 0; have hfz63_1 := blk_frozen BK260.out 1))
       go_roundg kj12
       case measure => have := HJ2.out; have := HK2.out; have := HJ12.out; omega
       case rel => exact ⟨(y272), (y275), (wrap64 (x10_2 + 1)), (t267), (t268), (by first | rfl | (simp; done) | (simp [*]; done)), H', ⟨by have := HJ2.out; have := HK2.out; have := HJ12.out; omega⟩, ⟨Kp.kpR (Kd.R_mono (Kd.R_far (p := ⟨gb260, 1, none⟩) (Kd.R_far (p := ⟨gb260, 0, none⟩) (Kd.R_types HO274.out BK260.out (by decide)) (fun _ hk => hk.2) (.int .i64 t267)) (fun _ hk => hk.2) (.int .i64 t268)) (fun _ hk => hk.1.2))⟩, ⟨Kp.kpR (Kd.R_mono (Kd.R_far (p := ⟨gb260, 1, none⟩) (Kd.R_far (p := ⟨gb260, 0, none⟩) (Kd.R_types HO277.out BK260.out (by decide)) (fun _ hk => hk.2) (.int .i64 t267)) (fun _ hk => hk.2) (.int .i64 t268)) (fun _ hk => hk.1))⟩, ⟨by (with_reducible repeat (first | refine blk_drewN ?_ _ | refine blk_drew ?_ | refine blk_alloc ?_ _)); refine blk_put (cs := #[.int .i64 t267, .int .i64 x261001_2]) ?_ 1 _ rfl; (with_reducible repeat (first | refine blk_drewN ?_ _ | refine blk_drew ?_ | refine blk_alloc ?_ _)); refine blk_put (cs := #[.int .i64 x261000_2, .int .i64 x261001_2]) ?_ 0 _ rfl; (with_reducible repeat (first | refine blk_drewN ?_ _ | refine blk_drew ?_ | refine blk_alloc ?_ _)); exact BK260.out⟩, ⟨by repeat (first | (with_reducible first | exact HB.out | apply below_alloc | apply pw_below_drewN | apply below_drew1 | refine below_set ?_ GE260.out | refine below_set ?_ GE263.out | refine below_set ?_ GE264.out | refine below_set ?_ GE269.out) | exact HB.out)⟩⟩
end Go.Proofs.Ytgnhcdchpeeoaaa.PW


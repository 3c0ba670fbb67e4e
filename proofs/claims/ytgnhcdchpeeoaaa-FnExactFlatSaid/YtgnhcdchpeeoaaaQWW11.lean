import Derived.Test.YtgnhcdchpeeoaaaQWW0
import Derived.Test.YtgnhcdchpeeoaaaVWk
import Derived.Test.YtgnhcdchpeeoaaaQWW4
import Derived.Test.YtgnhcdchpeeoaaaQWW10
namespace Go.Proofs.Ytgnhcdchpeeoaaa.PW
open Go.RowKit Go.Proofs.YtgnhcdchpeeoaaaW.PrintWords Go.Proofs.YtgnhcdchpeeoaaaW.PrintLast Go.Proofs.YtgnhcdchpeeoaaaW.PrintMore
attribute [local go_sem] max2_int min2_int max_two min_two max_three min_three max_four min_four
set_option linter.unusedVariables false
set_option linter.unusedSimpArgs false
mutual
def impl_Bent.j0 : Nat → List Int → List Int → Bool → Option ((List (S34)) × Int × Int)
 | 0, _, _, _ => none
 | k + 1, x0, x1, x26 => if x26 = true then (some (([] : List (S34)), 2, 0)) else ((impl_panelsOK.f k x0).bind fun t224 => (if t224 = true then (impl_Bent.j1 k x0 x1 ((x1.length : Int) != (wrap64 ((x0.length : Int) - 1)))) else (impl_Bent.j1 k x0 x1 true)))
def impl_Bent.j1 : Nat → List Int → List Int → Bool → Option ((List (S34)) × Int × Int)
 | 0, _, _, _ => none
 | k + 1, x0, x1, x37 => if x37 = true then (some (([] : List (S34)), 1, 0)) else (impl_Bent.l0 k x0 x1 x1 (x1.length : Int) 0)
def impl_Bent.l0 : Nat → List Int → List Int → List Int → Int → Int → Option ((List (S34)) × Int × Int)
 | 0, _, _, _, _, _ => none
 | k + 1, x0, x1, x38, x39, x40 => if x40 < x39 then (if 0 ≤ x40 then (if x40 < (x38.length : Int) then (if (rd x38 x40) < (-1) then (some (([] : List (S34)), 1, 0)) else (if (rd x38 x40) > 1 then (some (([] : List (S34)), 1, 0)) else (impl_Bent.l0 k x0 x1 x38 x39 (wrap64 (x40 + 1))))) else (none)) else (none)) else (impl_Bent.l1 k x0 x1 1 0 (([(⟨0, 0⟩ : S34)] : List (S34))) x0 (x0.length : Int) 0)
def impl_Bent.l1 : Nat → List Int → List Int → Int → Int → List (S34) → List Int → Int → Int → Option ((List (S34)) × Int × Int)
 | 0, _, _, _, _, _, _, _, _ => none
 | k + 1, x0, x1, x9, x10, x11, x53, x54, x55 => if x55 < x54 then (if 0 ≤ x55 then (if x55 < (x53.length : Int) then (if x55 > 0 then (if 0 ≤ (wrap64 (x55 - 1)) then (if (wrap64 (x55 - 1)) < (x1.length : Int) then (if (rd x1 (wrap64 (x55 - 1))) = 1 then (if 0 ≤ (wrap64 ((x11.length : Int) - 1)) then (if (wrap64 ((x11.length : Int) - 1)) < (x11.length : Int) then (if x11.length < 8796093022208 then (impl_Bent.l1 k x0 x1 (wrap64 (-x10)) x9 (x11 ++ [(⟨wrap64 (((rd_T34 x11 (wrap64 ((x11.length : Int) - 1))).f0) + (wrap64 ((wrap64 (-x10)) * (rd x53 x55)))), wrap64 (((rd_T34 x11 (wrap64 ((x11.length : Int) - 1))).f1) + (wrap64 (x9 * (rd x53 x55))))⟩ : S34)]) x53 x54 (wrap64 (x55 + 1))) else (none)) else (none)) else (none)) else (if (rd x1 (wrap64 (x55 - 1))) = (-1) then (if 0 ≤ (wrap64 ((x11.length : Int) - 1)) then (if (wrap64 ((x11.length : Int) - 1)) < (x11.length : Int) then (if x11.length < 8796093022208 then (impl_Bent.l1 k x0 x1 x10 (wrap64 (-x9)) (x11 ++ [(⟨wrap64 (((rd_T34 x11 (wrap64 ((x11.length : Int) - 1))).f0) + (wrap64 (x10 * (rd x53 x55)))), wrap64 (((rd_T34 x11 (wrap64 ((x11.length : Int) - 1))).f1) + (wrap64 ((wrap64 (-x9)) * (rd x53 x55))))⟩ : S34)]) x53 x54 (wrap64 (x55 + 1))) else (none)) else (none)) else (none)) else (if 0 ≤ (wrap64 ((x11.length : Int) - 1)) then (if (wrap64 ((x11.length : Int) - 1)) < (x11.length : Int) then (if x11.length < 8796093022208 then (impl_Bent.l1 k x0 x1 x9 x10 (x11 ++ [(⟨wrap64 (((rd_T34 x11 (wrap64 ((x11.length : Int) - 1))).f0) + (wrap64 (x9 * (rd x53 x55)))), wrap64 (((rd_T34 x11 (wrap64 ((x11.length : Int) - 1))).f1) + (wrap64 (x10 * (rd x53 x55))))⟩ : S34)]) x53 x54 (wrap64 (x55 + 1))) else (none)) else (none)) else (none)))) else (none)) else (none)) else (if 0 ≤ (wrap64 ((x11.length : Int) - 1)) then (if (wrap64 ((x11.length : Int) - 1)) < (x11.length : Int) then (if x11.length < 8796093022208 then (impl_Bent.l1 k x0 x1 x9 x10 (x11 ++ [(⟨wrap64 (((rd_T34 x11 (wrap64 ((x11.length : Int) - 1))).f0) + (wrap64 (x9 * (rd x53 x55)))), wrap64 (((rd_T34 x11 (wrap64 ((x11.length : Int) - 1))).f1) + (wrap64 (x10 * (rd x53 x55))))⟩ : S34)]) x53 x54 (wrap64 (x55 + 1))) else (none)) else (none)) else (none))) else (none)) else (none)) else (impl_Bent.l2 k x11 (x0.length : Int) 0)
def impl_Bent.l2 : Nat → List (S34) → Int → Int → Option ((List (S34)) × Int × Int)
 | 0, _, _, _ => none
 | k + 1, x11, x101, x102 => if x102 < x101 then (impl_Bent.l3 k x11 x102 0 x101 x102) else (some (x11, 0, 0))
def impl_Bent.l3 : Nat → List (S34) → Int → Int → Int → Int → Option ((List (S34)) × Int × Int)
 | 0, _, _, _, _, _ => none
 | k + 1, x11, x15, x16, x101, x102 => if x16 < x15 then (if 0 ≤ x15 then (if x15 < (x11.length : Int) then (if 0 ≤ (wrap64 (x15 + 1)) then (if (wrap64 (x15 + 1)) < (x11.length : Int) then (if 0 ≤ x16 then (if x16 < (x11.length : Int) then (if 0 ≤ (wrap64 (x16 + 1)) then (if (wrap64 (x16 + 1)) < (x11.length : Int) then ((impl_crossing.f ((rd_T34 x11 x15).f0) ((rd_T34 x11 x15).f1) ((rd_T34 x11 (wrap64 (x15 + 1))).f0) ((rd_T34 x11 (wrap64 (x15 + 1))).f1) ((rd_T34 x11 x16).f0) ((rd_T34 x11 x16).f1) ((rd_T34 x11 (wrap64 (x16 + 1))).f0) ((rd_T34 x11 (wrap64 (x16 + 1))).f1)).bind fun bt255 => (if x16 < (wrap64 (x15 - 1)) then (if bt255.1 > 0 then (some (([] : List (S34)), 13, x15)) else (if bt255.1 > 1 then (some (([] : List (S34)), 13, x15)) else (impl_Bent.l3 k x11 x15 (wrap64 (x16 + 1)) x101 x102))) else (if bt255.1 > 1 then (some (([] : List (S34)), 13, x15)) else (impl_Bent.l3 k x11 x15 (wrap64 (x16 + 1)) x101 x102)))) else (none)) else (none)) else (none)) else (none)) else (none)) else (none)) else (none)) else (none)) else (impl_Bent.l2 k x11 x101 (wrap64 (x102 + 1)))
end
def impl_Bent.f (k : Nat) (l0 : List Int) (l1 : List Int) : Option ((List (S34)) × Int × Int) := if (l0.length : Int) > 4096 then (impl_Bent.j0 k l0 l1 true) else (impl_Bent.j0 k l0 l1 (decide ((l1.length : Int) > 4096)))
def impl_Bent.T31 : Bool × List (List Nat × List Nat) := (true, [([], []), ([], []), ([0, 1], [0, 1]), ([2], [2]), ([], []), ([], []), ([5], [5]), ([4, 6], [4, 6]), ([7], [7]), ([], []), ([], []), ([9, 10], [9, 10]), ([11], [11]), ([], []), ([], []), ([14], [14]), ([13, 15], [13, 15]), ([16], [16]), ([3, 8, 12, 17], [3, 8, 12, 17]), ([18], [18]), ([19], [19]), ([19], [19]), ([20, 18, 0, 1, 2, 3, 4, 5, 6, 7, 8, 9, 10, 11, 12, 13, 14, 15, 16, 17, 18, 19, 20], [20]), ([21, 22, 0, 1, 2, 3, 4, 5, 6, 7, 8, 9, 10, 11, 12, 13, 14, 15, 16, 17, 18, 19, 20, 21, 22], [21])])
def impl_Bent.B31 : List Nat := [0, 0, 3, 7, 0, 0, 32, 112, 240, 0, 0, 1536, 3584, 0, 0, 16384, 57344, 122880, 262143, 524287, 1048575, 1048575, 2097151, 8388607]
theorem impl_Bent.tab31 : rtab .any (opsOf Try.f41 31) = impl_Bent.T31 := by kernel_rfl
theorem impl_Bent.bits31 : waitsOk impl_Bent.T31.2 impl_Bent.B31 = true := by kernel_rfl
set_option maxHeartbeats 8000000 in
set_option maxRecDepth 100000 in
theorem impl_Bent.calls (k : Nat) (A0 : Option Addr) (c0 : Nat) (l0 : List Int) (A1 : Option Addr) (c1 : Nat) (l1 : List Int) (r1 : List (S34)) (r2 : Int) (r3 : Int) (w : World) (hr0 : Kd.C (Kd.int .i64) w A0 l0.length l0) (hc0 : l0.length ≤ c0) (hr1 : Kd.C (Kd.int .i64) w A1 l1.length l1) (hc1 : l1.length ≤ c1) (h : impl_Bent.f k l0 l1 = some (r1, r2, r3)) :
  Calls Try.prog 41 #[.slice A0 l0.length c0, .slice A1 l1.length c1] w fun e w' => ∃ v0_ : Value, e = .returned (.tuple #[v0_, .int .i64 r2, .int .i64 r3]) ∧ Kd.R k34 34 w' w.heap.size (fun _ => True) v0_ r1 ∧ Below w.heap.size w w' := by
 have hu34 := Try.underlying34
 have HR0 := Kp.a hr0
 have HC0 := Kp.a hc0
 clear hr0 hc0
 have HR1 := Kp.a hr1
 have HC1 := Kp.a hc1
 clear hr1 hc1
 have HB := Kp.a (Below.refl w.heap.size w)
 have H : (if (l0.length : Int) > 4096 then (impl_Bent.j0 k l0 l1 true) else (impl_Bent.j0 k l0 l1 (decide ((l1.length : Int) > 4096)))) = some (r1, r2, r3) := h
 clear h
 have HC3 := Kp.a H
 clear H
 go_enter Try.func41, Try.ntmps41
 go_upto_region 1 with (fail)
 go_cut [26] (fun v26 wc => ∃ (kq : Nat) (x26_2 : Bool), v26 = .bool x26_2 ∧ Aside0 (impl_Bent.j0 kq l0 l1 x26_2 = some (r1, r2, r3)) ∧ Aside0 (kq ≤ k) ∧ Aside0 (Below w.heap.size w wc))
 case first =>
  have H := HC3.out
  clear HC3
  by_cases c4 : (l0.length : Int) > 4096
  ·rw [if_pos c4] at H
   have c4b0 : decide (4096 < (l0.length : Int)) = true := decide_eq_true c4
   have c4b1 : decide (4096 < l0.length) = true := decide_eq_true (by omega)
   clear c4
   (first | rw [c4b0] | (simp only [i64_w, i32_w]; rw [c4b0]) | skip)
   have H' := Kp.a H
   clear H
   go_wp2
   go_meet
   case rel => exact ⟨_, (true), (by first | rfl | (simp; done) | (simp [*]; done)), H', ⟨by first | omega | exact Nat.le_refl _⟩, ⟨Kp.kpL HB.out⟩⟩
  rw [if_neg c4] at H
  have c4b0 : decide (4096 < (l0.length : Int)) = false := decide_eq_false c4
  have c4b1 : decide (4096 < l0.length) = false := decide_eq_false (by omega)
  clear c4
  (first | rw [c4b0] | (simp only [i64_w, i32_w]; rw [c4b0]) | skip)
  have H' := Kp.a H
  clear H
  go_wp2
  go_meet
  case rel => exact ⟨_, (decide ((l1.length : Int) > 4096)), (by first | rfl | (simp; done) | (simp [*]; done)), H', ⟨by first | omega | exact Nat.le_refl _⟩, ⟨Kp.kpL HB.out⟩⟩
 case rest =>
  clear HC3
  try clear c1
  try clear p2
  try clear c4
  try clear c4b0
  try clear c4b1
  obtain ⟨kq, x26_2, rfl, HA, HJ2, HB⟩ := hcut
  cases kq with
  | zero => exact absurd HA.out (by simp [impl_Bent.j0])
  | succ kj2 =>
   have H := HA.out
   clear HA
   simp only [impl_Bent.j0] at H
   by_cases c5 : x26_2 = true
   ·subst c5
    have H1 : (some (([] : List (S34)), 2, 0)) = some (r1, r2, r3) := by rw [if_pos rfl] at H; exact H
    clear H
    have H := H1
    clear H1
    simp only [Option.some.injEq, Prod.mk.injEq] at H
    obtain ⟨rfl, rfl, rfl⟩ := H
    go_wp2
    go_ret3
    exact ⟨_, by first | rfl | (simp [errW_none, errW_some] <;> rfl) | (simp [*, errW_none, errW_some] <;> rfl), by first | exact Kd.R_nil _ _ _ _ _ | exact Kd.N_nil _ _ _ _ _ | exact Kd.V_nil _ _ _ _ _ | exact Kd.Q_nil _ _ _ _ _ | exact Kd.S_nil _ _ _ _ _, Kp.kpL HB.out⟩
   replace c5 := Bool.eq_false_iff.mpr c5
   subst c5
   have H1 : ((impl_panelsOK.f kj2 l0).bind fun t224 => (if t224 = true then (impl_Bent.j1 kj2 l0 l1 ((l1.length : Int) != (wrap64 ((l0.length : Int) - 1)))) else (impl_Bent.j1 kj2 l0 l1 true))) = some (r1, r2, r3) := by rw [if_neg (show ¬ (false = true) by decide)] at H; exact H
   clear H
   have H := H1
   clear H1
   have HC6 := Kp.a H
   clear H
   go_upto_region 3 with (fail)
   go_cut [37] (fun v37 wc => ∃ (kq : Nat) (x37_5 : Bool), v37 = .bool x37_5 ∧ Aside0 (impl_Bent.j1 kq l0 l1 x37_5 = some (r1, r2, r3)) ∧ Aside0 (kq ≤ kj2) ∧ Aside0 (Below w.heap.size w wc))
   case first =>
    have H := HC6.out
    clear HC6
    replace H := Option.bind_eq_some_iff.mp H
    obtain ⟨t224, A70, H⟩ := H
    replace H : (if t224 = true then (impl_Bent.j1 kj2 l0 l1 ((l1.length : Int) != (wrap64 ((l0.length : Int) - 1)))) else (impl_Bent.j1 kj2 l0 l1 true)) = some (r1, r2, r3) := H
    have A7 := Kp.a A70
    clear A70
    by_cases c8 : t224 = true
    ·subst c8
     have H1 : (impl_Bent.j1 kj2 l0 l1 ((l1.length : Int) != (wrap64 ((l0.length : Int) - 1)))) = some (r1, r2, r3) := by rw [if_pos rfl] at H; exact H
     clear H
     have H := H1
     clear H1
     have H' := Kp.a H
     clear H
     go_wp2_with (first | ((with_reducible refine gate_callee (f := 83) rfl ?_); refine goesL_ (some 28) rfl rfl Try.func83 (by kernel_rfl) rfl #[.slice A0 l0.length c0] rfl (by (try simp only [List.map_toArray, List.map_cons, List.map_nil]); first | done | rfl | (simp only [List.length_drop, List.length_take]; rfl)) ?_; (with_reducible refine (impl_panelsOK.calls kj2 _ _ l0 true _ ?side1 ?side2 A7.out).mono ?_); (case side1 => repeat (first | exact (Kd.C_below HR0.out HB.out) | (with_reducible refine Kd.C_alloc ?_ _) | (with_reducible refine Kd.C_drewN ?_ _) | (with_reducible refine Kd.C_drew ?_))); (case side2 => exact HC0.out); rintro e w' ⟨rfl, ⟨nd, rfl⟩⟩; refine ⟨_, rfl, ?_⟩))
     go_meet
     case rel => exact ⟨_, (((l1.length : Int) != (wrap64 ((l0.length : Int) - 1)))), (by first | rfl | (simp; done) | (simp [*]; done)), H', ⟨by have := HJ2.out; first | omega | exact Nat.le_refl _⟩, ⟨Kp.kpL HB.out⟩⟩
    replace c8 := Bool.eq_false_iff.mpr c8
    subst c8
    have H1 : (impl_Bent.j1 kj2 l0 l1 true) = some (r1, r2, r3) := by rw [if_neg (show ¬ (false = true) by decide)] at H; exact H
    clear H
    have H := H1
    clear H1
    have H' := Kp.a H
    clear H
    go_wp2_with (first | ((with_reducible refine gate_callee (f := 83) rfl ?_); refine goesL_ (some 28) rfl rfl Try.func83 (by kernel_rfl) rfl #[.slice A0 l0.length c0] rfl (by (try simp only [List.map_toArray, List.map_cons, List.map_nil]); first | done | rfl | (simp only [List.length_drop, List.length_take]; rfl)) ?_; (with_reducible refine (impl_panelsOK.calls kj2 _ _ l0 false _ ?side1 ?side2 A7.out).mono ?_); (case side1 => repeat (first | exact (Kd.C_below HR0.out HB.out) | (with_reducible refine Kd.C_alloc ?_ _) | (with_reducible refine Kd.C_drewN ?_ _) | (with_reducible refine Kd.C_drew ?_))); (case side2 => exact HC0.out); rintro e w' ⟨rfl, ⟨nd, rfl⟩⟩; refine ⟨_, rfl, ?_⟩))
    go_meet
    case rel => exact ⟨_, (true), (by first | rfl | (simp; done) | (simp [*]; done)), H', ⟨by have := HJ2.out; first | omega | exact Nat.le_refl _⟩, ⟨Kp.kpL HB.out⟩⟩
   case rest =>
    clear HC6
    try clear c1
    try clear p2
    try clear c4
    try clear c4b0
    try clear c4b1
    try clear c5
    try clear p6
    try clear c8
    try clear p2
    obtain ⟨kq, x37_5, rfl, HA, HJ5, HB⟩ := hcut
    cases kq with
    | zero => exact absurd HA.out (by simp [impl_Bent.j1])
    | succ kj5 =>
     have H := HA.out
     clear HA
     simp only [impl_Bent.j1] at H
     by_cases c9 : x37_5 = true
     ·subst c9
      have H1 : (some (([] : List (S34)), 1, 0)) = some (r1, r2, r3) := by rw [if_pos rfl] at H; exact H
      clear H
      have H := H1
      clear H1
      simp only [Option.some.injEq, Prod.mk.injEq] at H
      obtain ⟨rfl, rfl, rfl⟩ := H
      go_wp2
      go_ret3
      exact ⟨_, by first | rfl | (simp [errW_none, errW_some] <;> rfl) | (simp [*, errW_none, errW_some] <;> rfl), by first | exact Kd.R_nil _ _ _ _ _ | exact Kd.N_nil _ _ _ _ _ | exact Kd.V_nil _ _ _ _ _ | exact Kd.Q_nil _ _ _ _ _ | exact Kd.S_nil _ _ _ _ _, Kp.kpL HB.out⟩
     replace c9 := Bool.eq_false_iff.mpr c9
     subst c9
     have H1 : (impl_Bent.l0 kj5 l0 l1 l1 (l1.length : Int) 0) = some (r1, r2, r3) := by rw [if_neg (show ¬ (false = true) by decide)] at H; exact H
     clear H
     have H := H1
     clear H1
     have H' := Kp.a H
     clear H
     go_wp2
     go_loopg [40] kj5 (fun kq v40 w' => ∃ (x40_3 : Int), v40 = .int .i64 x40_3 ∧ Aside0 (impl_Bent.l0 kq l0 l1 l1 (l1.length : Int) x40_3 = some (r1, r2, r3)) ∧ Aside0 (kq ≤ kj5) ∧ Aside0 (Below w.heap.size w w'))
     case atStart => exact ⟨(0), (by first | rfl | (simp; done) | (simp [*]; done)), H', ⟨Nat.le_refl _⟩, ⟨Kp.kpL HB.out⟩⟩
     case round =>
      clear H'
      try clear c1
      try clear p2
      try clear c4
      try clear c4b0
      try clear c4b1
      try clear c5
      try clear p6
      try clear c8
      try clear c9
      try clear p2
      try clear p6
      obtain ⟨x40_3, rfl, HA, HK3, HB⟩ := hrel
      cases gk with
      | zero => exact absurd HA.out (by simp [impl_Bent.l0])
      | succ k3 =>
       have H := HA.out
       clear HA
       simp only [impl_Bent.l0] at H
       by_cases c10 : x40_3 < (l1.length : Int)
       ·rw [if_pos c10] at H
        have c10b0 : decide (x40_3 < (l1.length : Int)) = true := decide_eq_true c10
        clear c10
        by_cases c11 : 0 ≤ x40_3
        rotate_left
        ·rw [if_neg c11] at H
         exact absurd H (by simp)
        rw [if_pos c11] at H
        have c11b0 : decide (0 ≤ x40_3) = true := decide_eq_true c11
        clear c11
        by_cases c12 : x40_3 < (l1.length : Int)
        rotate_left
        ·rw [if_neg c12] at H
         exact absurd H (by simp)
        rw [if_pos c12] at H
        have c12b0 : decide (x40_3 < (l1.length : Int)) = true := decide_eq_true c12
        clear c12
        by_cases c13 : (rd l1 x40_3) < (-1)
        ·rw [if_pos c13] at H
         have c13b0 : decide ((rd l1 x40_3) < (-1)) = true := decide_eq_true c13
         clear c13
         simp only [Option.some.injEq, Prod.mk.injEq] at H
         obtain ⟨rfl, rfl, rfl⟩ := H
         have p225 : 0 ≤ (x40_3 : Int) := Kp.d
         have q225 : x40_3 < (l1.length : Int) := Kp.d
         obtain ⟨ad225, e225, hx225_0⟩ := Kd.at_int HR1.out x40_3 p225 q225
         cases e225
         replace hx225_0 := (HB.out.cell (World.block_lt_of_cell? w _ hx225_0)).trans hx225_0
         replace p225 := eq_true p225
         replace q225 := eq_true q225
         go_wp2
         go_ret3
         exact ⟨_, by first | rfl | (simp [errW_none, errW_some] <;> rfl) | (simp [*, errW_none, errW_some] <;> rfl), by first | exact Kd.R_nil _ _ _ _ _ | exact Kd.N_nil _ _ _ _ _ | exact Kd.V_nil _ _ _ _ _ | exact Kd.Q_nil _ _ _ _ _ | exact Kd.S_nil _ _ _ _ _, Kp.kpL HB.out⟩
        rw [if_neg c13] at H
        have c13b0 : decide ((rd l1 x40_3) < (-1)) = false := decide_eq_false c13
        clear c13
        by_cases c14 : (rd l1 x40_3) > 1
        ·rw [if_pos c14] at H
         have c14b0 : decide (1 < (rd l1 x40_3)) = true := decide_eq_true c14
         clear c14
         simp only [Option.some.injEq, Prod.mk.injEq] at H
         obtain ⟨rfl, rfl, rfl⟩ := H
         have p225 : 0 ≤ (x40_3 : Int) := Kp.d
         have q225 : x40_3 < (l1.length : Int) := Kp.d
         obtain ⟨ad225, e225, hx225_0⟩ := Kd.at_int HR1.out x40_3 p225 q225
         cases e225
         replace hx225_0 := (HB.out.cell (World.block_lt_of_cell? w _ hx225_0)).trans hx225_0
         replace p225 := eq_true p225
         replace q225 := eq_true q225
         go_wp2
         go_ret3
         exact ⟨_, by first | rfl | (simp [errW_none, errW_some] <;> rfl) | (simp [*, errW_none, errW_some] <;> rfl), by first | exact Kd.R_nil _ _ _ _ _ | exact Kd.N_nil _ _ _ _ _ | exact Kd.V_nil _ _ _ _ _ | exact Kd.Q_nil _ _ _ _ _ | exact Kd.S_nil _ _ _ _ _, Kp.kpL HB.out⟩
        rw [if_neg c14] at H
        have c14b0 : decide (1 < (rd l1 x40_3)) = false := decide_eq_false c14
        clear c14
        have H' := Kp.a H
        clear H
        have p225 : 0 ≤ (x40_3 : Int) := Kp.d
        have q225 : x40_3 < (l1.length : Int) := Kp.d
        obtain ⟨ad225, e225, hx225_0⟩ := Kd.at_int HR1.out x40_3 p225 q225
        cases e225
        replace hx225_0 := (HB.out.cell (World.block_lt_of_cell? w _ hx225_0)).trans hx225_0
        replace p225 := eq_true p225
        replace q225 := eq_true q225
        go_wp2
        go_roundg k3
        case measure => have := HJ2.out; have := HJ5.out; have := HK3.out; omega
        case rel => exact ⟨(wrap64 (x40_3 + 1)), (by first | rfl | (simp; done) | (simp [*]; done)), H', ⟨by have := HJ2.out; have := HJ5.out; have := HK3.out; omega⟩, ⟨Kp.kpL HB.out⟩⟩
       rw [if_neg c10] at H
       have c10b0 : decide (x40_3 < (l1.length : Int)) = false := decide_eq_false c10
       clear c10
       obtain ⟨y226, hy226⟩ : ∃ y_ : List (S34), y_ = (([(⟨0, 0⟩ : S34)] : List (S34))) := ⟨_, rfl⟩
       replace H : (impl_Bent.l1 k3 l0 l1 1 0 y226 l0 (l0.length : Int) 0) = some (r1, r2, r3) := by first | (rw [hy226]; with_reducible exact H) | (have H2_ := (Option.bind_some _ _).symm.trans H; rw [hy226]; with_reducible exact H2_) | (have H2_ := (Option.bind_some _ _).symm.trans H; with_reducible exact H2_) | with_reducible exact H | (rw [hy226]; exact H) | exact H
       have Ny226 := Kp.a hy226
       clear hy226
       have H' := Kp.a H
       clear H
       go_wp2_with (first | ((with_reducible refine gate_dst (N := 52) rfl ?_); (try (refine gate_guard (by rfl) ?_; dsimp only)); refine Kd.R_lit k34 _ 34 ?hg (N := 52) ?hd (xs := ([(⟨0, 0⟩ : S34)] : List (S34))) (inner := [.int .i64 0, .int .i64 0]) (ok := fun _ => True) (okp := fun _ => True) ?hr ?hp (fun _ hk => hk) trivial (Below.refl _ _) (Nat.le_refl _) (by simp) ?_; (case hd => rfl); (case hg => rfl); (case hr => first | (go_simp; done) | (go_simp; rfl)); (case hp => exact (Reps.c2 (show Kd.M k34 _ _ _ (⟨0, 0⟩ : S34) [.int .i64 0, .int .i64 0] from (k34_mkM _ _ _ (⟨0, 0⟩ : S34) )) (Reps.none _ _))); intro v227 w15 ho16 hb hg_ hnew_; clear hg_ hnew_; (first | rw [← Ny226.out] at ho16 | (simp only [Int.reduceToNat] at ho16; rw [← Ny226.out] at ho16)); have n0_ := Kp.a (Kd.R_lower ho16 (below_size (Kp.kpL HB.out))); have n1_ := Kp.a (below_step (Kp.kpL HB.out) hb); clear HB; have HO228 := n0_; have HB := n1_; clear n0_ n1_; clear hb ho16))
       go_loopg [9, 10, 11, 55] k3 (fun kq v9 v10 v11 v55 w' => ∃ (x9_4 : Int) (x10_4 : Int) (x11_4 : List (S34)) (x55_4 : Int), v9 = .int .i64 x9_4 ∧ v10 = .int .i64 x10_4 ∧ v55 = .int .i64 x55_4 ∧ Aside0 (impl_Bent.l1 kq l0 l1 x9_4 x10_4 x11_4 l0 (l0.length : Int) x55_4 = some (r1, r2, r3)) ∧ Aside0 (kq ≤ k3) ∧ Aside0 (Kd.R k34 34 w' w.heap.size (fun _ => True) v11 x11_4) ∧ Aside0 (Below w.heap.size w w'))
       case atStart => exact ⟨(1), (0), (y226), (0), (by first | rfl | (simp; done) | (simp [*]; done)), (by first | rfl | (simp; done) | (simp [*]; done)), (by first | rfl | (simp; done) | (simp [*]; done)), H', ⟨Nat.le_refl _⟩, ⟨Kp.kpR HO228.out⟩, ⟨Kp.kpL HB.out⟩⟩
       case round =>
        clear H'
        try clear c1
        try clear c2
        try clear p2
        try clear q2
        try clear hx2
        try clear c4
        try clear c4b0
        try clear c4b1
        try clear c5
        try clear p6
        try clear c8
        try clear c9
        try clear c10
        try clear c10b0
        try clear c11
        try clear c11b0
        try clear c12
        try clear c12b0
        try clear c13
        try clear c13b0
        try clear c14
        try clear c14b0
        try clear hx225_0
        try clear p2
        try clear p225
        try clear p6
        try clear q225
        obtain ⟨x9_4, x10_4, x11_4, x55_4, rfl, rfl, rfl, HA, HK4, HO_11, HB⟩ := hrel
        cases gk with
        | zero => exact absurd HA.out (by simp [impl_Bent.l1])
        | succ k4 =>
         have H := HA.out
         clear HA
         simp only [impl_Bent.l1] at H
         by_cases c17 : x55_4 < (l0.length : Int)
         ·rw [if_pos c17] at H
          have c17b0 : decide (x55_4 < (l0.length : Int)) = true := decide_eq_true c17
          clear c17
          by_cases c18 : 0 ≤ x55_4
          rotate_left
          ·rw [if_neg c18] at H
           exact absurd H (by simp)
          rw [if_pos c18] at H
          have c18b0 : decide (0 ≤ x55_4) = true := decide_eq_true c18
          clear c18
          by_cases c19 : x55_4 < (l0.length : Int)
          rotate_left
          ·rw [if_neg c19] at H
           exact absurd H (by simp)
          rw [if_pos c19] at H
          have c19b0 : decide (x55_4 < (l0.length : Int)) = true := decide_eq_true c19
          clear c19
          by_cases c20 : x55_4 > 0
          rotate_left
          ·rw [if_neg c20] at H
           have c20b0 : decide (0 < x55_4) = false := decide_eq_false c20
           clear c20
           obtain ⟨ji50, hji50⟩ : ∃ j_ : Int, (wrap64 ((x11_4.length : Int) - 1)) = j_ := ⟨_, rfl⟩
           replace H : (if 0 ≤ (ji50) then (if (ji50) < (x11_4.length : Int) then (if x11_4.length < 8796093022208 then (impl_Bent.l1 k4 l0 l1 x9_4 x10_4 (x11_4 ++ [(⟨wrap64 (((rd_T34 x11_4 (ji50)).f0) + (wrap64 (x9_4 * (rd l0 x55_4)))), wrap64 (((rd_T34 x11_4 (ji50)).f1) + (wrap64 (x10_4 * (rd l0 x55_4))))⟩ : S34)]) l0 (l0.length : Int) (wrap64 (x55_4 + 1))) else (none)) else (none)) else (none)) = some (r1, r2, r3) := by first | (rw [hji50] at H; exact H) | (simp only [hji50] at H ⊢; exact H)
           have hji50w : (IntKind.i64.wrap ((x11_4.length : Int) - 1)) = ji50 := (i64_w _).trans hji50
           by_cases c51 : 0 ≤ (ji50)
           rotate_left
           ·rw [if_neg c51] at H
            exact absurd H (by simp)
           rw [if_pos c51] at H
           have c51b0 : decide (0 ≤ (ji50)) = true := decide_eq_true c51
           clear c51
           by_cases c52 : (ji50) < (x11_4.length : Int)
           rotate_left
           ·rw [if_neg c52] at H
            exact absurd H (by simp)
           rw [if_pos c52] at H
           have c52b0 : decide ((ji50) < (x11_4.length : Int)) = true := decide_eq_true c52
           clear c52
           by_cases c53 : x11_4.length < 8796093022208
           rotate_left
           ·rw [if_neg c53] at H
            exact absurd H (by simp)
           rw [if_pos c53] at H
           have LMc53 := Kp.a c53
           clear c53
           obtain ⟨y248, hy248⟩ : ∃ y_ : List (S34), y_ = (x11_4 ++ [(⟨wrap64 (((rd_T34 x11_4 (ji50)).f0) + (wrap64 (x9_4 * (rd l0 x55_4)))), wrap64 (((rd_T34 x11_4 (ji50)).f1) + (wrap64 (x10_4 * (rd l0 x55_4))))⟩ : S34)]) := ⟨_, rfl⟩
           replace H : (impl_Bent.l1 k4 l0 l1 x9_4 x10_4 y248 l0 (l0.length : Int) (wrap64 (x55_4 + 1))) = some (r1, r2, r3) := by first | (rw [hy248]; with_reducible exact H) | (have H2_ := (Option.bind_some _ _).symm.trans H; rw [hy248]; with_reducible exact H2_) | (have H2_ := (Option.bind_some _ _).symm.trans H; with_reducible exact H2_) | with_reducible exact H | (rw [hy248]; exact H) | exact H
           have Ny248 := Kp.a hy248
           clear hy248
           have H' := Kp.a H
           clear H
           have p229 : 0 ≤ (x55_4 : Int) := Kp.d
           have q229 : x55_4 < (l0.length : Int) := Kp.d
           obtain ⟨ad229, e229, hx229_0⟩ := Kd.at_int HR0.out x55_4 p229 q229
           cases e229
           replace hx229_0 := (HB.out.cell (World.block_lt_of_cell? w _ hx229_0)).trans hx229_0
           replace p229 := eq_true p229
           replace q229 := eq_true q229
           obtain ⟨Ao54, co54, eo54⟩ := Kd.R_slice HO_11.out
           subst eo54
           have p246 : 0 ≤ ((ji50) : Int) := Kp.d
           have q246 : (ji50) < (x11_4.length : Int) := Kp.d
           obtain ⟨ad246, e246, hx246_0, hx246_1⟩ := at_T34 (Kd.R_reads' HO_11.out).2.2 (ji50) p246 q246
           cases e246
           replace p246 := eq_true p246
           replace q246 := eq_true q246
           go_wp2_with (first | ((with_reducible refine gate_dst (N := 14) rfl ?_); (try (refine gate_guard (by rfl) ?_; dsimp only)); refine box_event ?hg (N := 14) ?hd (cs := #[.int .i64 0, .int .i64 0]) (t := 34) ?hr ?_; (case hd => rfl); (case hg => rfl); (case hr => first | (go_simp; done) | (go_simp; rfl)); intro gb247 hg w55 hbox hb; have n0_ := Kp.a (Kd.R_below (Kd.R_elderB (Kp.kpR HO_11.out) gb247 (Nat.le_of_eq hg.symm)) hb); have n1_ := Kp.a (below_step (Kp.kpL HB.out) hb); have n2_ := Kp.a (hbox); have n3_ := Kp.a ((by rw [hg]; exact (below_size (Kp.kpL HB.out)) : w.heap.size ≤ gb247)); have n4_ := Kp.a ((by rw [hg]; exact (below_size (Kp.kpL HB.out)) : w.heap.size ≤ gb247)); clear HO_11; clear HB; have HO_11 := n0_; have HB := n1_; have BK247 := n2_; have GW247 := n3_; have GE247 := n4_; clear n0_ n1_ n2_ n3_ n4_; clear hb hbox hg; have hcz56_0 : w55.cell? ⟨gb247, 0, none⟩ = some (.int .i64 0) := (blk_cell BK247.out 0).trans rfl; have hcz56_1 : w55.cell? ⟨gb247, 1, none⟩ = some (.int .i64 0) := (blk_cell BK247.out 1).trans rfl; have hfz56_0 := blk_frozen BK247.out 0; have hfz56_1 := blk_frozen BK247.out 1) | ((with_reducible refine gate_builtin (b := .append) (xs := #[.tmp 83, .tmp 97]) rfl ?_); (try (refine gate_guard (by rfl) ?_; dsimp only)); at_builtin; refine Kd.R_append k34 (w0 := w) w.heap.size rfl (.tmp 83) (.tmp 97) 24 34 (.agg #[(.int .i64 0), (.int .i64 0)]) 16 rfl Try.underlying24 info34 rfl (by decide) (by omega) (.slice (some ad246) x11_4.length co54) x11_4 (⟨wrap64 (((rd_T34 x11_4 (ji50)).f0) + (wrap64 (x9_4 * (rd l0 x55_4)))), wrap64 (((rd_T34 x11_4 (ji50)).f1) + (wrap64 (x10_4 * (rd l0 x55_4))))⟩ : S34) [.int .i64 (wrap64 (((rd_T34 x11_4 (ji50)).f0) + (wrap64 (x9_4 * (rd l0 x55_4))))), .int .i64 (wrap64 (((rd_T34 x11_4 (ji50)).f1) + (wrap64 (x10_4 * (rd l0 x55_4)))))] (fun k_ => k_ ≠ gb247) (fun _ => False) rfl (by first | (go_simp; done) | (go_simp; rfl)) ?aP (fun _ hk => hk.elim) ?aF ?aO ?aB ?aS ?aL ?_; (case aP => exact k34_mkM _ _ _ (⟨wrap64 (((rd_T34 x11_4 (ji50)).f0) + (wrap64 (x9_4 * (rd l0 x55_4)))), wrap64 (((rd_T34 x11_4 (ji50)).f1) + (wrap64 (x10_4 * (rd l0 x55_4))))⟩ : S34)); (case aB => exact (by repeat (first | (with_reducible first | exact HB.out | apply below_alloc | apply pw_below_drewN | apply below_drew1 | refine below_set ?_ GE247.out) | exact HB.out))); (case aF => exact (fun k_ hk => Kd.freshB (g := gb247) (o := .cells #[.int .i64 ((rd_T34 x11_4 (ji50)).f0), .int .i64 ((rd_T34 x11_4 (ji50)).f1)] 34 (0, 0)) (by (with_reducible repeat (first | refine blk_drewN ?_ _ | refine blk_drew ?_ | refine blk_alloc ?_ _)); refine blk_put (cs := #[.int .i64 ((rd_T34 x11_4 (ji50)).f0), .int .i64 0]) ?_ 1 _ rfl; (with_reducible repeat (first | refine blk_drewN ?_ _ | refine blk_drew ?_ | refine blk_alloc ?_ _)); refine blk_put (cs := #[.int .i64 0, .int .i64 0]) ?_ 0 _ rfl; (with_reducible repeat (first | refine blk_drewN ?_ _ | refine blk_drew ?_ | refine blk_alloc ?_ _)); exact BK247.out) k_ hk)); (case aO => exact (Kp.kpR (Kd.R_mono (Kd.R_far (p := ⟨gb247, 1, none⟩) (Kd.R_far (p := ⟨gb247, 0, none⟩) (Kd.R_mono HO_11.out (fun k_ hk => (⟨hk, hk.2⟩ : _ ∧ k_ ≠ gb247))) (fun _ hk => hk.2) (.int .i64 ((rd_T34 x11_4 (ji50)).f0))) (fun _ hk => hk.2) (.int .i64 ((rd_T34 x11_4 (ji50)).f1))) (fun _ hk => hk.1.2)))); (case aS => exact (below_size (by repeat (first | (with_reducible first | exact HB.out | apply below_alloc | apply pw_below_drewN | apply below_drew1 | refine below_set ?_ GE247.out) | exact HB.out)))); (case aL => have := LMc53.out; omega); intro v249 w57 ho hb hg hat; rw [← Ny248.out] at ho; have n0_ := Kp.a (blk_grown (g := gb247) (o := .cells #[.int .i64 ((rd_T34 x11_4 (ji50)).f0), .int .i64 ((rd_T34 x11_4 (ji50)).f1)] 34 (0, 0)) (by (with_reducible repeat (first | refine blk_drewN ?_ _ | refine blk_drew ?_ | refine blk_alloc ?_ _)); refine blk_put (cs := #[.int .i64 ((rd_T34 x11_4 (ji50)).f0), .int .i64 0]) ?_ 1 _ rfl; (with_reducible repeat (first | refine blk_drewN ?_ _ | refine blk_drew ?_ | refine blk_alloc ?_ _)); refine blk_put (cs := #[.int .i64 0, .int .i64 0]) ?_ 0 _ rfl; (with_reducible repeat (first | refine blk_drewN ?_ _ | refine blk_drew ?_ | refine blk_alloc ?_ _)); exact BK247.out) hg (Kd.R_away HO_11.out (fun _ hk => hk.2))); have n1_ := Kp.a (hb); have n2_ := Kp.a (ho); clear BK247; clear HB; clear HO_11; have BK247 := n0_; have HB := n1_; have HO250 := n2_; clear n0_ n1_ n2_; clear ho hb hg hat))
           go_roundg k4
           case measure => have := HJ2.out; have := HJ5.out; have := HK3.out; have := HK4.out; omega
           case rel => exact ⟨(x9_4), (x10_4), (y248), (wrap64 (x55_4 + 1)), (by first | rfl | (simp; done) | (simp [*]; done)), (by first | rfl | (simp; done) | (simp [*]; done)), (by first | rfl | (simp; done) | (simp [*]; done)), H', ⟨by have := HJ2.out; have := HJ5.out; have := HK3.out; have := HK4.out; omega⟩, ⟨Kp.kpR (Kd.R_mono HO250.out (fun _ hk => trivial))⟩, ⟨by repeat (first | (with_reducible first | exact HB.out | apply below_alloc | apply pw_below_drewN | apply below_drew1 | refine below_set ?_ GE247.out) | exact HB.out)⟩⟩
          rw [if_pos c20] at H
          have c20b0 : decide (0 < x55_4) = true := decide_eq_true c20
          clear c20
          obtain ⟨ji21, hji21⟩ : ∃ j_ : Int, (wrap64 (x55_4 - 1)) = j_ := ⟨_, rfl⟩
          replace H : (if 0 ≤ (ji21) then (if (ji21) < (l1.length : Int) then (if (rd l1 (ji21)) = 1 then (if 0 ≤ (wrap64 ((x11_4.length : Int) - 1)) then (if (wrap64 ((x11_4.length : Int) - 1)) < (x11_4.length : Int) then (if x11_4.length < 8796093022208 then (impl_Bent.l1 k4 l0 l1 (wrap64 (-x10_4)) x9_4 (x11_4 ++ [(⟨wrap64 (((rd_T34 x11_4 (wrap64 ((x11_4.length : Int) - 1))).f0) + (wrap64 ((wrap64 (-x10_4)) * (rd l0 x55_4)))), wrap64 (((rd_T34 x11_4 (wrap64 ((x11_4.length : Int) - 1))).f1) + (wrap64 (x9_4 * (rd l0 x55_4))))⟩ : S34)]) l0 (l0.length : Int) (wrap64 (x55_4 + 1))) else (none)) else (none)) else (none)) else (if (rd l1 (ji21)) = (-1) then (if 0 ≤ (wrap64 ((x11_4.length : Int) - 1)) then (if (wrap64 ((x11_4.length : Int) - 1)) < (x11_4.length : Int) then (if x11_4.length < 8796093022208 then (impl_Bent.l1 k4 l0 l1 x10_4 (wrap64 (-x9_4)) (x11_4 ++ [(⟨wrap64 (((rd_T34 x11_4 (wrap64 ((x11_4.length : Int) - 1))).f0) + (wrap64 (x10_4 * (rd l0 x55_4)))), wrap64 (((rd_T34 x11_4 (wrap64 ((x11_4.length : Int) - 1))).f1) + (wrap64 ((wrap64 (-x9_4)) * (rd l0 x55_4))))⟩ : S34)]) l0 (l0.length : Int) (wrap64 (x55_4 + 1))) else (none)) else (none)) else (none)) else (if 0 ≤ (wrap64 ((x11_4.length : Int) - 1)) then (if (wrap64 ((x11_4.length : Int) - 1)) < (x11_4.length : Int) then (if x11_4.length < 8796093022208 then (impl_Bent.l1 k4 l0 l1 x9_4 x10_4 (x11_4 ++ [(⟨wrap64 (((rd_T34 x11_4 (wrap64 ((x11_4.length : Int) - 1))).f0) + (wrap64 (x9_4 * (rd l0 x55_4)))), wrap64 (((rd_T34 x11_4 (wrap64 ((x11_4.length : Int) - 1))).f1) + (wrap64 (x10_4 * (rd l0 x55_4))))⟩ : S34)]) l0 (l0.length : Int) (wrap64 (x55_4 + 1))) else (none)) else (none)) else (none)))) else (none)) else (none)) = some (r1, r2, r3) := by first | (rw [hji21] at H; exact H) | (simp only [hji21] at H ⊢; exact H)
          have hji21w : (IntKind.i64.wrap (x55_4 - 1)) = ji21 := (i64_w _).trans hji21
          by_cases c22 : 0 ≤ (ji21)
          rotate_left
          ·rw [if_neg c22] at H
           exact absurd H (by simp)
          rw [if_pos c22] at H
          have c22b0 : decide (0 ≤ (ji21)) = true := decide_eq_true c22
          clear c22
          by_cases c23 : (ji21) < (l1.length : Int)
          rotate_left
          ·rw [if_neg c23] at H
           exact absurd H (by simp)
          rw [if_pos c23] at H
          have c23b0 : decide ((ji21) < (l1.length : Int)) = true := decide_eq_true c23
          clear c23
          by_cases c24 : (rd l1 (ji21)) = 1
          ·rw [if_pos c24] at H
           have c24b0 : ((rd l1 (ji21)) == 1) = true := beq_iff_eq.mpr c24
           have c24b1 : ((rd l1 (ji21)) != 1) = false := bne_eq_false_iff_eq.mpr c24
           clear c24
           obtain ⟨ji25, hji25⟩ : ∃ j_ : Int, (wrap64 ((x11_4.length : Int) - 1)) = j_ := ⟨_, rfl⟩
           replace H : (if 0 ≤ (ji25) then (if (ji25) < (x11_4.length : Int) then (if x11_4.length < 8796093022208 then (impl_Bent.l1 k4 l0 l1 (wrap64 (-x10_4)) x9_4 (x11_4 ++ [(⟨wrap64 (((rd_T34 x11_4 (ji25)).f0) + (wrap64 ((wrap64 (-x10_4)) * (rd l0 x55_4)))), wrap64 (((rd_T34 x11_4 (ji25)).f1) + (wrap64 (x9_4 * (rd l0 x55_4))))⟩ : S34)]) l0 (l0.length : Int) (wrap64 (x55_4 + 1))) else (none)) else (none)) else (none)) = some (r1, r2, r3) := by first | (rw [hji25] at H; exact H) | (simp only [hji25] at H ⊢; exact H)
           have hji25w : (IntKind.i64.wrap ((x11_4.length : Int) - 1)) = ji25 := (i64_w _).trans hji25
           by_cases c26 : 0 ≤ (ji25)
           rotate_left
           ·rw [if_neg c26] at H
            exact absurd H (by simp)
           rw [if_pos c26] at H
           have c26b0 : decide (0 ≤ (ji25)) = true := decide_eq_true c26
           clear c26
           by_cases c27 : (ji25) < (x11_4.length : Int)
           rotate_left
           ·rw [if_neg c27] at H
            exact absurd H (by simp)
           rw [if_pos c27] at H
           have c27b0 : decide ((ji25) < (x11_4.length : Int)) = true := decide_eq_true c27
           clear c27
           by_cases c28 : x11_4.length < 8796093022208
           rotate_left
           ·rw [if_neg c28] at H
            exact absurd H (by simp)
           rw [if_pos c28] at H
           have LMc28 := Kp.a c28
           clear c28
           obtain ⟨y233, hy233⟩ : ∃ y_ : List (S34), y_ = (x11_4 ++ [(⟨wrap64 (((rd_T34 x11_4 (ji25)).f0) + (wrap64 ((wrap64 (-x10_4)) * (rd l0 x55_4)))), wrap64 (((rd_T34 x11_4 (ji25)).f1) + (wrap64 (x9_4 * (rd l0 x55_4))))⟩ : S34)]) := ⟨_, rfl⟩
           replace H : (impl_Bent.l1 k4 l0 l1 (wrap64 (-x10_4)) x9_4 y233 l0 (l0.length : Int) (wrap64 (x55_4 + 1))) = some (r1, r2, r3) := by first | (rw [hy233]; with_reducible exact H) | (have H2_ := (Option.bind_some _ _).symm.trans H; rw [hy233]; with_reducible exact H2_) | (have H2_ := (Option.bind_some _ _).symm.trans H; with_reducible exact H2_) | with_reducible exact H | (rw [hy233]; exact H) | exact H
           have Ny233 := Kp.a hy233
           clear hy233
           have H' := Kp.a H
           clear H
           have p229 : 0 ≤ (x55_4 : Int) := Kp.d
           have q229 : x55_4 < (l0.length : Int) := Kp.d
           obtain ⟨ad229, e229, hx229_0⟩ := Kd.at_int HR0.out x55_4 p229 q229
           cases e229
           replace hx229_0 := (HB.out.cell (World.block_lt_of_cell? w _ hx229_0)).trans hx229_0
           replace p229 := eq_true p229
           replace q229 := eq_true q229
           have p230 : 0 ≤ ((ji21) : Int) := Kp.d
           have q230 : (ji21) < (l1.length : Int) := Kp.d
           obtain ⟨ad230, e230, hx230_0⟩ := Kd.at_int HR1.out (ji21) p230 q230
           cases e230
           replace hx230_0 := (HB.out.cell (World.block_lt_of_cell? w _ hx230_0)).trans hx230_0
           replace p230 := eq_true p230
           replace q230 := eq_true q230
           obtain ⟨Ao29, co29, eo29⟩ := Kd.R_slice HO_11.out
           subst eo29
           have p231 : 0 ≤ ((ji25) : Int) := Kp.d
           have q231 : (ji25) < (x11_4.length : Int) := Kp.d
           obtain ⟨ad231, e231, hx231_0, hx231_1⟩ := at_T34 (Kd.R_reads' HO_11.out).2.2 (ji25) p231 q231
           cases e231
           replace p231 := eq_true p231
           replace q231 := eq_true q231
           go_wp2_with (first | ((with_reducible refine gate_dst (N := 14) rfl ?_); (try (refine gate_guard (by rfl) ?_; dsimp only)); refine box_event ?hg (N := 14) ?hd (cs := #[.int .i64 0, .int .i64 0]) (t := 34) ?hr ?_; (case hd => rfl); (case hg => rfl); (case hr => first | (go_simp; done) | (go_simp; rfl)); intro gb232 hg w30 hbox hb; have n0_ := Kp.a (Kd.R_below (Kd.R_elderB (Kp.kpR HO_11.out) gb232 (Nat.le_of_eq hg.symm)) hb); have n1_ := Kp.a (below_step (Kp.kpL HB.out) hb); have n2_ := Kp.a (hbox); have n3_ := Kp.a ((by rw [hg]; exact (below_size (Kp.kpL HB.out)) : w.heap.size ≤ gb232)); have n4_ := Kp.a ((by rw [hg]; exact (below_size (Kp.kpL HB.out)) : w.heap.size ≤ gb232)); clear HO_11; clear HB; have HO_11 := n0_; have HB := n1_; have BK232 := n2_; have GW232 := n3_; have GE232 := n4_; clear n0_ n1_ n2_ n3_ n4_; clear hb hbox hg; have hcz31_0 : w30.cell? ⟨gb232, 0, none⟩ = some (.int .i64 0) := (blk_cell BK232.out 0).trans rfl; have hcz31_1 : w30.cell? ⟨gb232, 1, none⟩ = some (.int .i64 0) := (blk_cell BK232.out 1).trans rfl; have hfz31_0 := blk_frozen BK232.out 0; have hfz31_1 := blk_frozen BK232.out 1) | ((with_reducible refine gate_builtin (b := .append) (xs := #[.tmp 83, .tmp 97]) rfl ?_); (try (refine gate_guard (by rfl) ?_; dsimp only)); at_builtin; refine Kd.R_append k34 (w0 := w) w.heap.size rfl (.tmp 83) (.tmp 97) 24 34 (.agg #[(.int .i64 0), (.int .i64 0)]) 16 rfl Try.underlying24 info34 rfl (by decide) (by omega) (.slice (some ad231) x11_4.length co29) x11_4 (⟨wrap64 (((rd_T34 x11_4 (ji25)).f0) + (wrap64 ((wrap64 (-x10_4)) * (rd l0 x55_4)))), wrap64 (((rd_T34 x11_4 (ji25)).f1) + (wrap64 (x9_4 * (rd l0 x55_4))))⟩ : S34) [.int .i64 (wrap64 (((rd_T34 x11_4 (ji25)).f0) + (wrap64 ((wrap64 (-x10_4)) * (rd l0 x55_4))))), .int .i64 (wrap64 (((rd_T34 x11_4 (ji25)).f1) + (wrap64 (x9_4 * (rd l0 x55_4)))))] (fun k_ => k_ ≠ gb232) (fun _ => False) rfl (by first | (go_simp; done) | (go_simp; rfl)) ?aP (fun _ hk => hk.elim) ?aF ?aO ?aB ?aS ?aL ?_; (case aP => exact k34_mkM _ _ _ (⟨wrap64 (((rd_T34 x11_4 (ji25)).f0) + (wrap64 ((wrap64 (-x10_4)) * (rd l0 x55_4)))), wrap64 (((rd_T34 x11_4 (ji25)).f1) + (wrap64 (x9_4 * (rd l0 x55_4))))⟩ : S34)); (case aB => exact (by repeat (first | (with_reducible first | exact HB.out | apply below_alloc | apply pw_below_drewN | apply below_drew1 | refine below_set ?_ GE232.out) | exact HB.out))); (case aF => exact (fun k_ hk => Kd.freshB (g := gb232) (o := .cells #[.int .i64 ((rd_T34 x11_4 (ji25)).f0), .int .i64 ((rd_T34 x11_4 (ji25)).f1)] 34 (0, 0)) (by (with_reducible repeat (first | refine blk_drewN ?_ _ | refine blk_drew ?_ | refine blk_alloc ?_ _)); refine blk_put (cs := #[.int .i64 ((rd_T34 x11_4 (ji25)).f0), .int .i64 0]) ?_ 1 _ rfl; (with_reducible repeat (first | refine blk_drewN ?_ _ | refine blk_drew ?_ | refine blk_alloc ?_ _)); refine blk_put (cs := #[.int .i64 0, .int .i64 0]) ?_ 0 _ rfl; (with_reducible repeat (first | refine blk_drewN ?_ _ | refine blk_drew ?_ | refine blk_alloc ?_ _)); exact BK232.out) k_ hk)); (case aO => exact (Kp.kpR (Kd.R_mono (Kd.R_far (p := ⟨gb232, 1, none⟩) (Kd.R_far (p := ⟨gb232, 0, none⟩) (Kd.R_mono HO_11.out (fun k_ hk => (⟨hk, hk.2⟩ : _ ∧ k_ ≠ gb232))) (fun _ hk => hk.2) (.int .i64 ((rd_T34 x11_4 (ji25)).f0))) (fun _ hk => hk.2) (.int .i64 ((rd_T34 x11_4 (ji25)).f1))) (fun _ hk => hk.1.2)))); (case aS => exact (below_size (by repeat (first | (with_reducible first | exact HB.out | apply below_alloc | apply pw_below_drewN | apply below_drew1 | refine below_set ?_ GE232.out) | exact HB.out)))); (case aL => have := LMc28.out; omega); intro v234 w32 ho hb hg hat; rw [← Ny233.out] at ho; have n0_ := Kp.a (blk_grown (g := gb232) (o := .cells #[.int .i64 ((rd_T34 x11_4 (ji25)).f0), .int .i64 ((rd_T34 x11_4 (ji25)).f1)] 34 (0, 0)) (by (with_reducible repeat (first | refine blk_drewN ?_ _ | refine blk_drew ?_ | refine blk_alloc ?_ _)); refine blk_put (cs := #[.int .i64 ((rd_T34 x11_4 (ji25)).f0), .int .i64 0]) ?_ 1 _ rfl; (with_reducible repeat (first | refine blk_drewN ?_ _ | refine blk_drew ?_ | refine blk_alloc ?_ _)); refine blk_put (cs := #[.int .i64 0, .int .i64 0]) ?_ 0 _ rfl; (with_reducible repeat (first | refine blk_drewN ?_ _ | refine blk_drew ?_ | refine blk_alloc ?_ _)); exact BK232.out) hg (Kd.R_away HO_11.out (fun _ hk => hk.2))); have n1_ := Kp.a (hb); have n2_ := Kp.a (ho); clear BK232; clear HB; clear HO_11; have BK232 := n0_; have HB := n1_; have HO235 := n2_; clear n0_ n1_ n2_; clear ho hb hg hat))
           go_roundg k4
           case measure => have := HJ2.out; have := HJ5.out; have := HK3.out; have := HK4.out; omega
           case rel => exact ⟨(wrap64 (-x10_4)), (x9_4), (y233), (wrap64 (x55_4 + 1)), (by first | rfl | (simp; done) | (simp [*]; done)), (by first | rfl | (simp; done) | (simp [*]; done)), (by first | rfl | (simp; done) | (simp [*]; done)), H', ⟨by have := HJ2.out; have := HJ5.out; have := HK3.out; have := HK4.out; omega⟩, ⟨Kp.kpR (Kd.R_mono HO235.out (fun _ hk => trivial))⟩, ⟨by repeat (first | (with_reducible first | exact HB.out | apply below_alloc | apply pw_below_drewN | apply below_drew1 | refine below_set ?_ GE232.out) | exact HB.out)⟩⟩
          rw [if_neg c24] at H
          have c24b0 : ((rd l1 (ji21)) == 1) = false := beq_eq_false_iff_ne.mpr c24
          have c24b1 : ((rd l1 (ji21)) != 1) = true := bne_iff_ne.mpr c24
          by_cases c33 : (rd l1 (ji21)) = (-1)
          ·rw [if_pos c33] at H
           have c33b0 : ((rd l1 (ji21)) == (-1)) = true := beq_iff_eq.mpr c33
           have c33b1 : ((rd l1 (ji21)) != (-1)) = false := bne_eq_false_iff_eq.mpr c33
           clear c33
           obtain ⟨ji34, hji34⟩ : ∃ j_ : Int, (wrap64 ((x11_4.length : Int) - 1)) = j_ := ⟨_, rfl⟩
           replace H : (if 0 ≤ (ji34) then (if (ji34) < (x11_4.length : Int) then (if x11_4.length < 8796093022208 then (impl_Bent.l1 k4 l0 l1 x10_4 (wrap64 (-x9_4)) (x11_4 ++ [(⟨wrap64 (((rd_T34 x11_4 (ji34)).f0) + (wrap64 (x10_4 * (rd l0 x55_4)))), wrap64 (((rd_T34 x11_4 (ji34)).f1) + (wrap64 ((wrap64 (-x9_4)) * (rd l0 x55_4))))⟩ : S34)]) l0 (l0.length : Int) (wrap64 (x55_4 + 1))) else (none)) else (none)) else (none)) = some (r1, r2, r3) := by first | (rw [hji34] at H; exact H) | (simp only [hji34] at H ⊢; exact H)
           have hji34w : (IntKind.i64.wrap ((x11_4.length : Int) - 1)) = ji34 := (i64_w _).trans hji34
           by_cases c35 : 0 ≤ (ji34)
           rotate_left
           ·rw [if_neg c35] at H
            exact absurd H (by simp)
           rw [if_pos c35] at H
           have c35b0 : decide (0 ≤ (ji34)) = true := decide_eq_true c35
           clear c35
           by_cases c36 : (ji34) < (x11_4.length : Int)
           rotate_left
           ·rw [if_neg c36] at H
            exact absurd H (by simp)
           rw [if_pos c36] at H
           have c36b0 : decide ((ji34) < (x11_4.length : Int)) = true := decide_eq_true c36
           clear c36
           by_cases c37 : x11_4.length < 8796093022208
           rotate_left
           ·rw [if_neg c37] at H
            exact absurd H (by simp)
           rw [if_pos c37] at H
           have LMc37 := Kp.a c37
           clear c37
           obtain ⟨y238, hy238⟩ : ∃ y_ : List (S34), y_ = (x11_4 ++ [(⟨wrap64 (((rd_T34 x11_4 (ji34)).f0) + (wrap64 (x10_4 * (rd l0 x55_4)))), wrap64 (((rd_T34 x11_4 (ji34)).f1) + (wrap64 ((wrap64 (-x9_4)) * (rd l0 x55_4))))⟩ : S34)]) := ⟨_, rfl⟩
           replace H : (impl_Bent.l1 k4 l0 l1 x10_4 (wrap64 (-x9_4)) y238 l0 (l0.length : Int) (wrap64 (x55_4 + 1))) = some (r1, r2, r3) := by first | (rw [hy238]; with_reducible exact H) | (have H2_ := (Option.bind_some _ _).symm.trans H; rw [hy238]; with_reducible exact H2_) | (have H2_ := (Option.bind_some _ _).symm.trans H; with_reducible exact H2_) | with_reducible exact H | (rw [hy238]; exact H) | exact H
           have Ny238 := Kp.a hy238
           clear hy238
           have H' := Kp.a H
           clear H
           have p229 : 0 ≤ (x55_4 : Int) := Kp.d
           have q229 : x55_4 < (l0.length : Int) := Kp.d
           obtain ⟨ad229, e229, hx229_0⟩ := Kd.at_int HR0.out x55_4 p229 q229
           cases e229
           replace hx229_0 := (HB.out.cell (World.block_lt_of_cell? w _ hx229_0)).trans hx229_0
           replace p229 := eq_true p229
           replace q229 := eq_true q229
           have p230 : 0 ≤ ((ji21) : Int) := Kp.d
           have q230 : (ji21) < (l1.length : Int) := Kp.d
           obtain ⟨ad230, e230, hx230_0⟩ := Kd.at_int HR1.out (ji21) p230 q230
           cases e230
           replace hx230_0 := (HB.out.cell (World.block_lt_of_cell? w _ hx230_0)).trans hx230_0
           replace p230 := eq_true p230
           replace q230 := eq_true q230
           obtain ⟨Ao38, co38, eo38⟩ := Kd.R_slice HO_11.out
           subst eo38
           have p236 : 0 ≤ ((ji34) : Int) := Kp.d
           have q236 : (ji34) < (x11_4.length : Int) := Kp.d
           obtain ⟨ad236, e236, hx236_0, hx236_1⟩ := at_T34 (Kd.R_reads' HO_11.out).2.2 (ji34) p236 q236
           cases e236
           replace p236 := eq_true p236
           replace q236 := eq_true q236
           go_wp2_with (first | ((with_reducible refine gate_dst (N := 14) rfl ?_); (try (refine gate_guard (by rfl) ?_; dsimp only)); refine box_event ?hg (N := 14) ?hd (cs := #[.int .i64 0, .int .i64 0]) (t := 34) ?hr ?_; (case hd => rfl); (case hg => rfl); (case hr => first | (go_simp; done) | (go_simp; rfl)); intro gb237 hg w39 hbox hb; have n0_ := Kp.a (Kd.R_below (Kd.R_elderB (Kp.kpR HO_11.out) gb237 (Nat.le_of_eq hg.symm)) hb); have n1_ := Kp.a (below_step (Kp.kpL HB.out) hb); have n2_ := Kp.a (hbox); have n3_ := Kp.a ((by rw [hg]; exact (below_size (Kp.kpL HB.out)) : w.heap.size ≤ gb237)); have n4_ := Kp.a ((by rw [hg]; exact (below_size (Kp.kpL HB.out)) : w.heap.size ≤ gb237)); clear HO_11; clear HB; have HO_11 := n0_; have HB := n1_; have BK237 := n2_; have GW237 := n3_; have GE237 := n4_; clear n0_ n1_ n2_ n3_ n4_; clear hb hbox hg; have hcz40_0 : w39.cell? ⟨gb237, 0, none⟩ = some (.int .i64 0) := (blk_cell BK237.out 0).trans rfl; have hcz40_1 : w39.cell? ⟨gb237, 1, none⟩ = some (.int .i64 0) := (blk_cell BK237.out 1).trans rfl; have hfz40_0 := blk_frozen BK237.out 0; have hfz40_1 := blk_frozen BK237.out 1) | ((with_reducible refine gate_builtin (b := .append) (xs := #[.tmp 83, .tmp 97]) rfl ?_); (try (refine gate_guard (by rfl) ?_; dsimp only)); at_builtin; refine Kd.R_append k34 (w0 := w) w.heap.size rfl (.tmp 83) (.tmp 97) 24 34 (.agg #[(.int .i64 0), (.int .i64 0)]) 16 rfl Try.underlying24 info34 rfl (by decide) (by omega) (.slice (some ad236) x11_4.length co38) x11_4 (⟨wrap64 (((rd_T34 x11_4 (ji34)).f0) + (wrap64 (x10_4 * (rd l0 x55_4)))), wrap64 (((rd_T34 x11_4 (ji34)).f1) + (wrap64 ((wrap64 (-x9_4)) * (rd l0 x55_4))))⟩ : S34) [.int .i64 (wrap64 (((rd_T34 x11_4 (ji34)).f0) + (wrap64 (x10_4 * (rd l0 x55_4))))), .int .i64 (wrap64 (((rd_T34 x11_4 (ji34)).f1) + (wrap64 ((wrap64 (-x9_4)) * (rd l0 x55_4)))))] (fun k_ => k_ ≠ gb237) (fun _ => False) rfl (by first | (go_simp; done) | (go_simp; rfl)) ?aP (fun _ hk => hk.elim) ?aF ?aO ?aB ?aS ?aL ?_; (case aP => exact k34_mkM _ _ _ (⟨wrap64 (((rd_T34 x11_4 (ji34)).f0) + (wrap64 (x10_4 * (rd l0 x55_4)))), wrap64 (((rd_T34 x11_4 (ji34)).f1) + (wrap64 ((wrap64 (-x9_4)) * (rd l0 x55_4))))⟩ : S34)); (case aB => exact (by repeat (first | (with_reducible first | exact HB.out | apply below_alloc | apply pw_below_drewN | apply below_drew1 | refine below_set ?_ GE237.out) | exact HB.out))); (case aF => exact (fun k_ hk => Kd.freshB (g := gb237) (o := .cells #[.int .i64 ((rd_T34 x11_4 (ji34)).f0), .int .i64 ((rd_T34 x11_4 (ji34)).f1)] 34 (0, 0)) (by (with_reducible repeat (first | refine blk_drewN ?_ _ | refine blk_drew ?_ | refine blk_alloc ?_ _)); refine blk_put (cs := #[.int .i64 ((rd_T34 x11_4 (ji34)).f0), .int .i64 0]) ?_ 1 _ rfl; (with_reducible repeat (first | refine blk_drewN ?_ _ | refine blk_drew ?_ | refine blk_alloc ?_ _)); refine blk_put (cs := #[.int .i64 0, .int .i64 0]) ?_ 0 _ rfl; (with_reducible repeat (first | refine blk_drewN ?_ _ | refine blk_drew ?_ | refine blk_alloc ?_ _)); exact BK237.out) k_ hk)); (case aO => exact (Kp.kpR (Kd.R_mono (Kd.R_far (p := ⟨gb237, 1, none⟩) (Kd.R_far (p := ⟨gb237, 0, none⟩) (Kd.R_mono HO_11.out (fun k_ hk => (⟨hk, hk.2⟩ : _ ∧ k_ ≠ gb237))) (fun _ hk => hk.2) (.int .i64 ((rd_T34 x11_4 (ji34)).f0))) (fun _ hk => hk.2) (.int .i64 ((rd_T34 x11_4 (ji34)).f1))) (fun _ hk => hk.1.2)))); (case aS => exact (below_size (by repeat (first | (with_reducible first | exact HB.out | apply below_alloc | apply pw_below_drewN | apply below_drew1 | refine below_set ?_ GE237.out) | exact HB.out)))); (case aL => have := LMc37.out; omega); intro v239 w41 ho hb hg hat; rw [← Ny238.out] at ho; have n0_ := Kp.a (blk_grown (g := gb237) (o := .cells #[.int .i64 ((rd_T34 x11_4 (ji34)).f0), .int .i64 ((rd_T34 x11_4 (ji34)).f1)] 34 (0, 0)) (by (with_reducible repeat (first | refine blk_drewN ?_ _ | refine blk_drew ?_ | refine blk_alloc ?_ _)); refine blk_put (cs := #[.int .i64 ((rd_T34 x11_4 (ji34)).f0), .int .i64 0]) ?_ 1 _ rfl; (with_reducible repeat (first | refine blk_drewN ?_ _ | refine blk_drew ?_ | refine blk_alloc ?_ _)); refine blk_put (cs := #[.int .i64 0, .int .i64 0]) ?_ 0 _ rfl; (with_reducible repeat (first | refine blk_drewN ?_ _ | refine blk_drew ?_ | refine blk_alloc ?_ _)); exact BK237.out) hg (Kd.R_away HO_11.out (fun _ hk => hk.2))); have n1_ := Kp.a (hb); have n2_ := Kp.a (ho); clear BK237; clear HB; clear HO_11; have BK237 := n0_; have HB := n1_; have HO240 := n2_; clear n0_ n1_ n2_; clear ho hb hg hat))
           go_roundg k4
           case measure => have := HJ2.out; have := HJ5.out; have := HK3.out; have := HK4.out; omega
           case rel => exact ⟨(x10_4), (wrap64 (-x9_4)), (y238), (wrap64 (x55_4 + 1)), (by first | rfl | (simp; done) | (simp [*]; done)), (by first | rfl | (simp; done) | (simp [*]; done)), (by first | rfl | (simp; done) | (simp [*]; done)), H', ⟨by have := HJ2.out; have := HJ5.out; have := HK3.out; have := HK4.out; omega⟩, ⟨Kp.kpR (Kd.R_mono HO240.out (fun _ hk => trivial))⟩, ⟨by repeat (first | (with_reducible first | exact HB.out | apply below_alloc | apply pw_below_drewN | apply below_drew1 | refine below_set ?_ GE237.out) | exact HB.out)⟩⟩
          rw [if_neg c33] at H
          have c33b0 : ((rd l1 (ji21)) == (-1)) = false := beq_eq_false_iff_ne.mpr c33
          have c33b1 : ((rd l1 (ji21)) != (-1)) = true := bne_iff_ne.mpr c33
          obtain ⟨ji42, hji42⟩ : ∃ j_ : Int, (wrap64 ((x11_4.length : Int) - 1)) = j_ := ⟨_, rfl⟩
          replace H : (if 0 ≤ (ji42) then (if (ji42) < (x11_4.length : Int) then (if x11_4.length < 8796093022208 then (impl_Bent.l1 k4 l0 l1 x9_4 x10_4 (x11_4 ++ [(⟨wrap64 (((rd_T34 x11_4 (ji42)).f0) + (wrap64 (x9_4 * (rd l0 x55_4)))), wrap64 (((rd_T34 x11_4 (ji42)).f1) + (wrap64 (x10_4 * (rd l0 x55_4))))⟩ : S34)]) l0 (l0.length : Int) (wrap64 (x55_4 + 1))) else (none)) else (none)) else (none)) = some (r1, r2, r3) := by first | (rw [hji42] at H; exact H) | (simp only [hji42] at H ⊢; exact H)
          have hji42w : (IntKind.i64.wrap ((x11_4.length : Int) - 1)) = ji42 := (i64_w _).trans hji42
          by_cases c43 : 0 ≤ (ji42)
          rotate_left
          ·rw [if_neg c43] at H
           exact absurd H (by simp)
          rw [if_pos c43] at H
          have c43b0 : decide (0 ≤ (ji42)) = true := decide_eq_true c43
          clear c43
          by_cases c44 : (ji42) < (x11_4.length : Int)
          rotate_left
          ·rw [if_neg c44] at H
           exact absurd H (by simp)
          rw [if_pos c44] at H
          have c44b0 : decide ((ji42) < (x11_4.length : Int)) = true := decide_eq_true c44
          clear c44
          by_cases c45 : x11_4.length < 8796093022208
          rotate_left
          ·rw [if_neg c45] at H
           exact absurd H (by simp)
          rw [if_pos c45] at H
          have LMc45 := Kp.a c45
          clear c45
          obtain ⟨y243, hy243⟩ : ∃ y_ : List (S34), y_ = (x11_4 ++ [(⟨wrap64 (((rd_T34 x11_4 (ji42)).f0) + (wrap64 (x9_4 * (rd l0 x55_4)))), wrap64 (((rd_T34 x11_4 (ji42)).f1) + (wrap64 (x10_4 * (rd l0 x55_4))))⟩ : S34)]) := ⟨_, rfl⟩
          replace H : (impl_Bent.l1 k4 l0 l1 x9_4 x10_4 y243 l0 (l0.length : Int) (wrap64 (x55_4 + 1))) = some (r1, r2, r3) := by first | (rw [hy243]; with_reducible exact H) | (have H2_ := (Option.bind_some _ _).symm.trans H; rw [hy243]; with_reducible exact H2_) | (have H2_ := (Option.bind_some _ _).symm.trans H; with_reducible exact H2_) | with_reducible exact H | (rw [hy243]; exact H) | exact H
          have Ny243 := Kp.a hy243
          clear hy243
          have H' := Kp.a H
          clear H
          have p229 : 0 ≤ (x55_4 : Int) := Kp.d
          have q229 : x55_4 < (l0.length : Int) := Kp.d
          obtain ⟨ad229, e229, hx229_0⟩ := Kd.at_int HR0.out x55_4 p229 q229
          cases e229
          replace hx229_0 := (HB.out.cell (World.block_lt_of_cell? w _ hx229_0)).trans hx229_0
          replace p229 := eq_true p229
          replace q229 := eq_true q229
          have p230 : 0 ≤ ((ji21) : Int) := Kp.d
          have q230 : (ji21) < (l1.length : Int) := Kp.d
          obtain ⟨ad230, e230, hx230_0⟩ := Kd.at_int HR1.out (ji21) p230 q230
          cases e230
          replace hx230_0 := (HB.out.cell (World.block_lt_of_cell? w _ hx230_0)).trans hx230_0
          replace p230 := eq_true p230
          replace q230 := eq_true q230
          obtain ⟨Ao46, co46, eo46⟩ := Kd.R_slice HO_11.out
          subst eo46
          have p241 : 0 ≤ ((ji42) : Int) := Kp.d
          have q241 : (ji42) < (x11_4.length : Int) := Kp.d
          obtain ⟨ad241, e241, hx241_0, hx241_1⟩ := at_T34 (Kd.R_reads' HO_11.out).2.2 (ji42) p241 q241
          cases e241
          replace p241 := eq_true p241
          replace q241 := eq_true q241
          go_wp2_with (first | ((with_reducible refine gate_dst (N := 14) rfl ?_); (try (refine gate_guard (by rfl) ?_; dsimp only)); refine box_event ?hg (N := 14) ?hd (cs := #[.int .i64 0, .int .i64 0]) (t := 34) ?hr ?_; (case hd => rfl); (case hg => rfl); (case hr => first | (go_simp; done) | (go_simp; rfl)); intro gb242 hg w47 hbox hb; have n0_ := Kp.a (Kd.R_below (Kd.R_elderB (Kp.kpR HO_11.out) gb242 (Nat.le_of_eq hg.symm)) hb); have n1_ := Kp.a (below_step (Kp.kpL HB.out) hb); have n2_ := Kp.a (hbox); have n3_ := Kp.a ((by rw [hg]; exact (below_size (Kp.kpL HB.out)) : w.heap.size ≤ gb242)); have n4_ := Kp.a ((by rw [hg]; exact (below_size (Kp.kpL HB.out)) : w.heap.size ≤ gb242)); clear HO_11; clear HB; have HO_11 := n0_; have HB := n1_; have BK242 := n2_; have GW242 := n3_; have GE242 := n4_; clear n0_ n1_ n2_ n3_ n4_; clear hb hbox hg; have hcz48_0 : w47.cell? ⟨gb242, 0, none⟩ = some (.int .i64 0) := (blk_cell BK242.out 0).trans rfl; have hcz48_1 : w47.cell? ⟨gb242, 1, none⟩ = some (.int .i64 0) := (blk_cell BK242.out 1).trans rfl; have hfz48_0 := blk_frozen BK242.out 0; have hfz48_1 := blk_frozen BK242.out 1) | ((with_reducible refine gate_builtin (b := .append) (xs := #[.tmp 83, .tmp 97]) rfl ?_); (try (refine gate_guard (by rfl) ?_; dsimp only)); at_builtin; refine Kd.R_append k34 (w0 := w) w.heap.size rfl (.tmp 83) (.tmp 97) 24 34 (.agg #[(.int .i64 0), (.int .i64 0)]) 16 rfl Try.underlying24 info34 rfl (by decide) (by omega) (.slice (some ad241) x11_4.length co46) x11_4 (⟨wrap64 (((rd_T34 x11_4 (ji42)).f0) + (wrap64 (x9_4 * (rd l0 x55_4)))), wrap64 (((rd_T34 x11_4 (ji42)).f1) + (wrap64 (x10_4 * (rd l0 x55_4))))⟩ : S34) [.int .i64 (wrap64 (((rd_T34 x11_4 (ji42)).f0) + (wrap64 (x9_4 * (rd l0 x55_4))))), .int .i64 (wrap64 (((rd_T34 x11_4 (ji42)).f1) + (wrap64 (x10_4 * (rd l0 x55_4)))))] (fun k_ => k_ ≠ gb242) (fun _ => False) rfl (by first | (go_simp; done) | (go_simp; rfl)) ?aP (fun _ hk => hk.elim) ?aF ?aO ?aB ?aS ?aL ?_; (case aP => exact k34_mkM _ _ _ (⟨wrap64 (((rd_T34 x11_4 (ji42)).f0) + (wrap64 (x9_4 * (rd l0 x55_4)))), wrap64 (((rd_T34 x11_4 (ji42)).f1) + (wrap64 (x10_4 * (rd l0 x55_4))))⟩ : S34)); (case aB => exact (by repeat (first | (with_reducible first | exact HB.out | apply below_alloc | apply pw_below_drewN | apply below_drew1 | refine below_set ?_ GE242.out) | exact HB.out))); (case aF => exact (fun k_ hk => Kd.freshB (g := gb242) (o := .cells #[.int .i64 ((rd_T34 x11_4 (ji42)).f0), .int .i64 ((rd_T34 x11_4 (ji42)).f1)] 34 (0, 0)) (by (with_reducible repeat (first | refine blk_drewN ?_ _ | refine blk_drew ?_ | refine blk_alloc ?_ _)); refine blk_put (cs := #[.int .i64 ((rd_T34 x11_4 (ji42)).f0), .int .i64 0]) ?_ 1 _ rfl; (with_reducible repeat (first | refine blk_drewN ?_ _ | refine blk_drew ?_ | refine blk_alloc ?_ _)); refine blk_put (cs := #[.int .i64 0, .int .i64 0]) ?_ 0 _ rfl; (with_reducible repeat (first | refine blk_drewN ?_ _ | refine blk_drew ?_ | refine blk_alloc ?_ _)); exact BK242.out) k_ hk)); (case aO => exact (Kp.kpR (Kd.R_mono (Kd.R_far (p := ⟨gb242, 1, none⟩) (Kd.R_far (p := ⟨gb242, 0, none⟩) (Kd.R_mono HO_11.out (fun k_ hk => (⟨hk, hk.2⟩ : _ ∧ k_ ≠ gb242))) (fun _ hk => hk.2) (.int .i64 ((rd_T34 x11_4 (ji42)).f0))) (fun _ hk => hk.2) (.int .i64 ((rd_T34 x11_4 (ji42)).f1))) (fun _ hk => hk.1.2)))); (case aS => exact (below_size (by repeat (first | (with_reducible first | exact HB.out | apply below_alloc | apply pw_below_drewN | apply below_drew1 | refine below_set ?_ GE242.out) | exact HB.out)))); (case aL => have := LMc45.out; omega); intro v244 w49 ho hb hg hat; rw [← Ny243.out] at ho; have n0_ := Kp.a (blk_grown (g := gb242) (o := .cells #[.int .i64 ((rd_T34 x11_4 (ji42)).f0), .int .i64 ((rd_T34 x11_4 (ji42)).f1)] 34 (0, 0)) (by (with_reducible repeat (first | refine blk_drewN ?_ _ | refine blk_drew ?_ | refine blk_alloc ?_ _)); refine blk_put (cs := #[.int .i64 ((rd_T34 x11_4 (ji42)).f0), .int .i64 0]) ?_ 1 _ rfl; (with_reducible repeat (first | refine blk_drewN ?_ _ | refine blk_drew ?_ | refine blk_alloc ?_ _)); refine blk_put (cs := #[.int .i64 0, .int .i64 0]) ?_ 0 _ rfl; (with_reducible repeat (first | refine blk_drewN ?_ _ | refine blk_drew ?_ | refine blk_alloc ?_ _)); exact BK242.out) hg (Kd.R_away HO_11.out (fun _ hk => hk.2))); have n1_ := Kp.a (hb); have n2_ := Kp.a (ho); clear BK242; clear HB; clear HO_11; have BK242 := n0_; have HB := n1_; have HO245 := n2_; clear n0_ n1_ n2_; clear ho hb hg hat))
          go_roundg k4
          case measure => have := HJ2.out; have := HJ5.out; have := HK3.out; have := HK4.out; omega
          case rel => exact ⟨(x9_4), (x10_4), (y243), (wrap64 (x55_4 + 1)), (by first | rfl | (simp; done) | (simp [*]; done)), (by first | rfl | (simp; done) | (simp [*]; done)), (by first | rfl | (simp; done) | (simp [*]; done)), H', ⟨by have := HJ2.out; have := HJ5.out; have := HK3.out; have := HK4.out; omega⟩, ⟨Kp.kpR (Kd.R_mono HO245.out (fun _ hk => trivial))⟩, ⟨by repeat (first | (with_reducible first | exact HB.out | apply below_alloc | apply pw_below_drewN | apply below_drew1 | refine below_set ?_ GE242.out) | exact HB.out)⟩⟩
         rw [if_neg c17] at H
         have c17b0 : decide (x55_4 < (l0.length : Int)) = false := decide_eq_false c17
         clear c17
         have H' := Kp.a H
         clear H
         go_wp2
         go_loopg [102] k4 (fun kq v102 w' => ∃ (x102_5 : Int), v102 = .int .i64 x102_5 ∧ Aside0 (impl_Bent.l2 kq x11_4 (l0.length : Int) x102_5 = some (r1, r2, r3)) ∧ Aside0 (kq ≤ k4) ∧ Aside0 (Kd.R k34 34 w' w.heap.size (fun _ => True) u11 x11_4) ∧ Aside0 (Below w.heap.size w w'))
         case atStart => exact ⟨(0), (by first | rfl | (simp; done) | (simp [*]; done)), H', ⟨Nat.le_refl _⟩, ⟨Kp.kpR HO_11.out⟩, ⟨Kp.kpL HB.out⟩⟩
         case round =>
          clear H'
          try clear c1
          try clear c2
          try clear p2
          try clear q2
          try clear hx2
          try clear c3
          try clear c4
          try clear c4b0
          try clear c4b1
          try clear c5
          try clear p6
          try clear c8
          try clear c9
          try clear c10
          try clear c10b0
          try clear c11
          try clear c11b0
          try clear c12
          try clear c12b0
          try clear c13
          try clear c13b0
          try clear c14
          try clear c14b0
          try clear c17
          try clear c17b0
          try clear c18
          try clear c18b0
          try clear c19
          try clear c19b0
          try clear c20
          try clear c20b0
          try clear c22
          try clear c22b0
          try clear p22
          try clear q22
          try clear hx22
          try clear c23
          try clear c23b0
          try clear p23
          try clear q23
          try clear hx23
          try clear c24
          try clear c24b0
          try clear c24b1
          try clear p24
          try clear q24
          try clear hx24
          try clear c26
          try clear c26b0
          try clear c27
          try clear c27b0
          try clear c28
          try clear c33
          try clear c33b0
          try clear c33b1
          try clear c35
          try clear c35b0
          try clear c36
          try clear c36b0
          try clear c37
          try clear c41
          try clear c43
          try clear c43b0
          try clear c44
          try clear c44b0
          try clear c45
          try clear c51
          try clear c51b0
          try clear c52
          try clear c52b0
          try clear c53
          try clear hcz31_0
          try clear hcz31_1
          try clear hcz40_0
          try clear hcz40_1
          try clear hcz48_0
          try clear hcz48_1
          try clear hcz56_0
          try clear hcz56_1
          try clear hfz31_0
          try clear hfz31_1
          try clear hfz40_0
          try clear hfz40_1
          try clear hfz48_0
          try clear hfz48_1
          try clear hfz56_0
          try clear hfz56_1
          try clear hx225_0
          try clear hx229_0
          try clear hx230_0
          try clear hx231_0
          try clear hx231_1
          try clear hx236_0
          try clear hx236_1
          try clear hx241_0
          try clear hx241_1
          try clear hx246_0
          try clear hx246_1
          try clear p2
          try clear p225
          try clear p229
          try clear p230
          try clear p231
          try clear p236
          try clear p241
          try clear p246
          try clear p6
          try clear q2
          try clear q225
          try clear q229
          try clear q230
          try clear q231
          try clear q236
          try clear q241
          try clear q246
          obtain ⟨x102_5, rfl, HA, HK5, HO_11, HB⟩ := hrel
          cases gk with
          | zero => exact absurd HA.out (by simp [impl_Bent.l2])
          | succ k5 =>
           have H := HA.out
           clear HA
           simp only [impl_Bent.l2] at H
           by_cases c58 : x102_5 < (l0.length : Int)
           rotate_left
           ·rw [if_neg c58] at H
            have c58b0 : decide (x102_5 < (l0.length : Int)) = false := decide_eq_false c58
            clear c58
            simp only [Option.some.injEq, Prod.mk.injEq] at H
            obtain ⟨rfl, rfl, rfl⟩ := H
            go_wp2
            go_ret3
            exact ⟨_, by first | rfl | (simp [errW_none, errW_some] <;> rfl) | (simp [*, errW_none, errW_some] <;> rfl), Kp.kpR HO_11.out, Kp.kpL HB.out⟩
           rw [if_pos c58] at H
           have c58b0 : decide (x102_5 < (l0.length : Int)) = true := decide_eq_true c58
           clear c58
           have H' := Kp.a H
           clear H
           go_wp2
           go_loopg [16] k5 (fun kq v16 w' => ∃ (x16_6 : Int), v16 = .int .i64 x16_6 ∧ Aside0 (impl_Bent.l3 kq x11_4 x102_5 x16_6 (l0.length : Int) x102_5 = some (r1, r2, r3)) ∧ Aside0 (kq ≤ k5) ∧ Aside0 (Kd.R k34 34 w' w.heap.size (fun _ => True) u11 x11_4) ∧ Aside0 (Below w.heap.size w w'))
           case atStart => exact ⟨(0), (by first | rfl | (simp; done) | (simp [*]; done)), H', ⟨Nat.le_refl _⟩, ⟨Kp.kpR HO_11.out⟩, ⟨Kp.kpL HB.out⟩⟩
           case round =>
            clear H'
            try clear c1
            try clear c2
            try clear p2
            try clear q2
            try clear hx2
            try clear c3
            try clear c4
            try clear c4b0
            try clear c4b1
            try clear c5
            try clear p6
            try clear c8
            try clear c9
            try clear c10
            try clear c10b0
            try clear c11
            try clear c11b0
            try clear c12
            try clear c12b0
            try clear c13
            try clear c13b0
            try clear c14
            try clear c14b0
            try clear c17
            try clear c17b0
            try clear c18
            try clear c18b0
            try clear c19
            try clear c19b0
            try clear c20
            try clear c20b0
            try clear c22
            try clear c22b0
            try clear p22
            try clear q22
            try clear hx22
            try clear c23
            try clear c23b0
            try clear p23
            try clear q23
            try clear hx23
            try clear c24
            try clear c24b0
            try clear c24b1
            try clear p24
            try clear q24
            try clear hx24
            try clear c26
            try clear c26b0
            try clear c27
            try clear c27b0
            try clear c28
            try clear c33
            try clear c33b0
            try clear c33b1
            try clear c35
            try clear c35b0
            try clear c36
            try clear c36b0
            try clear c37
            try clear c41
            try clear c43
            try clear c43b0
            try clear c44
            try clear c44b0
            try clear c45
            try clear c51
            try clear c51b0
            try clear c52
            try clear c52b0
            try clear c53
            try clear c58
            try clear c58b0
            try clear hcz31_0
            try clear hcz31_1
            try clear hcz40_0
            try clear hcz40_1
            try clear hcz48_0
            try clear hcz48_1
            try clear hcz56_0
            try clear hcz56_1
            try clear hfz31_0
            try clear hfz31_1
            try clear hfz40_0
            try clear hfz40_1
            try clear hfz48_0
            try clear hfz48_1
            try clear hfz56_0
            try clear hfz56_1
            try clear hx225_0
            try clear hx229_0
            try clear hx230_0
            try clear hx231_0
            try clear hx231_1
            try clear hx236_0
            try clear hx236_1
            try clear hx241_0
            try clear hx241_1
            try clear hx246_0
            try clear hx246_1
            try clear p2
            try clear p22
            try clear p225
            try clear p229
            try clear p23
            try clear p230
            try clear p231
            try clear p236
            try clear p24
            try clear p241
            try clear p246
            try clear p6
            try clear q2
            try clear q22
            try clear q225
            try clear q229
            try clear q23
            try clear q230
            try clear q231
            try clear q236
            try clear q24
            try clear q241
            try clear q246
            obtain ⟨x16_6, rfl, HA, HK6, HO_11, HB⟩ := hrel
            cases gk with
            | zero => exact absurd HA.out (by simp [impl_Bent.l3])
            | succ k6 =>
             have H := HA.out
             clear HA
             simp only [impl_Bent.l3] at H
             by_cases c59 : x16_6 < x102_5
             rotate_left
             ·rw [if_neg c59] at H
              have c59b0 : decide (x16_6 < x102_5) = false := decide_eq_false c59
              clear c59
              have H' := Kp.a H
              clear H
              go_wp2
              go_roundg k6
              case measure => have := HJ2.out; have := HJ5.out; have := HK3.out; have := HK4.out; have := HK5.out; have := HK6.out; omega
              case rel => exact ⟨(wrap64 (x102_5 + 1)), (by first | rfl | (simp; done) | (simp [*]; done)), H', ⟨by have := HJ2.out; have := HJ5.out; have := HK3.out; have := HK4.out; have := HK5.out; have := HK6.out; omega⟩, ⟨Kp.kpR HO_11.out⟩, ⟨Kp.kpL HB.out⟩⟩
             rw [if_pos c59] at H
             have c59b0 : decide (x16_6 < x102_5) = true := decide_eq_true c59
             clear c59
             by_cases c60 : 0 ≤ x102_5
             rotate_left
             ·rw [if_neg c60] at H
              exact absurd H (by simp)
             rw [if_pos c60] at H
             have c60b0 : decide (0 ≤ x102_5) = true := decide_eq_true c60
             clear c60
             by_cases c61 : x102_5 < (x11_4.length : Int)
             rotate_left
             ·rw [if_neg c61] at H
              exact absurd H (by simp)
             rw [if_pos c61] at H
             have c61b0 : decide (x102_5 < (x11_4.length : Int)) = true := decide_eq_true c61
             clear c61
             obtain ⟨ji62, hji62⟩ : ∃ j_ : Int, (wrap64 (x102_5 + 1)) = j_ := ⟨_, rfl⟩
             replace H : (if 0 ≤ (ji62) then (if (ji62) < (x11_4.length : Int) then (if 0 ≤ x16_6 then (if x16_6 < (x11_4.length : Int) then (if 0 ≤ (wrap64 (x16_6 + 1)) then (if (wrap64 (x16_6 + 1)) < (x11_4.length : Int) then ((impl_crossing.f ((rd_T34 x11_4 x102_5).f0) ((rd_T34 x11_4 x102_5).f1) ((rd_T34 x11_4 (ji62)).f0) ((rd_T34 x11_4 (ji62)).f1) ((rd_T34 x11_4 x16_6).f0) ((rd_T34 x11_4 x16_6).f1) ((rd_T34 x11_4 (wrap64 (x16_6 + 1))).f0) ((rd_T34 x11_4 (wrap64 (x16_6 + 1))).f1)).bind fun bt255 => (if x16_6 < (wrap64 (x102_5 - 1)) then (if bt255.1 > 0 then (some (([] : List (S34)), 13, x102_5)) else (if bt255.1 > 1 then (some (([] : List (S34)), 13, x102_5)) else (impl_Bent.l3 k6 x11_4 x102_5 (wrap64 (x16_6 + 1)) (l0.length : Int) x102_5))) else (if bt255.1 > 1 then (some (([] : List (S34)), 13, x102_5)) else (impl_Bent.l3 k6 x11_4 x102_5 (wrap64 (x16_6 + 1)) (l0.length : Int) x102_5)))) else (none)) else (none)) else (none)) else (none)) else (none)) else (none)) = some (r1, r2, r3) := by first | (rw [hji62] at H; exact H) | (simp only [hji62] at H ⊢; exact H)
             have hji62w : (IntKind.i64.wrap (x102_5 + 1)) = ji62 := (i64_w _).trans hji62
             by_cases c63 : 0 ≤ (ji62)
             rotate_left
             ·rw [if_neg c63] at H
              exact absurd H (by simp)
             rw [if_pos c63] at H
             have c63b0 : decide (0 ≤ (ji62)) = true := decide_eq_true c63
             clear c63
             by_cases c64 : (ji62) < (x11_4.length : Int)
             rotate_left
             ·rw [if_neg c64] at H
              exact absurd H (by simp)
             rw [if_pos c64] at H
             have c64b0 : decide ((ji62) < (x11_4.length : Int)) = true := decide_eq_true c64
             clear c64
             by_cases c65 : 0 ≤ x16_6
             rotate_left
             ·rw [if_neg c65] at H
              exact absurd H (by simp)
             rw [if_pos c65] at H
             have c65b0 : decide (0 ≤ x16_6) = true := decide_eq_true c65
             clear c65
             by_cases c66 : x16_6 < (x11_4.length : Int)
             rotate_left
             ·rw [if_neg c66] at H
              exact absurd H (by simp)
             rw [if_pos c66] at H
             have c66b0 : decide (x16_6 < (x11_4.length : Int)) = true := decide_eq_true c66
             clear c66
             obtain ⟨ji67, hji67⟩ : ∃ j_ : Int, (wrap64 (x16_6 + 1)) = j_ := ⟨_, rfl⟩
             replace H : (if 0 ≤ (ji67) then (if (ji67) < (x11_4.length : Int) then ((impl_crossing.f ((rd_T34 x11_4 x102_5).f0) ((rd_T34 x11_4 x102_5).f1) ((rd_T34 x11_4 (ji62)).f0) ((rd_T34 x11_4 (ji62)).f1) ((rd_T34 x11_4 x16_6).f0) ((rd_T34 x11_4 x16_6).f1) ((rd_T34 x11_4 (ji67)).f0) ((rd_T34 x11_4 (ji67)).f1)).bind fun bt255 => (if x16_6 < (wrap64 (x102_5 - 1)) then (if bt255.1 > 0 then (some (([] : List (S34)), 13, x102_5)) else (if bt255.1 > 1 then (some (([] : List (S34)), 13, x102_5)) else (impl_Bent.l3 k6 x11_4 x102_5 ji67 (l0.length : Int) x102_5))) else (if bt255.1 > 1 then (some (([] : List (S34)), 13, x102_5)) else (impl_Bent.l3 k6 x11_4 x102_5 ji67 (l0.length : Int) x102_5)))) else (none)) else (none)) = some (r1, r2, r3) := by first | (rw [hji67] at H; exact H) | (simp only [hji67] at H ⊢; exact H)
             have hji67w : (IntKind.i64.wrap (x16_6 + 1)) = ji67 := (i64_w _).trans hji67
             by_cases c68 : 0 ≤ (ji67)
             rotate_left
             ·rw [if_neg c68] at H
              exact absurd H (by simp)
             rw [if_pos c68] at H
             have c68b0 : decide (0 ≤ (ji67)) = true := decide_eq_true c68
             clear c68
             by_cases c69 : (ji67) < (x11_4.length : Int)
             rotate_left
             ·rw [if_neg c69] at H
              exact absurd H (by simp)
             rw [if_pos c69] at H
             have c69b0 : decide ((ji67) < (x11_4.length : Int)) = true := decide_eq_true c69
             clear c69
             replace H := Option.bind_eq_some_iff.mp H
             obtain ⟨⟨t255, t256⟩, A700, H⟩ := H
             replace H : (if x16_6 < (wrap64 (x102_5 - 1)) then (if t255 > 0 then (some (([] : List (S34)), 13, x102_5)) else (if t255 > 1 then (some (([] : List (S34)), 13, x102_5)) else (impl_Bent.l3 k6 x11_4 x102_5 ji67 (l0.length : Int) x102_5))) else (if t255 > 1 then (some (([] : List (S34)), 13, x102_5)) else (impl_Bent.l3 k6 x11_4 x102_5 ji67 (l0.length : Int) x102_5))) = some (r1, r2, r3) := H
             have A70 := Kp.a A700
             clear A700
             by_cases c71 : x16_6 < (wrap64 (x102_5 - 1))
             rotate_left
             ·rw [if_neg c71] at H
              have c71b0 : decide (x16_6 < (wrap64 (x102_5 - 1))) = false := decide_eq_false c71
              clear c71
              by_cases c83 : t255 > 1
              ·rw [if_pos c83] at H
               have c83b0 : decide (1 < t255) = true := decide_eq_true c83
               clear c83
               simp only [Option.some.injEq, Prod.mk.injEq] at H
               obtain ⟨rfl, rfl, rfl⟩ := H
               try go_wp2
               have n0_ := Kp.a (Kd.R_drew HO_11.out)
               have n1_ := Kp.a (below_drew1 HB.out)
               clear HO_11
               clear HB
               have HO_11 := n0_
               have HB := n1_
               clear n0_ n1_
               obtain ⟨Ao85, co85, eo85⟩ := Kd.R_slice HO_11.out
               (first | subst eo85 | (injection eo85 with f1_ f2_ f3_; have f4_ := f1_.symm; have f5_ := f3_.symm; clear f1_ f2_ f3_; subst f4_; subst f5_))
               have p251 : 0 ≤ (x102_5 : Int) := Kp.d
               have q251 : x102_5 < (x11_4.length : Int) := Kp.d
               obtain ⟨ad251, e251, hx251_0, hx251_1⟩ := at_T34 (Kd.R_reads' HO_11.out).2.2 x102_5 p251 q251
               cases e251
               replace p251 := eq_true p251
               replace q251 := eq_true q251
               have p252 : 0 ≤ ((ji62) : Int) := Kp.d
               have q252 : (ji62) < (x11_4.length : Int) := Kp.d
               obtain ⟨ad252, e252, hx252_0, hx252_1⟩ := at_T34 (Kd.R_reads' HO_11.out).2.2 (ji62) p252 q252
               obtain rfl : ad251 = ad252 := (by injection e252)
               replace p252 := eq_true p252
               replace q252 := eq_true q252
               have p253 : 0 ≤ (x16_6 : Int) := Kp.d
               have q253 : x16_6 < (x11_4.length : Int) := Kp.d
               obtain ⟨ad253, e253, hx253_0, hx253_1⟩ := at_T34 (Kd.R_reads' HO_11.out).2.2 x16_6 p253 q253
               obtain rfl : ad251 = ad253 := (by injection e253)
               replace p253 := eq_true p253
               replace q253 := eq_true q253
               have p254 : 0 ≤ ((ji67) : Int) := Kp.d
               have q254 : (ji67) < (x11_4.length : Int) := Kp.d
               obtain ⟨ad254, e254, hx254_0, hx254_1⟩ := at_T34 (Kd.R_reads' HO_11.out).2.2 (ji67) p254 q254
               obtain rfl : ad251 = ad254 := (by injection e254)
               replace p254 := eq_true p254
               replace q254 := eq_true q254
               refine start_ (n := 24) (S := fun w' => w'.cell? (ad251.add ((x102_5).toNat * 2)) = some (.int .i64 ((rd_T34 x11_4 x102_5).f0)) ∧ w'.cell? ⟨(ad251.add ((x102_5).toNat * 2)).block, (ad251.add ((x102_5).toNat * 2)).off + 1, none⟩ = some (.int .i64 ((rd_T34 x11_4 x102_5).f1)) ∧ w'.cell? (ad251.add (((ji62)).toNat * 2)) = some (.int .i64 ((rd_T34 x11_4 (ji62)).f0)) ∧ w'.cell? ⟨(ad251.add (((ji62)).toNat * 2)).block, (ad251.add (((ji62)).toNat * 2)).off + 1, none⟩ = some (.int .i64 ((rd_T34 x11_4 (ji62)).f1)) ∧ w'.cell? (ad251.add ((x16_6).toNat * 2)) = some (.int .i64 ((rd_T34 x11_4 x16_6).f0)) ∧ w'.cell? ⟨(ad251.add ((x16_6).toNat * 2)).block, (ad251.add ((x16_6).toNat * 2)).off + 1, none⟩ = some (.int .i64 ((rd_T34 x11_4 x16_6).f1)) ∧ w'.cell? (ad251.add (((ji67)).toNat * 2)) = some (.int .i64 ((rd_T34 x11_4 (ji67)).f0)) ∧ w'.cell? ⟨(ad251.add (((ji67)).toNat * 2)).block, (ad251.add (((ji67)).toNat * 2)).off + 1, none⟩ = some (.int .i64 ((rd_T34 x11_4 (ji67)).f1))) (ds := []) #[false, false, false, false, false, false, false, false, false, false, false, false, false, false, false, false, false, false, false, false, false, false, false, false] (by kernel_rfl) rfl rfl ⟨hx251_0, hx251_1, hx252_0, hx252_1, hx253_0, hx253_1, hx254_0, hx254_1⟩ (fun hHeld => ?_); refine with_tabW impl_Bent.tab31 impl_Bent.bits31 (fun HT_ HW_ => ?_)
               generalize wr.drew = w84 at HO_11 HB hx251_0 hx251_1 hx252_0 hx252_1 hx253_0 hx253_1 hx254_0 hx254_1 hHeld ⊢
               refine pure_ (i := 0) (N := some 111) (v := ?_) (a' := ?_) #[true, false, false, false, false, false, false, false, false, false, false, false, false, false, false, false, false, false, false, false, false, false, false, false] rfl rfl (any_of HT_.out (by kernel_rfl)) (fun _ _ _ h => h) (Or.inl ⟨by rfl, ?_⟩) ?_ ?_
               rotate_left
               ·intro w'
                go_simp
                with_reducible rfl
               rotate_left
               ·simp only [Act.put, Kp.s0, Kp.s1, Kp.s2, i64_w, i32_w]
                rfl
               refine pure_ (i := 1) (N := some 112) (v := ?_) (a' := ?_) #[true, true, false, false, false, false, false, false, false, false, false, false, false, false, false, false, false, false, false, false, false, false, false, false] rfl rfl (any_of HT_.out (by kernel_rfl)) (fun _ _ _ h => h) (Or.inl ⟨by rfl, ?_⟩) ?_ ?_
               rotate_left
               ·intro w'
                go_simp
                with_reducible rfl
               rotate_left
               ·simp only [Act.put, Kp.s0, Kp.s1, Kp.s2, i64_w, i32_w]
                rfl
               refine pure_ (i := 2) (N := some 113) (v := ?_) (a' := ?_) #[true, true, true, false, false, false, false, false, false, false, false, false, false, false, false, false, false, false, false, false, false, false, false, false] rfl rfl (any_of HT_.out (by kernel_rfl)) (fun _ _ _ h => h) (Or.inl ⟨by rfl, ?_⟩) ?_ ?_
               rotate_left
               ·intro w'
                go_simp
                with_reducible rfl
               rotate_left
               ·simp only [Act.put, Kp.s0, Kp.s1, Kp.s2, i64_w, i32_w]
                rfl
               refine pure_ (i := 4) (N := some 115) (v := ?_) (a' := ?_) #[true, true, true, false, true, false, false, false, false, false, false, false, false, false, false, false, false, false, false, false, false, false, false, false] rfl rfl (any_of HT_.out (by kernel_rfl)) (fun _ _ _ h => h) (Or.inl ⟨by rfl, ?_⟩) ?_ ?_
               rotate_left
               ·intro w'
                go_simp
                with_reducible rfl
               rotate_left
               ·simp only [Act.put, Kp.s0, Kp.s1, Kp.s2, i64_w, i32_w]
                rfl
               refine pure_ (i := 5) (N := some 116) (v := ?_) (a' := ?_) #[true, true, true, false, true, true, false, false, false, false, false, false, false, false, false, false, false, false, false, false, false, false, false, false] rfl rfl (any_of HT_.out (by kernel_rfl)) (fun _ _ _ h => h) (Or.inl ⟨by rfl, ?_⟩) ?_ ?_
               rotate_left
               ·intro w'
                go_simp
                with_reducible rfl
               rotate_left
               ·simp only [Act.put, Kp.s0, Kp.s1, Kp.s2, i64_w, i32_w]
                rfl
               refine pure_ (i := 6) (N := some 117) (v := ?_) (a' := ?_) #[true, true, true, false, true, true, true, false, false, false, false, false, false, false, false, false, false, false, false, false, false, false, false, false] rfl rfl (any_of HT_.out (by kernel_rfl)) (fun _ _ _ h => h) (Or.inl ⟨by rfl, ?_⟩) ?_ ?_
               rotate_left
               ·intro w'
                go_simp
                with_reducible rfl
               rotate_left
               ·simp only [Act.put, Kp.s0, Kp.s1, Kp.s2, i64_w, i32_w]
                rfl
               refine pure_ (i := 7) (N := some 118) (v := ?_) (a' := ?_) #[true, true, true, false, true, true, true, true, false, false, false, false, false, false, false, false, false, false, false, false, false, false, false, false] rfl rfl (any_of HT_.out (by kernel_rfl)) (fun _ _ _ h => h) (Or.inl ⟨by rfl, ?_⟩) ?_ ?_
               rotate_left
               ·intro w'
                go_simp
                with_reducible rfl
               rotate_left
               ·simp only [Act.put, Kp.s0, Kp.s1, Kp.s2, i64_w, i32_w]
                rfl
               refine pure_ (i := 9) (N := some 120) (v := ?_) (a' := ?_) #[true, true, true, false, true, true, true, true, false, true, false, false, false, false, false, false, false, false, false, false, false, false, false, false] rfl rfl (any_of HT_.out (by kernel_rfl)) (fun _ _ _ h => h) (Or.inl ⟨by rfl, ?_⟩) ?_ ?_
               rotate_left
               ·intro w'
                go_simp
                with_reducible rfl
               rotate_left
               ·simp only [Act.put, Kp.s0, Kp.s1, Kp.s2, i64_w, i32_w]
                rfl
               refine pure_ (i := 10) (N := some 121) (v := ?_) (a' := ?_) #[true, true, true, false, true, true, true, true, false, true, true, false, false, false, false, false, false, false, false, false, false, false, false, false] rfl rfl (any_of HT_.out (by kernel_rfl)) (fun _ _ _ h => h) (Or.inl ⟨by rfl, ?_⟩) ?_ ?_
               rotate_left
               ·intro w'
                go_simp
                with_reducible rfl
               rotate_left
               ·simp only [Act.put, Kp.s0, Kp.s1, Kp.s2, i64_w, i32_w]
                rfl
               refine pure_ (i := 11) (N := some 122) (v := ?_) (a' := ?_) #[true, true, true, false, true, true, true, true, false, true, true, true, false, false, false, false, false, false, false, false, false, false, false, false] rfl rfl (any_of HT_.out (by kernel_rfl)) (fun _ _ _ h => h) (Or.inl ⟨by rfl, ?_⟩) ?_ ?_
               rotate_left
               ·intro w'
                go_simp
                with_reducible rfl
               rotate_left
               ·simp only [Act.put, Kp.s0, Kp.s1, Kp.s2, i64_w, i32_w]
                rfl
               refine pure_ (i := 13) (N := some 124) (v := ?_) (a' := ?_) #[true, true, true, false, true, true, true, true, false, true, true, true, false, true, false, false, false, false, false, false, false, false, false, false] rfl rfl (any_of HT_.out (by kernel_rfl)) (fun _ _ _ h => h) (Or.inl ⟨by rfl, ?_⟩) ?_ ?_
               rotate_left
               ·intro w'
                go_simp
                with_reducible rfl
               rotate_left
               ·simp only [Act.put, Kp.s0, Kp.s1, Kp.s2, i64_w, i32_w]
                rfl
               refine pure_ (i := 14) (N := some 125) (v := ?_) (a' := ?_) #[true, true, true, false, true, true, true, true, false, true, true, true, false, true, true, false, false, false, false, false, false, false, false, false] rfl rfl (any_of HT_.out (by kernel_rfl)) (fun _ _ _ h => h) (Or.inl ⟨by rfl, ?_⟩) ?_ ?_
               rotate_left
               ·intro w'
                go_simp
                with_reducible rfl
               rotate_left
               ·simp only [Act.put, Kp.s0, Kp.s1, Kp.s2, i64_w, i32_w]
                rfl
               refine pure_ (i := 15) (N := some 126) (v := ?_) (a' := ?_) #[true, true, true, false, true, true, true, true, false, true, true, true, false, true, true, true, false, false, false, false, false, false, false, false] rfl rfl (any_of HT_.out (by kernel_rfl)) (fun _ _ _ h => h) (Or.inl ⟨by rfl, ?_⟩) ?_ ?_
               rotate_left
               ·intro w'
                go_simp
                with_reducible rfl
               rotate_left
               ·simp only [Act.put, Kp.s0, Kp.s1, Kp.s2, i64_w, i32_w]
                rfl
               refine pure_ (i := 16) (N := some 127) (v := ?_) (a' := ?_) #[true, true, true, false, true, true, true, true, false, true, true, true, false, true, true, true, true, false, false, false, false, false, false, false] rfl rfl (any_of HT_.out (by kernel_rfl)) (fun _ _ _ h => h) (Or.inl ⟨by rfl, ?_⟩) ?_ ?_
               rotate_left
               ·intro w'
                go_simp
                with_reducible rfl
               rotate_left
               ·simp only [Act.put, Kp.s0, Kp.s1, Kp.s2, i64_w, i32_w]
                rfl
               refine take_ (i := 3) (N := some 114) (v := ?_) (a' := ?_) #[true, true, true, true, true, true, true, true, false, true, true, true, false, true, true, true, true, false, false, false, false, false, false, false] rfl rfl (take_ofW HT_.out HW_.out (by kernel_rfl)) (fun _ _ _ h => h) (Or.inl ⟨by rfl, ?_⟩) hHeld ?_ ?_
               rotate_left
               ·rintro w' ⟨s0, s1, s2, s3, s4, s5, s6, s7⟩
                go_simp
                with_reducible rfl
               rotate_left
               ·simp only [Act.put, Kp.s0, Kp.s1, Kp.s2, i64_w, i32_w]
                rfl
               refine take_ (i := 8) (N := some 119) (v := ?_) (a' := ?_) #[true, true, true, true, true, true, true, true, true, true, true, true, false, true, true, true, true, false, false, false, false, false, false, false] rfl rfl (take_ofW HT_.out HW_.out (by kernel_rfl)) (fun _ _ _ h => h) (Or.inl ⟨by rfl, ?_⟩) hHeld ?_ ?_
               rotate_left
               ·rintro w' ⟨s0, s1, s2, s3, s4, s5, s6, s7⟩
                go_simp
                with_reducible rfl
               rotate_left
               ·simp only [Act.put, Kp.s0, Kp.s1, Kp.s2, i64_w, i32_w]
                rfl
               refine take_ (i := 12) (N := some 123) (v := ?_) (a' := ?_) #[true, true, true, true, true, true, true, true, true, true, true, true, true, true, true, true, true, false, false, false, false, false, false, false] rfl rfl (take_ofW HT_.out HW_.out (by kernel_rfl)) (fun _ _ _ h => h) (Or.inl ⟨by rfl, ?_⟩) hHeld ?_ ?_
               rotate_left
               ·rintro w' ⟨s0, s1, s2, s3, s4, s5, s6, s7⟩
                go_simp
                with_reducible rfl
               rotate_left
               ·simp only [Act.put, Kp.s0, Kp.s1, Kp.s2, i64_w, i32_w]
                rfl
               refine take_ (i := 17) (N := some 128) (v := ?_) (a' := ?_) #[true, true, true, true, true, true, true, true, true, true, true, true, true, true, true, true, true, true, false, false, false, false, false, false] rfl rfl (take_ofW HT_.out HW_.out (by kernel_rfl)) (fun _ _ _ h => h) (Or.inl ⟨by rfl, ?_⟩) hHeld ?_ ?_
               rotate_left
               ·rintro w' ⟨s0, s1, s2, s3, s4, s5, s6, s7⟩
                go_simp
                with_reducible rfl
               rotate_left
               ·simp only [Act.put, Kp.s0, Kp.s1, Kp.s2, i64_w, i32_w]
                rfl
               refine one_ (i := 18) (N := some 129) #[true, true, true, true, true, true, true, true, true, true, true, true, true, true, true, true, true, true, true, false, false, false, false, false] rfl rfl (one_of HT_.out (by kernel_rfl)) (by decide) (fun K hK => ?_)
               refine goes_ Try.func69 (by kernel_rfl) rfl #[.agg #[.int .i64 ((rd_T34 x11_4 x102_5).f0), .int .i64 ((rd_T34 x11_4 x102_5).f1)], .agg #[.int .i64 ((rd_T34 x11_4 (ji62)).f0), .int .i64 ((rd_T34 x11_4 (ji62)).f1)], .agg #[.int .i64 ((rd_T34 x11_4 x16_6).f0), .int .i64 ((rd_T34 x11_4 x16_6).f1)], .agg #[.int .i64 ((rd_T34 x11_4 (ji67)).f0), .int .i64 ((rd_T34 x11_4 (ji67)).f1)]] (by rfl) rfl rfl (by (try simp only [List.map_toArray, List.map_cons, List.map_nil]); first | done | (simp only [hji62, hji67]; rfl) | rfl | (simp only [List.length_drop, List.length_take]; rfl)) ?_
               with_reducible refine (impl_crossing.calls ((rd_T34 x11_4 x102_5).f0) ((rd_T34 x11_4 x102_5).f1) ((rd_T34 x11_4 (ji62)).f0) ((rd_T34 x11_4 (ji62)).f1) ((rd_T34 x11_4 x16_6).f0) ((rd_T34 x11_4 x16_6).f1) ((rd_T34 x11_4 (ji67)).f0) ((rd_T34 x11_4 (ji67)).f1) t255 t256 _ A70.out).mono ?_
               rintro e w86 ⟨v257, rfl, ho0, hb⟩
               have HS0_ := (hb.cell (World.block_lt_of_cell? _ _ (hHeld.1))).trans (hHeld.1)
               have HS1_ := (hb.cell (World.block_lt_of_cell? _ _ (hHeld.2.1))).trans (hHeld.2.1)
               have HS2_ := (hb.cell (World.block_lt_of_cell? _ _ (hHeld.2.2.1))).trans (hHeld.2.2.1)
               have HS3_ := (hb.cell (World.block_lt_of_cell? _ _ (hHeld.2.2.2.1))).trans (hHeld.2.2.2.1)
               have HS4_ := (hb.cell (World.block_lt_of_cell? _ _ (hHeld.2.2.2.2.1))).trans (hHeld.2.2.2.2.1)
               have HS5_ := (hb.cell (World.block_lt_of_cell? _ _ (hHeld.2.2.2.2.2.1))).trans (hHeld.2.2.2.2.2.1)
               have HS6_ := (hb.cell (World.block_lt_of_cell? _ _ (hHeld.2.2.2.2.2.2.1))).trans (hHeld.2.2.2.2.2.2.1)
               have HS7_ := (hb.cell (World.block_lt_of_cell? _ _ (hHeld.2.2.2.2.2.2.2))).trans (hHeld.2.2.2.2.2.2.2)
               refine ⟨_, rfl, ?_⟩
               have n0_ := Kp.a (Kd.R_below (Kp.kpR HO_11.out) hb)
               have n1_ := Kp.a (Kd.R_lower ho0 (below_size (Kp.kpL HB.out)))
               have n2_ := Kp.a (below_step (Kp.kpL HB.out) hb)
               clear HO_11
               clear HB
               have HO_11 := n0_
               have HO258 := n1_
               have HB := n2_
               clear n0_ n1_ n2_
               (try clear hb)
               (try clear hb2)
               (try clear hk)
               (try clear hi)
               (try clear ho0)
               refine hK.out _ _ ⟨HS0_, HS1_, HS2_, HS3_, HS4_, HS5_, HS6_, HS7_⟩ (fun hHeld => ?_)
               clear hK K
               refine norm_ (a' := ?_) ?_ ?_
               rotate_left
               ·show Act.put _ (some 129) _ = _
                simp only [Act.put, Kp.s0, Kp.s1, Kp.s2, i64_w, i32_w]
                rfl
               refine pure_ (i := 19) (N := some 110) (v := ?_) (a' := ?_) #[true, true, true, true, true, true, true, true, true, true, true, true, true, true, true, true, true, true, true, true, false, false, false, false] rfl rfl (any_of HT_.out (by kernel_rfl)) (fun _ _ _ h => h) (Or.inl ⟨by rfl, ?_⟩) ?_ ?_
               rotate_left
               ·intro w'
                go_simp
                with_reducible rfl
               rotate_left
               ·simp only [Act.put, Kp.s0, Kp.s1, Kp.s2, i64_w, i32_w]
                rfl
               refine pure_ (i := 20) (N := some 130) (v := ?_) (a' := ?_) #[true, true, true, true, true, true, true, true, true, true, true, true, true, true, true, true, true, true, true, true, true, false, false, false] rfl rfl (any_of HT_.out (by kernel_rfl)) (fun _ _ _ h => h) (Or.inl ⟨by rfl, ?_⟩) ?_ ?_
               rotate_left
               ·intro w'
                go_simp
                with_reducible rfl
               rotate_left
               ·simp only [Act.put, Kp.s0, Kp.s1, Kp.s2, i64_w, i32_w]
                rfl
               refine pure_ (i := 21) (N := some 131) (v := ?_) (a' := ?_) #[true, true, true, true, true, true, true, true, true, true, true, true, true, true, true, true, true, true, true, true, true, true, false, false] rfl rfl (any_of HT_.out (by kernel_rfl)) (fun _ _ _ h => h) (Or.inl ⟨by rfl, ?_⟩) ?_ ?_
               rotate_left
               ·intro w'
                go_simp
                with_reducible rfl
               rotate_left
               ·simp only [Act.put, Kp.s0, Kp.s1, Kp.s2, i64_w, i32_w]
                rfl
               refine pure_ (i := 22) (N := some 17) (v := ?_) (a' := ?_) #[true, true, true, true, true, true, true, true, true, true, true, true, true, true, true, true, true, true, true, true, true, true, true, false] rfl rfl (any_of HT_.out (by kernel_rfl)) (fun _ _ _ h => h) (Or.inl ⟨by rfl, ?_⟩) ?_ ?_
               rotate_left
               ·intro w'
                go_simp
                with_reducible rfl
               rotate_left
               ·simp only [Act.put, Kp.s0, Kp.s1, Kp.s2, i64_w, i32_w]
                rfl
               refine pure_ (i := 23) (N := some 18) (v := ?_) (a' := ?_) #[true, true, true, true, true, true, true, true, true, true, true, true, true, true, true, true, true, true, true, true, true, true, true, true] rfl rfl (any_of HT_.out (by kernel_rfl)) (fun _ _ _ h => h) (Or.inl ⟨by rfl, ?_⟩) ?_ ?_
               rotate_left
               ·intro w'
                go_simp
                with_reducible rfl
               rotate_left
               ·simp only [Act.put, Kp.s0, Kp.s1, Kp.s2, i64_w, i32_w]
                rfl
               refine done_ (done_of HT_.out (by kernel_rfl)) ?_
               try go_wp2
               go_ret3
               exact ⟨_, by first | rfl | (simp [errW_none, errW_some] <;> rfl) | (simp only [← hji62, ← hji67]; first | rfl | (simp [errW_none, errW_some] <;> rfl)) | (simp [*, errW_none, errW_some] <;> rfl), by first | exact Kd.R_nil _ _ _ _ _ | exact Kd.N_nil _ _ _ _ _ | exact Kd.V_nil _ _ _ _ _ | exact Kd.Q_nil _ _ _ _ _ | exact Kd.S_nil _ _ _ _ _, Kp.kpL HB.out⟩
              rw [if_neg c83] at H
              have c83b0 : decide (1 < t255) = false := decide_eq_false c83
              clear c83
              have H' := Kp.a H
              clear H
              try go_wp2
              have n0_ := Kp.a (Kd.R_drew HO_11.out)
              have n1_ := Kp.a (below_drew1 HB.out)
              clear HO_11
              clear HB
              have HO_11 := n0_
              have HB := n1_
              clear n0_ n1_
              obtain ⟨Ao88, co88, eo88⟩ := Kd.R_slice HO_11.out
              (first | subst eo88 | (injection eo88 with f1_ f2_ f3_; have f4_ := f1_.symm; have f5_ := f3_.symm; clear f1_ f2_ f3_; subst f4_; subst f5_))
              have p251 : 0 ≤ (x102_5 : Int) := Kp.d
              have q251 : x102_5 < (x11_4.length : Int) := Kp.d
              obtain ⟨ad251, e251, hx251_0, hx251_1⟩ := at_T34 (Kd.R_reads' HO_11.out).2.2 x102_5 p251 q251
              cases e251
              replace p251 := eq_true p251
              replace q251 := eq_true q251
              have p252 : 0 ≤ ((ji62) : Int) := Kp.d
              have q252 : (ji62) < (x11_4.length : Int) := Kp.d
              obtain ⟨ad252, e252, hx252_0, hx252_1⟩ := at_T34 (Kd.R_reads' HO_11.out).2.2 (ji62) p252 q252
              obtain rfl : ad251 = ad252 := (by injection e252)
              replace p252 := eq_true p252
              replace q252 := eq_true q252
              have p253 : 0 ≤ (x16_6 : Int) := Kp.d
              have q253 : x16_6 < (x11_4.length : Int) := Kp.d
              obtain ⟨ad253, e253, hx253_0, hx253_1⟩ := at_T34 (Kd.R_reads' HO_11.out).2.2 x16_6 p253 q253
              obtain rfl : ad251 = ad253 := (by injection e253)
              replace p253 := eq_true p253
              replace q253 := eq_true q253
              have p254 : 0 ≤ ((ji67) : Int) := Kp.d
              have q254 : (ji67) < (x11_4.length : Int) := Kp.d
              obtain ⟨ad254, e254, hx254_0, hx254_1⟩ := at_T34 (Kd.R_reads' HO_11.out).2.2 (ji67) p254 q254
              obtain rfl : ad251 = ad254 := (by injection e254)
              replace p254 := eq_true p254
              replace q254 := eq_true q254
              refine start_ (n := 24) (S := fun w' => w'.cell? (ad251.add ((x102_5).toNat * 2)) = some (.int .i64 ((rd_T34 x11_4 x102_5).f0)) ∧ w'.cell? ⟨(ad251.add ((x102_5).toNat * 2)).block, (ad251.add ((x102_5).toNat * 2)).off + 1, none⟩ = some (.int .i64 ((rd_T34 x11_4 x102_5).f1)) ∧ w'.cell? (ad251.add (((ji62)).toNat * 2)) = some (.int .i64 ((rd_T34 x11_4 (ji62)).f0)) ∧ w'.cell? ⟨(ad251.add (((ji62)).toNat * 2)).block, (ad251.add (((ji62)).toNat * 2)).off + 1, none⟩ = some (.int .i64 ((rd_T34 x11_4 (ji62)).f1)) ∧ w'.cell? (ad251.add ((x16_6).toNat * 2)) = some (.int .i64 ((rd_T34 x11_4 x16_6).f0)) ∧ w'.cell? ⟨(ad251.add ((x16_6).toNat * 2)).block, (ad251.add ((x16_6).toNat * 2)).off + 1, none⟩ = some (.int .i64 ((rd_T34 x11_4 x16_6).f1)) ∧ w'.cell? (ad251.add (((ji67)).toNat * 2)) = some (.int .i64 ((rd_T34 x11_4 (ji67)).f0)) ∧ w'.cell? ⟨(ad251.add (((ji67)).toNat * 2)).block, (ad251.add (((ji67)).toNat * 2)).off + 1, none⟩ = some (.int .i64 ((rd_T34 x11_4 (ji67)).f1))) (ds := []) #[false, false, false, false, false, false, false, false, false, false, false, false, false, false, false, false, false, false, false, false, false, false, false, false] (by kernel_rfl) rfl rfl ⟨hx251_0, hx251_1, hx252_0, hx252_1, hx253_0, hx253_1, hx254_0, hx254_1⟩ (fun hHeld => ?_); refine with_tabW impl_Bent.tab31 impl_Bent.bits31 (fun HT_ HW_ => ?_)
              generalize wr.drew = w87 at HO_11 HB hx251_0 hx251_1 hx252_0 hx252_1 hx253_0 hx253_1 hx254_0 hx254_1 hHeld ⊢
              refine pure_ (i := 0) (N := some 111) (v := ?_) (a' := ?_) #[true, false, false, false, false, false, false, false, false, false, false, false, false, false, false, false, false, false, false, false, false, false, false, false] rfl rfl (any_of HT_.out (by kernel_rfl)) (fun _ _ _ h => h) (Or.inl ⟨by rfl, ?_⟩) ?_ ?_
              rotate_left
              ·intro w'
               go_simp
               with_reducible rfl
              rotate_left
              ·simp only [Act.put, Kp.s0, Kp.s1, Kp.s2, i64_w, i32_w]
               rfl
              refine pure_ (i := 1) (N := some 112) (v := ?_) (a' := ?_) #[true, true, false, false, false, false, false, false, false, false, false, false, false, false, false, false, false, false, false, false, false, false, false, false] rfl rfl (any_of HT_.out (by kernel_rfl)) (fun _ _ _ h => h) (Or.inl ⟨by rfl, ?_⟩) ?_ ?_
              rotate_left
              ·intro w'
               go_simp
               with_reducible rfl
              rotate_left
              ·simp only [Act.put, Kp.s0, Kp.s1, Kp.s2, i64_w, i32_w]
               rfl
              refine pure_ (i := 2) (N := some 113) (v := ?_) (a' := ?_) #[true, true, true, false, false, false, false, false, false, false, false, false, false, false, false, false, false, false, false, false, false, false, false, false] rfl rfl (any_of HT_.out (by kernel_rfl)) (fun _ _ _ h => h) (Or.inl ⟨by rfl, ?_⟩) ?_ ?_
              rotate_left
              ·intro w'
               go_simp
               with_reducible rfl
              rotate_left
              ·simp only [Act.put, Kp.s0, Kp.s1, Kp.s2, i64_w, i32_w]
               rfl
              refine pure_ (i := 4) (N := some 115) (v := ?_) (a' := ?_) #[true, true, true, false, true, false, false, false, false, false, false, false, false, false, false, false, false, false, false, false, false, false, false, false] rfl rfl (any_of HT_.out (by kernel_rfl)) (fun _ _ _ h => h) (Or.inl ⟨by rfl, ?_⟩) ?_ ?_
              rotate_left
              ·intro w'
               go_simp
               with_reducible rfl
              rotate_left
              ·simp only [Act.put, Kp.s0, Kp.s1, Kp.s2, i64_w, i32_w]
               rfl
              refine pure_ (i := 5) (N := some 116) (v := ?_) (a' := ?_) #[true, true, true, false, true, true, false, false, false, false, false, false, false, false, false, false, false, false, false, false, false, false, false, false] rfl rfl (any_of HT_.out (by kernel_rfl)) (fun _ _ _ h => h) (Or.inl ⟨by rfl, ?_⟩) ?_ ?_
              rotate_left
              ·intro w'
               go_simp
               with_reducible rfl
              rotate_left
              ·simp only [Act.put, Kp.s0, Kp.s1, Kp.s2, i64_w, i32_w]
               rfl
              refine pure_ (i := 6) (N := some 117) (v := ?_) (a' := ?_) #[true, true, true, false, true, true, true, false, false, false, false, false, false, false, false, false, false, false, false, false, false, false, false, false] rfl rfl (any_of HT_.out (by kernel_rfl)) (fun _ _ _ h => h) (Or.inl ⟨by rfl, ?_⟩) ?_ ?_
              rotate_left
              ·intro w'
               go_simp
               with_reducible rfl
              rotate_left
              ·simp only [Act.put, Kp.s0, Kp.s1, Kp.s2, i64_w, i32_w]
               rfl
              refine pure_ (i := 7) (N := some 118) (v := ?_) (a' := ?_) #[true, true, true, false, true, true, true, true, false, false, false, false, false, false, false, false, false, false, false, false, false, false, false, false] rfl rfl (any_of HT_.out (by kernel_rfl)) (fun _ _ _ h => h) (Or.inl ⟨by rfl, ?_⟩) ?_ ?_
              rotate_left
              ·intro w'
               go_simp
               with_reducible rfl
              rotate_left
              ·simp only [Act.put, Kp.s0, Kp.s1, Kp.s2, i64_w, i32_w]
               rfl
              refine pure_ (i := 9) (N := some 120) (v := ?_) (a' := ?_) #[true, true, true, false, true, true, true, true, false, true, false, false, false, false, false, false, false, false, false, false, false, false, false, false] rfl rfl (any_of HT_.out (by kernel_rfl)) (fun _ _ _ h => h) (Or.inl ⟨by rfl, ?_⟩) ?_ ?_
              rotate_left
              ·intro w'
               go_simp
               with_reducible rfl
              rotate_left
              ·simp only [Act.put, Kp.s0, Kp.s1, Kp.s2, i64_w, i32_w]
               rfl
              refine pure_ (i := 10) (N := some 121) (v := ?_) (a' := ?_) #[true, true, true, false, true, true, true, true, false, true, true, false, false, false, false, false, false, false, false, false, false, false, false, false] rfl rfl (any_of HT_.out (by kernel_rfl)) (fun _ _ _ h => h) (Or.inl ⟨by rfl, ?_⟩) ?_ ?_
              rotate_left
              ·intro w'
               go_simp
               with_reducible rfl
              rotate_left
              ·simp only [Act.put, Kp.s0, Kp.s1, Kp.s2, i64_w, i32_w]
               rfl
              refine pure_ (i := 11) (N := some 122) (v := ?_) (a' := ?_) #[true, true, true, false, true, true, true, true, false, true, true, true, false, false, false, false, false, false, false, false, false, false, false, false] rfl rfl (any_of HT_.out (by kernel_rfl)) (fun _ _ _ h => h) (Or.inl ⟨by rfl, ?_⟩) ?_ ?_
              rotate_left
              ·intro w'
               go_simp
               with_reducible rfl
              rotate_left
              ·simp only [Act.put, Kp.s0, Kp.s1, Kp.s2, i64_w, i32_w]
               rfl
              refine pure_ (i := 13) (N := some 124) (v := ?_) (a' := ?_) #[true, true, true, false, true, true, true, true, false, true, true, true, false, true, false, false, false, false, false, false, false, false, false, false] rfl rfl (any_of HT_.out (by kernel_rfl)) (fun _ _ _ h => h) (Or.inl ⟨by rfl, ?_⟩) ?_ ?_
              rotate_left
              ·intro w'
               go_simp
               with_reducible rfl
              rotate_left
              ·simp only [Act.put, Kp.s0, Kp.s1, Kp.s2, i64_w, i32_w]
               rfl
              refine pure_ (i := 14) (N := some 125) (v := ?_) (a' := ?_) #[true, true, true, false, true, true, true, true, false, true, true, true, false, true, true, false, false, false, false, false, false, false, false, false] rfl rfl (any_of HT_.out (by kernel_rfl)) (fun _ _ _ h => h) (Or.inl ⟨by rfl, ?_⟩) ?_ ?_
              rotate_left
              ·intro w'
               go_simp
               with_reducible rfl
              rotate_left
              ·simp only [Act.put, Kp.s0, Kp.s1, Kp.s2, i64_w, i32_w]
               rfl
              refine pure_ (i := 15) (N := some 126) (v := ?_) (a' := ?_) #[true, true, true, false, true, true, true, true, false, true, true, true, false, true, true, true, false, false, false, false, false, false, false, false] rfl rfl (any_of HT_.out (by kernel_rfl)) (fun _ _ _ h => h) (Or.inl ⟨by rfl, ?_⟩) ?_ ?_
              rotate_left
              ·intro w'
               go_simp
               with_reducible rfl
              rotate_left
              ·simp only [Act.put, Kp.s0, Kp.s1, Kp.s2, i64_w, i32_w]
               rfl
              refine pure_ (i := 16) (N := some 127) (v := ?_) (a' := ?_) #[true, true, true, false, true, true, true, true, false, true, true, true, false, true, true, true, true, false, false, false, false, false, false, false] rfl rfl (any_of HT_.out (by kernel_rfl)) (fun _ _ _ h => h) (Or.inl ⟨by rfl, ?_⟩) ?_ ?_
              rotate_left
              ·intro w'
               go_simp
               with_reducible rfl
              rotate_left
              ·simp only [Act.put, Kp.s0, Kp.s1, Kp.s2, i64_w, i32_w]
               rfl
              refine take_ (i := 3) (N := some 114) (v := ?_) (a' := ?_) #[true, true, true, true, true, true, true, true, false, true, true, true, false, true, true, true, true, false, false, false, false, false, false, false] rfl rfl (take_ofW HT_.out HW_.out (by kernel_rfl)) (fun _ _ _ h => h) (Or.inl ⟨by rfl, ?_⟩) hHeld ?_ ?_
              rotate_left
              ·rintro w' ⟨s0, s1, s2, s3, s4, s5, s6, s7⟩
               go_simp
               with_reducible rfl
              rotate_left
              ·simp only [Act.put, Kp.s0, Kp.s1, Kp.s2, i64_w, i32_w]
               rfl
              refine take_ (i := 8) (N := some 119) (v := ?_) (a' := ?_) #[true, true, true, true, true, true, true, true, true, true, true, true, false, true, true, true, true, false, false, false, false, false, false, false] rfl rfl (take_ofW HT_.out HW_.out (by kernel_rfl)) (fun _ _ _ h => h) (Or.inl ⟨by rfl, ?_⟩) hHeld ?_ ?_
              rotate_left
              ·rintro w' ⟨s0, s1, s2, s3, s4, s5, s6, s7⟩
               go_simp
               with_reducible rfl
              rotate_left
              ·simp only [Act.put, Kp.s0, Kp.s1, Kp.s2, i64_w, i32_w]
               rfl
              refine take_ (i := 12) (N := some 123) (v := ?_) (a' := ?_) #[true, true, true, true, true, true, true, true, true, true, true, true, true, true, true, true, true, false, false, false, false, false, false, false] rfl rfl (take_ofW HT_.out HW_.out (by kernel_rfl)) (fun _ _ _ h => h) (Or.inl ⟨by rfl, ?_⟩) hHeld ?_ ?_
              rotate_left
              ·rintro w' ⟨s0, s1, s2, s3, s4, s5, s6, s7⟩
               go_simp
               with_reducible rfl
              rotate_left
              ·simp only [Act.put, Kp.s0, Kp.s1, Kp.s2, i64_w, i32_w]
               rfl
              refine take_ (i := 17) (N := some 128) (v := ?_) (a' := ?_) #[true, true, true, true, true, true, true, true, true, true, true, true, true, true, true, true, true, true, false, false, false, false, false, false] rfl rfl (take_ofW HT_.out HW_.out (by kernel_rfl)) (fun _ _ _ h => h) (Or.inl ⟨by rfl, ?_⟩) hHeld ?_ ?_
              rotate_left
              ·rintro w' ⟨s0, s1, s2, s3, s4, s5, s6, s7⟩
               go_simp
               with_reducible rfl
              rotate_left
              ·simp only [Act.put, Kp.s0, Kp.s1, Kp.s2, i64_w, i32_w]
               rfl
              refine one_ (i := 18) (N := some 129) #[true, true, true, true, true, true, true, true, true, true, true, true, true, true, true, true, true, true, true, false, false, false, false, false] rfl rfl (one_of HT_.out (by kernel_rfl)) (by decide) (fun K hK => ?_)
              refine goes_ Try.func69 (by kernel_rfl) rfl #[.agg #[.int .i64 ((rd_T34 x11_4 x102_5).f0), .int .i64 ((rd_T34 x11_4 x102_5).f1)], .agg #[.int .i64 ((rd_T34 x11_4 (ji62)).f0), .int .i64 ((rd_T34 x11_4 (ji62)).f1)], .agg #[.int .i64 ((rd_T34 x11_4 x16_6).f0), .int .i64 ((rd_T34 x11_4 x16_6).f1)], .agg #[.int .i64 ((rd_T34 x11_4 (ji67)).f0), .int .i64 ((rd_T34 x11_4 (ji67)).f1)]] (by rfl) rfl rfl (by (try simp only [List.map_toArray, List.map_cons, List.map_nil]); first | done | (simp only [hji62, hji67]; rfl) | rfl | (simp only [List.length_drop, List.length_take]; rfl)) ?_
              with_reducible refine (impl_crossing.calls ((rd_T34 x11_4 x102_5).f0) ((rd_T34 x11_4 x102_5).f1) ((rd_T34 x11_4 (ji62)).f0) ((rd_T34 x11_4 (ji62)).f1) ((rd_T34 x11_4 x16_6).f0) ((rd_T34 x11_4 x16_6).f1) ((rd_T34 x11_4 (ji67)).f0) ((rd_T34 x11_4 (ji67)).f1) t255 t256 _ A70.out).mono ?_
              rintro e w89 ⟨v257, rfl, ho0, hb⟩
              have HS0_ := (hb.cell (World.block_lt_of_cell? _ _ (hHeld.1))).trans (hHeld.1)
              have HS1_ := (hb.cell (World.block_lt_of_cell? _ _ (hHeld.2.1))).trans (hHeld.2.1)
              have HS2_ := (hb.cell (World.block_lt_of_cell? _ _ (hHeld.2.2.1))).trans (hHeld.2.2.1)
              have HS3_ := (hb.cell (World.block_lt_of_cell? _ _ (hHeld.2.2.2.1))).trans (hHeld.2.2.2.1)
              have HS4_ := (hb.cell (World.block_lt_of_cell? _ _ (hHeld.2.2.2.2.1))).trans (hHeld.2.2.2.2.1)
              have HS5_ := (hb.cell (World.block_lt_of_cell? _ _ (hHeld.2.2.2.2.2.1))).trans (hHeld.2.2.2.2.2.1)
              have HS6_ := (hb.cell (World.block_lt_of_cell? _ _ (hHeld.2.2.2.2.2.2.1))).trans (hHeld.2.2.2.2.2.2.1)
              have HS7_ := (hb.cell (World.block_lt_of_cell? _ _ (hHeld.2.2.2.2.2.2.2))).trans (hHeld.2.2.2.2.2.2.2)
              refine ⟨_, rfl, ?_⟩
              have n0_ := Kp.a (Kd.R_below (Kp.kpR HO_11.out) hb)
              have n1_ := Kp.a (Kd.R_lower ho0 (below_size (Kp.kpL HB.out)))
              have n2_ := Kp.a (below_step (Kp.kpL HB.out) hb)
              clear HO_11
              clear HB
              have HO_11 := n0_
              have HO258 := n1_
              have HB := n2_
              clear n0_ n1_ n2_
              (try clear hb)
              (try clear hb2)
              (try clear hk)
              (try clear hi)
              (try clear ho0)
              refine hK.out _ _ ⟨HS0_, HS1_, HS2_, HS3_, HS4_, HS5_, HS6_, HS7_⟩ (fun hHeld => ?_)
              clear hK K
              refine norm_ (a' := ?_) ?_ ?_
              rotate_left
              ·show Act.put _ (some 129) _ = _
               simp only [Act.put, Kp.s0, Kp.s1, Kp.s2, i64_w, i32_w]
               rfl
              refine pure_ (i := 19) (N := some 110) (v := ?_) (a' := ?_) #[true, true, true, true, true, true, true, true, true, true, true, true, true, true, true, true, true, true, true, true, false, false, false, false] rfl rfl (any_of HT_.out (by kernel_rfl)) (fun _ _ _ h => h) (Or.inl ⟨by rfl, ?_⟩) ?_ ?_
              rotate_left
              ·intro w'
               go_simp
               with_reducible rfl
              rotate_left
              ·simp only [Act.put, Kp.s0, Kp.s1, Kp.s2, i64_w, i32_w]
               rfl
              refine pure_ (i := 20) (N := some 130) (v := ?_) (a' := ?_) #[true, true, true, true, true, true, true, true, true, true, true, true, true, true, true, true, true, true, true, true, true, false, false, false] rfl rfl (any_of HT_.out (by kernel_rfl)) (fun _ _ _ h => h) (Or.inl ⟨by rfl, ?_⟩) ?_ ?_
              rotate_left
              ·intro w'
               go_simp
               with_reducible rfl
              rotate_left
              ·simp only [Act.put, Kp.s0, Kp.s1, Kp.s2, i64_w, i32_w]
               rfl
              refine pure_ (i := 21) (N := some 131) (v := ?_) (a' := ?_) #[true, true, true, true, true, true, true, true, true, true, true, true, true, true, true, true, true, true, true, true, true, true, false, false] rfl rfl (any_of HT_.out (by kernel_rfl)) (fun _ _ _ h => h) (Or.inl ⟨by rfl, ?_⟩) ?_ ?_
              rotate_left
              ·intro w'
               go_simp
               with_reducible rfl
              rotate_left
              ·simp only [Act.put, Kp.s0, Kp.s1, Kp.s2, i64_w, i32_w]
               rfl
              refine pure_ (i := 22) (N := some 17) (v := ?_) (a' := ?_) #[true, true, true, true, true, true, true, true, true, true, true, true, true, true, true, true, true, true, true, true, true, true, true, false] rfl rfl (any_of HT_.out (by kernel_rfl)) (fun _ _ _ h => h) (Or.inl ⟨by rfl, ?_⟩) ?_ ?_
              rotate_left
              ·intro w'
               go_simp
               with_reducible rfl
              rotate_left
              ·simp only [Act.put, Kp.s0, Kp.s1, Kp.s2, i64_w, i32_w]
               rfl
              refine pure_ (i := 23) (N := some 18) (v := ?_) (a' := ?_) #[true, true, true, true, true, true, true, true, true, true, true, true, true, true, true, true, true, true, true, true, true, true, true, true] rfl rfl (any_of HT_.out (by kernel_rfl)) (fun _ _ _ h => h) (Or.inl ⟨by rfl, ?_⟩) ?_ ?_
              rotate_left
              ·intro w'
               go_simp
               with_reducible rfl
              rotate_left
              ·simp only [Act.put, Kp.s0, Kp.s1, Kp.s2, i64_w, i32_w]
               rfl
              refine done_ (done_of HT_.out (by kernel_rfl)) ?_
              try go_wp2
              go_roundg k6
              case measure => have := HJ2.out; have := HJ5.out; have := HK3.out; have := HK4.out; have := HK5.out; have := HK6.out; omega
              case rel => exact ⟨(ji67), (by first | rfl | (simp; done) | (simp only [← hji67] <;> (first | rfl | simp)) | (simp [*]; done)), H', ⟨by have := HJ2.out; have := HJ5.out; have := HK3.out; have := HK4.out; have := HK5.out; have := HK6.out; omega⟩, ⟨Kp.kpR HO_11.out⟩, ⟨Kp.kpL HB.out⟩⟩
             rw [if_pos c71] at H
             have c71b0 : decide (x16_6 < (wrap64 (x102_5 - 1))) = true := decide_eq_true c71
             clear c71
             by_cases c72 : t255 > 0
             ·rw [if_pos c72] at H
              have c72b0 : decide (0 < t255) = true := decide_eq_true c72
              clear c72
              simp only [Option.some.injEq, Prod.mk.injEq] at H
              obtain ⟨rfl, rfl, rfl⟩ := H
              try go_wp2
              have n0_ := Kp.a (Kd.R_drew HO_11.out)
              have n1_ := Kp.a (below_drew1 HB.out)
              clear HO_11
              clear HB
              have HO_11 := n0_
              have HB := n1_
              clear n0_ n1_
              obtain ⟨Ao74, co74, eo74⟩ := Kd.R_slice HO_11.out
              (first | subst eo74 | (injection eo74 with f1_ f2_ f3_; have f4_ := f1_.symm; have f5_ := f3_.symm; clear f1_ f2_ f3_; subst f4_; subst f5_))
              have p251 : 0 ≤ (x102_5 : Int) := Kp.d
              have q251 : x102_5 < (x11_4.length : Int) := Kp.d
              obtain ⟨ad251, e251, hx251_0, hx251_1⟩ := at_T34 (Kd.R_reads' HO_11.out).2.2 x102_5 p251 q251
              cases e251
              replace p251 := eq_true p251
              replace q251 := eq_true q251
              have p252 : 0 ≤ ((ji62) : Int) := Kp.d
              have q252 : (ji62) < (x11_4.length : Int) := Kp.d
              obtain ⟨ad252, e252, hx252_0, hx252_1⟩ := at_T34 (Kd.R_reads' HO_11.out).2.2 (ji62) p252 q252
              obtain rfl : ad251 = ad252 := (by injection e252)
              replace p252 := eq_true p252
              replace q252 := eq_true q252
              have p253 : 0 ≤ (x16_6 : Int) := Kp.d
              have q253 : x16_6 < (x11_4.length : Int) := Kp.d
              obtain ⟨ad253, e253, hx253_0, hx253_1⟩ := at_T34 (Kd.R_reads' HO_11.out).2.2 x16_6 p253 q253
              obtain rfl : ad251 = ad253 := (by injection e253)
              replace p253 := eq_true p253
              replace q253 := eq_true q253
              have p254 : 0 ≤ ((ji67) : Int) := Kp.d
              have q254 : (ji67) < (x11_4.length : Int) := Kp.d
              obtain ⟨ad254, e254, hx254_0, hx254_1⟩ := at_T34 (Kd.R_reads' HO_11.out).2.2 (ji67) p254 q254
              obtain rfl : ad251 = ad254 := (by injection e254)
              replace p254 := eq_true p254
              replace q254 := eq_true q254
              refine start_ (n := 24) (S := fun w' => w'.cell? (ad251.add ((x102_5).toNat * 2)) = some (.int .i64 ((rd_T34 x11_4 x102_5).f0)) ∧ w'.cell? ⟨(ad251.add ((x102_5).toNat * 2)).block, (ad251.add ((x102_5).toNat * 2)).off + 1, none⟩ = some (.int .i64 ((rd_T34 x11_4 x102_5).f1)) ∧ w'.cell? (ad251.add (((ji62)).toNat * 2)) = some (.int .i64 ((rd_T34 x11_4 (ji62)).f0)) ∧ w'.cell? ⟨(ad251.add (((ji62)).toNat * 2)).block, (ad251.add (((ji62)).toNat * 2)).off + 1, none⟩ = some (.int .i64 ((rd_T34 x11_4 (ji62)).f1)) ∧ w'.cell? (ad251.add ((x16_6).toNat * 2)) = some (.int .i64 ((rd_T34 x11_4 x16_6).f0)) ∧ w'.cell? ⟨(ad251.add ((x16_6).toNat * 2)).block, (ad251.add ((x16_6).toNat * 2)).off + 1, none⟩ = some (.int .i64 ((rd_T34 x11_4 x16_6).f1)) ∧ w'.cell? (ad251.add (((ji67)).toNat * 2)) = some (.int .i64 ((rd_T34 x11_4 (ji67)).f0)) ∧ w'.cell? ⟨(ad251.add (((ji67)).toNat * 2)).block, (ad251.add (((ji67)).toNat * 2)).off + 1, none⟩ = some (.int .i64 ((rd_T34 x11_4 (ji67)).f1))) (ds := []) #[false, false, false, false, false, false, false, false, false, false, false, false, false, false, false, false, false, false, false, false, false, false, false, false] (by kernel_rfl) rfl rfl ⟨hx251_0, hx251_1, hx252_0, hx252_1, hx253_0, hx253_1, hx254_0, hx254_1⟩ (fun hHeld => ?_); refine with_tabW impl_Bent.tab31 impl_Bent.bits31 (fun HT_ HW_ => ?_)
              generalize wr.drew = w73 at HO_11 HB hx251_0 hx251_1 hx252_0 hx252_1 hx253_0 hx253_1 hx254_0 hx254_1 hHeld ⊢
              refine pure_ (i := 0) (N := some 111) (v := ?_) (a' := ?_) #[true, false, false, false, false, false, false, false, false, false, false, false, false, false, false, false, false, false, false, false, false, false, false, false] rfl rfl (any_of HT_.out (by kernel_rfl)) (fun _ _ _ h => h) (Or.inl ⟨by rfl, ?_⟩) ?_ ?_
              rotate_left
              ·intro w'
               go_simp
               with_reducible rfl
              rotate_left
              ·simp only [Act.put, Kp.s0, Kp.s1, Kp.s2, i64_w, i32_w]
               rfl
              refine pure_ (i := 1) (N := some 112) (v := ?_) (a' := ?_) #[true, true, false, false, false, false, false, false, false, false, false, false, false, false, false, false, false, false, false, false, false, false, false, false] rfl rfl (any_of HT_.out (by kernel_rfl)) (fun _ _ _ h => h) (Or.inl ⟨by rfl, ?_⟩) ?_ ?_
              rotate_left
              ·intro w'
               go_simp
               with_reducible rfl
              rotate_left
              ·simp only [Act.put, Kp.s0, Kp.s1, Kp.s2, i64_w, i32_w]
               rfl
              refine pure_ (i := 2) (N := some 113) (v := ?_) (a' := ?_) #[true, true, true, false, false, false, false, false, false, false, false, false, false, false, false, false, false, false, false, false, false, false, false, false] rfl rfl (any_of HT_.out (by kernel_rfl)) (fun _ _ _ h => h) (Or.inl ⟨by rfl, ?_⟩) ?_ ?_
              rotate_left
              ·intro w'
               go_simp
               with_reducible rfl
              rotate_left
              ·simp only [Act.put, Kp.s0, Kp.s1, Kp.s2, i64_w, i32_w]
               rfl
              refine pure_ (i := 4) (N := some 115) (v := ?_) (a' := ?_) #[true, true, true, false, true, false, false, false, false, false, false, false, false, false, false, false, false, false, false, false, false, false, false, false] rfl rfl (any_of HT_.out (by kernel_rfl)) (fun _ _ _ h => h) (Or.inl ⟨by rfl, ?_⟩) ?_ ?_
              rotate_left
              ·intro w'
               go_simp
               with_reducible rfl
              rotate_left
              ·simp only [Act.put, Kp.s0, Kp.s1, Kp.s2, i64_w, i32_w]
               rfl
              refine pure_ (i := 5) (N := some 116) (v := ?_) (a' := ?_) #[true, true, true, false, true, true, false, false, false, false, false, false, false, false, false, false, false, false, false, false, false, false, false, false] rfl rfl (any_of HT_.out (by kernel_rfl)) (fun _ _ _ h => h) (Or.inl ⟨by rfl, ?_⟩) ?_ ?_
              rotate_left
              ·intro w'
               go_simp
               with_reducible rfl
              rotate_left
              ·simp only [Act.put, Kp.s0, Kp.s1, Kp.s2, i64_w, i32_w]
               rfl
              refine pure_ (i := 6) (N := some 117) (v := ?_) (a' := ?_) #[true, true, true, false, true, true, true, false, false, false, false, false, false, false, false, false, false, false, false, false, false, false, false, false] rfl rfl (any_of HT_.out (by kernel_rfl)) (fun _ _ _ h => h) (Or.inl ⟨by rfl, ?_⟩) ?_ ?_
              rotate_left
              ·intro w'
               go_simp
               with_reducible rfl
              rotate_left
              ·simp only [Act.put, Kp.s0, Kp.s1, Kp.s2, i64_w, i32_w]
               rfl
              refine pure_ (i := 7) (N := some 118) (v := ?_) (a' := ?_) #[true, true, true, false, true, true, true, true, false, false, false, false, false, false, false, false, false, false, false, false, false, false, false, false] rfl rfl (any_of HT_.out (by kernel_rfl)) (fun _ _ _ h => h) (Or.inl ⟨by rfl, ?_⟩) ?_ ?_
              rotate_left
              ·intro w'
               go_simp
               with_reducible rfl
              rotate_left
              ·simp only [Act.put, Kp.s0, Kp.s1, Kp.s2, i64_w, i32_w]
               rfl
              refine pure_ (i := 9) (N := some 120) (v := ?_) (a' := ?_) #[true, true, true, false, true, true, true, true, false, true, false, false, false, false, false, false, false, false, false, false, false, false, false, false] rfl rfl (any_of HT_.out (by kernel_rfl)) (fun _ _ _ h => h) (Or.inl ⟨by rfl, ?_⟩) ?_ ?_
              rotate_left
              ·intro w'
               go_simp
               with_reducible rfl
              rotate_left
              ·simp only [Act.put, Kp.s0, Kp.s1, Kp.s2, i64_w, i32_w]
               rfl
              refine pure_ (i := 10) (N := some 121) (v := ?_) (a' := ?_) #[true, true, true, false, true, true, true, true, false, true, true, false, false, false, false, false, false, false, false, false, false, false, false, false] rfl rfl (any_of HT_.out (by kernel_rfl)) (fun _ _ _ h => h) (Or.inl ⟨by rfl, ?_⟩) ?_ ?_
              rotate_left
              ·intro w'
               go_simp
               with_reducible rfl
              rotate_left
              ·simp only [Act.put, Kp.s0, Kp.s1, Kp.s2, i64_w, i32_w]
               rfl
              refine pure_ (i := 11) (N := some 122) (v := ?_) (a' := ?_) #[true, true, true, false, true, true, true, true, false, true, true, true, false, false, false, false, false, false, false, false, false, false, false, false] rfl rfl (any_of HT_.out (by kernel_rfl)) (fun _ _ _ h => h) (Or.inl ⟨by rfl, ?_⟩) ?_ ?_
              rotate_left
              ·intro w'
               go_simp
               with_reducible rfl
              rotate_left
              ·simp only [Act.put, Kp.s0, Kp.s1, Kp.s2, i64_w, i32_w]
               rfl
              refine pure_ (i := 13) (N := some 124) (v := ?_) (a' := ?_) #[true, true, true, false, true, true, true, true, false, true, true, true, false, true, false, false, false, false, false, false, false, false, false, false] rfl rfl (any_of HT_.out (by kernel_rfl)) (fun _ _ _ h => h) (Or.inl ⟨by rfl, ?_⟩) ?_ ?_
              rotate_left
              ·intro w'
               go_simp
               with_reducible rfl
              rotate_left
              ·simp only [Act.put, Kp.s0, Kp.s1, Kp.s2, i64_w, i32_w]
               rfl
              refine pure_ (i := 14) (N := some 125) (v := ?_) (a' := ?_) #[true, true, true, false, true, true, true, true, false, true, true, true, false, true, true, false, false, false, false, false, false, false, false, false] rfl rfl (any_of HT_.out (by kernel_rfl)) (fun _ _ _ h => h) (Or.inl ⟨by rfl, ?_⟩) ?_ ?_
              rotate_left
              ·intro w'
               go_simp
               with_reducible rfl
              rotate_left
              ·simp only [Act.put, Kp.s0, Kp.s1, Kp.s2, i64_w, i32_w]
               rfl
              refine pure_ (i := 15) (N := some 126) (v := ?_) (a' := ?_) #[true, true, true, false, true, true, true, true, false, true, true, true, false, true, true, true, false, false, false, false, false, false, false, false] rfl rfl (any_of HT_.out (by kernel_rfl)) (fun _ _ _ h => h) (Or.inl ⟨by rfl, ?_⟩) ?_ ?_
              rotate_left
              ·intro w'
               go_simp
               with_reducible rfl
              rotate_left
              ·simp only [Act.put, Kp.s0, Kp.s1, Kp.s2, i64_w, i32_w]
               rfl
              refine pure_ (i := 16) (N := some 127) (v := ?_) (a' := ?_) #[true, true, true, false, true, true, true, true, false, true, true, true, false, true, true, true, true, false, false, false, false, false, false, false] rfl rfl (any_of HT_.out (by kernel_rfl)) (fun _ _ _ h => h) (Or.inl ⟨by rfl, ?_⟩) ?_ ?_
              rotate_left
              ·intro w'
               go_simp
               with_reducible rfl
              rotate_left
              ·simp only [Act.put, Kp.s0, Kp.s1, Kp.s2, i64_w, i32_w]
               rfl
              refine take_ (i := 3) (N := some 114) (v := ?_) (a' := ?_) #[true, true, true, true, true, true, true, true, false, true, true, true, false, true, true, true, true, false, false, false, false, false, false, false] rfl rfl (take_ofW HT_.out HW_.out (by kernel_rfl)) (fun _ _ _ h => h) (Or.inl ⟨by rfl, ?_⟩) hHeld ?_ ?_
              rotate_left
              ·rintro w' ⟨s0, s1, s2, s3, s4, s5, s6, s7⟩
               go_simp
               with_reducible rfl
              rotate_left
              ·simp only [Act.put, Kp.s0, Kp.s1, Kp.s2, i64_w, i32_w]
               rfl
              refine take_ (i := 8) (N := some 119) (v := ?_) (a' := ?_) #[true, true, true, true, true, true, true, true, true, true, true, true, false, true, true, true, true, false, false, false, false, false, false, false] rfl rfl (take_ofW HT_.out HW_.out (by kernel_rfl)) (fun _ _ _ h => h) (Or.inl ⟨by rfl, ?_⟩) hHeld ?_ ?_
              rotate_left
              ·rintro w' ⟨s0, s1, s2, s3, s4, s5, s6, s7⟩
               go_simp
               with_reducible rfl
              rotate_left
              ·simp only [Act.put, Kp.s0, Kp.s1, Kp.s2, i64_w, i32_w]
               rfl
              refine take_ (i := 12) (N := some 123) (v := ?_) (a' := ?_) #[true, true, true, true, true, true, true, true, true, true, true, true, true, true, true, true, true, false, false, false, false, false, false, false] rfl rfl (take_ofW HT_.out HW_.out (by kernel_rfl)) (fun _ _ _ h => h) (Or.inl ⟨by rfl, ?_⟩) hHeld ?_ ?_
              rotate_left
              ·rintro w' ⟨s0, s1, s2, s3, s4, s5, s6, s7⟩
               go_simp
               with_reducible rfl
              rotate_left
              ·simp only [Act.put, Kp.s0, Kp.s1, Kp.s2, i64_w, i32_w]
               rfl
              refine take_ (i := 17) (N := some 128) (v := ?_) (a' := ?_) #[true, true, true, true, true, true, true, true, true, true, true, true, true, true, true, true, true, true, false, false, false, false, false, false] rfl rfl (take_ofW HT_.out HW_.out (by kernel_rfl)) (fun _ _ _ h => h) (Or.inl ⟨by rfl, ?_⟩) hHeld ?_ ?_
              rotate_left
              ·rintro w' ⟨s0, s1, s2, s3, s4, s5, s6, s7⟩
               go_simp
               with_reducible rfl
              rotate_left
              ·simp only [Act.put, Kp.s0, Kp.s1, Kp.s2, i64_w, i32_w]
               rfl
              refine one_ (i := 18) (N := some 129) #[true, true, true, true, true, true, true, true, true, true, true, true, true, true, true, true, true, true, true, false, false, false, false, false] rfl rfl (one_of HT_.out (by kernel_rfl)) (by decide) (fun K hK => ?_)
              refine goes_ Try.func69 (by kernel_rfl) rfl #[.agg #[.int .i64 ((rd_T34 x11_4 x102_5).f0), .int .i64 ((rd_T34 x11_4 x102_5).f1)], .agg #[.int .i64 ((rd_T34 x11_4 (ji62)).f0), .int .i64 ((rd_T34 x11_4 (ji62)).f1)], .agg #[.int .i64 ((rd_T34 x11_4 x16_6).f0), .int .i64 ((rd_T34 x11_4 x16_6).f1)], .agg #[.int .i64 ((rd_T34 x11_4 (ji67)).f0), .int .i64 ((rd_T34 x11_4 (ji67)).f1)]] (by rfl) rfl rfl (by (try simp only [List.map_toArray, List.map_cons, List.map_nil]); first | done | (simp only [hji62, hji67]; rfl) | rfl | (simp only [List.length_drop, List.length_take]; rfl)) ?_
              with_reducible refine (impl_crossing.calls ((rd_T34 x11_4 x102_5).f0) ((rd_T34 x11_4 x102_5).f1) ((rd_T34 x11_4 (ji62)).f0) ((rd_T34 x11_4 (ji62)).f1) ((rd_T34 x11_4 x16_6).f0) ((rd_T34 x11_4 x16_6).f1) ((rd_T34 x11_4 (ji67)).f0) ((rd_T34 x11_4 (ji67)).f1) t255 t256 _ A70.out).mono ?_
              rintro e w75 ⟨v257, rfl, ho0, hb⟩
              have HS0_ := (hb.cell (World.block_lt_of_cell? _ _ (hHeld.1))).trans (hHeld.1)
              have HS1_ := (hb.cell (World.block_lt_of_cell? _ _ (hHeld.2.1))).trans (hHeld.2.1)
              have HS2_ := (hb.cell (World.block_lt_of_cell? _ _ (hHeld.2.2.1))).trans (hHeld.2.2.1)
              have HS3_ := (hb.cell (World.block_lt_of_cell? _ _ (hHeld.2.2.2.1))).trans (hHeld.2.2.2.1)
              have HS4_ := (hb.cell (World.block_lt_of_cell? _ _ (hHeld.2.2.2.2.1))).trans (hHeld.2.2.2.2.1)
              have HS5_ := (hb.cell (World.block_lt_of_cell? _ _ (hHeld.2.2.2.2.2.1))).trans (hHeld.2.2.2.2.2.1)
              have HS6_ := (hb.cell (World.block_lt_of_cell? _ _ (hHeld.2.2.2.2.2.2.1))).trans (hHeld.2.2.2.2.2.2.1)
              have HS7_ := (hb.cell (World.block_lt_of_cell? _ _ (hHeld.2.2.2.2.2.2.2))).trans (hHeld.2.2.2.2.2.2.2)
              refine ⟨_, rfl, ?_⟩
              have n0_ := Kp.a (Kd.R_below (Kp.kpR HO_11.out) hb)
              have n1_ := Kp.a (Kd.R_lower ho0 (below_size (Kp.kpL HB.out)))
              have n2_ := Kp.a (below_step (Kp.kpL HB.out) hb)
              clear HO_11
              clear HB
              have HO_11 := n0_
              have HO258 := n1_
              have HB := n2_
              clear n0_ n1_ n2_
              (try clear hb)
              (try clear hb2)
              (try clear hk)
              (try clear hi)
              (try clear ho0)
              refine hK.out _ _ ⟨HS0_, HS1_, HS2_, HS3_, HS4_, HS5_, HS6_, HS7_⟩ (fun hHeld => ?_)
              clear hK K
              refine norm_ (a' := ?_) ?_ ?_
              rotate_left
              ·show Act.put _ (some 129) _ = _
               simp only [Act.put, Kp.s0, Kp.s1, Kp.s2, i64_w, i32_w]
               rfl
              refine pure_ (i := 19) (N := some 110) (v := ?_) (a' := ?_) #[true, true, true, true, true, true, true, true, true, true, true, true, true, true, true, true, true, true, true, true, false, false, false, false] rfl rfl (any_of HT_.out (by kernel_rfl)) (fun _ _ _ h => h) (Or.inl ⟨by rfl, ?_⟩) ?_ ?_
              rotate_left
              ·intro w'
               go_simp
               with_reducible rfl
              rotate_left
              ·simp only [Act.put, Kp.s0, Kp.s1, Kp.s2, i64_w, i32_w]
               rfl
              refine pure_ (i := 20) (N := some 130) (v := ?_) (a' := ?_) #[true, true, true, true, true, true, true, true, true, true, true, true, true, true, true, true, true, true, true, true, true, false, false, false] rfl rfl (any_of HT_.out (by kernel_rfl)) (fun _ _ _ h => h) (Or.inl ⟨by rfl, ?_⟩) ?_ ?_
              rotate_left
              ·intro w'
               go_simp
               with_reducible rfl
              rotate_left
              ·simp only [Act.put, Kp.s0, Kp.s1, Kp.s2, i64_w, i32_w]
               rfl
              refine pure_ (i := 21) (N := some 131) (v := ?_) (a' := ?_) #[true, true, true, true, true, true, true, true, true, true, true, true, true, true, true, true, true, true, true, true, true, true, false, false] rfl rfl (any_of HT_.out (by kernel_rfl)) (fun _ _ _ h => h) (Or.inl ⟨by rfl, ?_⟩) ?_ ?_
              rotate_left
              ·intro w'
               go_simp
               with_reducible rfl
              rotate_left
              ·simp only [Act.put, Kp.s0, Kp.s1, Kp.s2, i64_w, i32_w]
               rfl
              refine pure_ (i := 22) (N := some 17) (v := ?_) (a' := ?_) #[true, true, true, true, true, true, true, true, true, true, true, true, true, true, true, true, true, true, true, true, true, true, true, false] rfl rfl (any_of HT_.out (by kernel_rfl)) (fun _ _ _ h => h) (Or.inl ⟨by rfl, ?_⟩) ?_ ?_
              rotate_left
              ·intro w'
               go_simp
               with_reducible rfl
              rotate_left
              ·simp only [Act.put, Kp.s0, Kp.s1, Kp.s2, i64_w, i32_w]
               rfl
              refine pure_ (i := 23) (N := some 18) (v := ?_) (a' := ?_) #[true, true, true, true, true, true, true, true, true, true, true, true, true, true, true, true, true, true, true, true, true, true, true, true] rfl rfl (any_of HT_.out (by kernel_rfl)) (fun _ _ _ h => h) (Or.inl ⟨by rfl, ?_⟩) ?_ ?_
              rotate_left
              ·intro w'
               go_simp
               with_reducible rfl
              rotate_left
              ·simp only [Act.put, Kp.s0, Kp.s1, Kp.s2, i64_w, i32_w]
               rfl
              refine done_ (done_of HT_.out (by kernel_rfl)) ?_
              try go_wp2
              go_ret3
              exact ⟨_, by first | rfl | (simp [errW_none, errW_some] <;> rfl) | (simp only [← hji62, ← hji67]; first | rfl | (simp [errW_none, errW_some] <;> rfl)) | (simp [*, errW_none, errW_some] <;> rfl), by first | exact Kd.R_nil _ _ _ _ _ | exact Kd.N_nil _ _ _ _ _ | exact Kd.V_nil _ _ _ _ _ | exact Kd.Q_nil _ _ _ _ _ | exact Kd.S_nil _ _ _ _ _, Kp.kpL HB.out⟩
             rw [if_neg c72] at H
             have c72b0 : decide (0 < t255) = false := decide_eq_false c72
             clear c72
             by_cases c76 : t255 > 1
             ·rw [if_pos c76] at H
              have c76b0 : decide (1 < t255) = true := decide_eq_true c76
              clear c76
              simp only [Option.some.injEq, Prod.mk.injEq] at H
              obtain ⟨rfl, rfl, rfl⟩ := H
              try go_wp2
              have n0_ := Kp.a (Kd.R_drew HO_11.out)
              have n1_ := Kp.a (below_drew1 HB.out)
              clear HO_11
              clear HB
              have HO_11 := n0_
              have HB := n1_
              clear n0_ n1_
              obtain ⟨Ao78, co78, eo78⟩ := Kd.R_slice HO_11.out
              (first | subst eo78 | (injection eo78 with f1_ f2_ f3_; have f4_ := f1_.symm; have f5_ := f3_.symm; clear f1_ f2_ f3_; subst f4_; subst f5_))
              have p251 : 0 ≤ (x102_5 : Int) := Kp.d
              have q251 : x102_5 < (x11_4.length : Int) := Kp.d
              obtain ⟨ad251, e251, hx251_0, hx251_1⟩ := at_T34 (Kd.R_reads' HO_11.out).2.2 x102_5 p251 q251
              cases e251
              replace p251 := eq_true p251
              replace q251 := eq_true q251
              have p252 : 0 ≤ ((ji62) : Int) := Kp.d
              have q252 : (ji62) < (x11_4.length : Int) := Kp.d
              obtain ⟨ad252, e252, hx252_0, hx252_1⟩ := at_T34 (Kd.R_reads' HO_11.out).2.2 (ji62) p252 q252
              obtain rfl : ad251 = ad252 := (by injection e252)
              replace p252 := eq_true p252
              replace q252 := eq_true q252
              have p253 : 0 ≤ (x16_6 : Int) := Kp.d
              have q253 : x16_6 < (x11_4.length : Int) := Kp.d
              obtain ⟨ad253, e253, hx253_0, hx253_1⟩ := at_T34 (Kd.R_reads' HO_11.out).2.2 x16_6 p253 q253
              obtain rfl : ad251 = ad253 := (by injection e253)
              replace p253 := eq_true p253
              replace q253 := eq_true q253
              have p254 : 0 ≤ ((ji67) : Int) := Kp.d
              have q254 : (ji67) < (x11_4.length : Int) := Kp.d
              obtain ⟨ad254, e254, hx254_0, hx254_1⟩ := at_T34 (Kd.R_reads' HO_11.out).2.2 (ji67) p254 q254
              obtain rfl : ad251 = ad254 := (by injection e254)
              replace p254 := eq_true p254
              replace q254 := eq_true q254
              refine start_ (n := 24) (S := fun w' => w'.cell? (ad251.add ((x102_5).toNat * 2)) = some (.int .i64 ((rd_T34 x11_4 x102_5).f0)) ∧ w'.cell? ⟨(ad251.add ((x102_5).toNat * 2)).block, (ad251.add ((x102_5).toNat * 2)).off + 1, none⟩ = some (.int .i64 ((rd_T34 x11_4 x102_5).f1)) ∧ w'.cell? (ad251.add (((ji62)).toNat * 2)) = some (.int .i64 ((rd_T34 x11_4 (ji62)).f0)) ∧ w'.cell? ⟨(ad251.add (((ji62)).toNat * 2)).block, (ad251.add (((ji62)).toNat * 2)).off + 1, none⟩ = some (.int .i64 ((rd_T34 x11_4 (ji62)).f1)) ∧ w'.cell? (ad251.add ((x16_6).toNat * 2)) = some (.int .i64 ((rd_T34 x11_4 x16_6).f0)) ∧ w'.cell? ⟨(ad251.add ((x16_6).toNat * 2)).block, (ad251.add ((x16_6).toNat * 2)).off + 1, none⟩ = some (.int .i64 ((rd_T34 x11_4 x16_6).f1)) ∧ w'.cell? (ad251.add (((ji67)).toNat * 2)) = some (.int .i64 ((rd_T34 x11_4 (ji67)).f0)) ∧ w'.cell? ⟨(ad251.add (((ji67)).toNat * 2)).block, (ad251.add (((ji67)).toNat * 2)).off + 1, none⟩ = some (.int .i64 ((rd_T34 x11_4 (ji67)).f1))) (ds := []) #[false, false, false, false, false, false, false, false, false, false, false, false, false, false, false, false, false, false, false, false, false, false, false, false] (by kernel_rfl) rfl rfl ⟨hx251_0, hx251_1, hx252_0, hx252_1, hx253_0, hx253_1, hx254_0, hx254_1⟩ (fun hHeld => ?_); refine with_tabW impl_Bent.tab31 impl_Bent.bits31 (fun HT_ HW_ => ?_)
              generalize wr.drew = w77 at HO_11 HB hx251_0 hx251_1 hx252_0 hx252_1 hx253_0 hx253_1 hx254_0 hx254_1 hHeld ⊢
              refine pure_ (i := 0) (N := some 111) (v := ?_) (a' := ?_) #[true, false, false, false, false, false, false, false, false, false, false, false, false, false, false, false, false, false, false, false, false, false, false, false] rfl rfl (any_of HT_.out (by kernel_rfl)) (fun _ _ _ h => h) (Or.inl ⟨by rfl, ?_⟩) ?_ ?_
              rotate_left
              ·intro w'
               go_simp
               with_reducible rfl
              rotate_left
              ·simp only [Act.put, Kp.s0, Kp.s1, Kp.s2, i64_w, i32_w]
               rfl
              refine pure_ (i := 1) (N := some 112) (v := ?_) (a' := ?_) #[true, true, false, false, false, false, false, false, false, false, false, false, false, false, false, false, false, false, false, false, false, false, false, false] rfl rfl (any_of HT_.out (by kernel_rfl)) (fun _ _ _ h => h) (Or.inl ⟨by rfl, ?_⟩) ?_ ?_
              rotate_left
              ·intro w'
               go_simp
               with_reducible rfl
              rotate_left
              ·simp only [Act.put, Kp.s0, Kp.s1, Kp.s2, i64_w, i32_w]
               rfl
              refine pure_ (i := 2) (N := some 113) (v := ?_) (a' := ?_) #[true, true, true, false, false, false, false, false, false, false, false, false, false, false, false, false, false, false, false, false, false, false, false, false] rfl rfl (any_of HT_.out (by kernel_rfl)) (fun _ _ _ h => h) (Or.inl ⟨by rfl, ?_⟩) ?_ ?_
              rotate_left
              ·intro w'
               go_simp
               with_reducible rfl
              rotate_left
              ·simp only [Act.put, Kp.s0, Kp.s1, Kp.s2, i64_w, i32_w]
               rfl
              refine pure_ (i := 4) (N := some 115) (v := ?_) (a' := ?_) #[true, true, true, false, true, false, false, false, false, false, false, false, false, false, false, false, false, false, false, false, false, false, false, false] rfl rfl (any_of HT_.out (by kernel_rfl)) (fun _ _ _ h => h) (Or.inl ⟨by rfl, ?_⟩) ?_ ?_
              rotate_left
              ·intro w'
               go_simp
               with_reducible rfl
              rotate_left
              ·simp only [Act.put, Kp.s0, Kp.s1, Kp.s2, i64_w, i32_w]
               rfl
              refine pure_ (i := 5) (N := some 116) (v := ?_) (a' := ?_) #[true, true, true, false, true, true, false, false, false, false, false, false, false, false, false, false, false, false, false, false, false, false, false, false] rfl rfl (any_of HT_.out (by kernel_rfl)) (fun _ _ _ h => h) (Or.inl ⟨by rfl, ?_⟩) ?_ ?_
              rotate_left
              ·intro w'
               go_simp
               with_reducible rfl
              rotate_left
              ·simp only [Act.put, Kp.s0, Kp.s1, Kp.s2, i64_w, i32_w]
               rfl
              refine pure_ (i := 6) (N := some 117) (v := ?_) (a' := ?_) #[true, true, true, false, true, true, true, false, false, false, false, false, false, false, false, false, false, false, false, false, false, false, false, false] rfl rfl (any_of HT_.out (by kernel_rfl)) (fun _ _ _ h => h) (Or.inl ⟨by rfl, ?_⟩) ?_ ?_
              rotate_left
              ·intro w'
               go_simp
               with_reducible rfl
              rotate_left
              ·simp only [Act.put, Kp.s0, Kp.s1, Kp.s2, i64_w, i32_w]
               rfl
              refine pure_ (i := 7) (N := some 118) (v := ?_) (a' := ?_) #[true, true, true, false, true, true, true, true, false, false, false, false, false, false, false, false, false, false, false, false, false, false, false, false] rfl rfl (any_of HT_.out (by kernel_rfl)) (fun _ _ _ h => h) (Or.inl ⟨by rfl, ?_⟩) ?_ ?_
              rotate_left
              ·intro w'
               go_simp
               with_reducible rfl
              rotate_left
              ·simp only [Act.put, Kp.s0, Kp.s1, Kp.s2, i64_w, i32_w]
               rfl
              refine pure_ (i := 9) (N := some 120) (v := ?_) (a' := ?_) #[true, true, true, false, true, true, true, true, false, true, false, false, false, false, false, false, false, false, false, false, false, false, false, false] rfl rfl (any_of HT_.out (by kernel_rfl)) (fun _ _ _ h => h) (Or.inl ⟨by rfl, ?_⟩) ?_ ?_
              rotate_left
              ·intro w'
               go_simp
               with_reducible rfl
              rotate_left
              ·simp only [Act.put, Kp.s0, Kp.s1, Kp.s2, i64_w, i32_w]
               rfl
              refine pure_ (i := 10) (N := some 121) (v := ?_) (a' := ?_) #[true, true, true, false, true, true, true, true, false, true, true, false, false, false, false, false, false, false, false, false, false, false, false, false] rfl rfl (any_of HT_.out (by kernel_rfl)) (fun _ _ _ h => h) (Or.inl ⟨by rfl, ?_⟩) ?_ ?_
              rotate_left
              ·intro w'
               go_simp
               with_reducible rfl
              rotate_left
              ·simp only [Act.put, Kp.s0, Kp.s1, Kp.s2, i64_w, i32_w]
               rfl
              refine pure_ (i := 11) (N := some 122) (v := ?_) (a' := ?_) #[true, true, true, false, true, true, true, true, false, true, true, true, false, false, false, false, false, false, false, false, false, false, false, false] rfl rfl (any_of HT_.out (by kernel_rfl)) (fun _ _ _ h => h) (Or.inl ⟨by rfl, ?_⟩) ?_ ?_
              rotate_left
              ·intro w'
               go_simp
               with_reducible rfl
              rotate_left
              ·simp only [Act.put, Kp.s0, Kp.s1, Kp.s2, i64_w, i32_w]
               rfl
              refine pure_ (i := 13) (N := some 124) (v := ?_) (a' := ?_) #[true, true, true, false, true, true, true, true, false, true, true, true, false, true, false, false, false, false, false, false, false, false, false, false] rfl rfl (any_of HT_.out (by kernel_rfl)) (fun _ _ _ h => h) (Or.inl ⟨by rfl, ?_⟩) ?_ ?_
              rotate_left
              ·intro w'
               go_simp
               with_reducible rfl
              rotate_left
              ·simp only [Act.put, Kp.s0, Kp.s1, Kp.s2, i64_w, i32_w]
               rfl
              refine pure_ (i := 14) (N := some 125) (v := ?_) (a' := ?_) #[true, true, true, false, true, true, true, true, false, true, true, true, false, true, true, false, false, false, false, false, false, false, false, false] rfl rfl (any_of HT_.out (by kernel_rfl)) (fun _ _ _ h => h) (Or.inl ⟨by rfl, ?_⟩) ?_ ?_
              rotate_left
              ·intro w'
               go_simp
               with_reducible rfl
              rotate_left
              ·simp only [Act.put, Kp.s0, Kp.s1, Kp.s2, i64_w, i32_w]
               rfl
              refine pure_ (i := 15) (N := some 126) (v := ?_) (a' := ?_) #[true, true, true, false, true, true, true, true, false, true, true, true, false, true, true, true, false, false, false, false, false, false, false, false] rfl rfl (any_of HT_.out (by kernel_rfl)) (fun _ _ _ h => h) (Or.inl ⟨by rfl, ?_⟩) ?_ ?_
              rotate_left
              ·intro w'
               go_simp
               with_reducible rfl
              rotate_left
              ·simp only [Act.put, Kp.s0, Kp.s1, Kp.s2, i64_w, i32_w]
               rfl
              refine pure_ (i := 16) (N := some 127) (v := ?_) (a' := ?_) #[true, true, true, false, true, true, true, true, false, true, true, true, false, true, true, true, true, false, false, false, false, false, false, false] rfl rfl (any_of HT_.out (by kernel_rfl)) (fun _ _ _ h => h) (Or.inl ⟨by rfl, ?_⟩) ?_ ?_
              rotate_left
              ·intro w'
               go_simp
               with_reducible rfl
              rotate_left
              ·simp only [Act.put, Kp.s0, Kp.s1, Kp.s2, i64_w, i32_w]
               rfl
              refine take_ (i := 3) (N := some 114) (v := ?_) (a' := ?_) #[true, true, true, true, true, true, true, true, false, true, true, true, false, true, true, true, true, false, false, false, false, false, false, false] rfl rfl (take_ofW HT_.out HW_.out (by kernel_rfl)) (fun _ _ _ h => h) (Or.inl ⟨by rfl, ?_⟩) hHeld ?_ ?_
              rotate_left
              ·rintro w' ⟨s0, s1, s2, s3, s4, s5, s6, s7⟩
               go_simp
               with_reducible rfl
              rotate_left
              ·simp only [Act.put, Kp.s0, Kp.s1, Kp.s2, i64_w, i32_w]
               rfl
              refine take_ (i := 8) (N := some 119) (v := ?_) (a' := ?_) #[true, true, true, true, true, true, true, true, true, true, true, true, false, true, true, true, true, false, false, false, false, false, false, false] rfl rfl (take_ofW HT_.out HW_.out (by kernel_rfl)) (fun _ _ _ h => h) (Or.inl ⟨by rfl, ?_⟩) hHeld ?_ ?_
              rotate_left
              ·rintro w' ⟨s0, s1, s2, s3, s4, s5, s6, s7⟩
               go_simp
               with_reducible rfl
              rotate_left
              ·simp only [Act.put, Kp.s0, Kp.s1, Kp.s2, i64_w, i32_w]
               rfl
              refine take_ (i := 12) (N := some 123) (v := ?_) (a' := ?_) #[true, true, true, true, true, true, true, true, true, true, true, true, true, true, true, true, true, false, false, false, false, false, false, false] rfl rfl (take_ofW HT_.out HW_.out (by kernel_rfl)) (fun _ _ _ h => h) (Or.inl ⟨by rfl, ?_⟩) hHeld ?_ ?_
              rotate_left
              ·rintro w' ⟨s0, s1, s2, s3, s4, s5, s6, s7⟩
               go_simp
               with_reducible rfl
              rotate_left
              ·simp only [Act.put, Kp.s0, Kp.s1, Kp.s2, i64_w, i32_w]
               rfl
              refine take_ (i := 17) (N := some 128) (v := ?_) (a' := ?_) #[true, true, true, true, true, true, true, true, true, true, true, true, true, true, true, true, true, true, false, false, false, false, false, false] rfl rfl (take_ofW HT_.out HW_.out (by kernel_rfl)) (fun _ _ _ h => h) (Or.inl ⟨by rfl, ?_⟩) hHeld ?_ ?_
              rotate_left
              ·rintro w' ⟨s0, s1, s2, s3, s4, s5, s6, s7⟩
               go_simp
               with_reducible rfl
              rotate_left
              ·simp only [Act.put, Kp.s0, Kp.s1, Kp.s2, i64_w, i32_w]
               rfl
              refine one_ (i := 18) (N := some 129) #[true, true, true, true, true, true, true, true, true, true, true, true, true, true, true, true, true, true, true, false, false, false, false, false] rfl rfl (one_of HT_.out (by kernel_rfl)) (by decide) (fun K hK => ?_)
              refine goes_ Try.func69 (by kernel_rfl) rfl #[.agg #[.int .i64 ((rd_T34 x11_4 x102_5).f0), .int .i64 ((rd_T34 x11_4 x102_5).f1)], .agg #[.int .i64 ((rd_T34 x11_4 (ji62)).f0), .int .i64 ((rd_T34 x11_4 (ji62)).f1)], .agg #[.int .i64 ((rd_T34 x11_4 x16_6).f0), .int .i64 ((rd_T34 x11_4 x16_6).f1)], .agg #[.int .i64 ((rd_T34 x11_4 (ji67)).f0), .int .i64 ((rd_T34 x11_4 (ji67)).f1)]] (by rfl) rfl rfl (by (try simp only [List.map_toArray, List.map_cons, List.map_nil]); first | done | (simp only [hji62, hji67]; rfl) | rfl | (simp only [List.length_drop, List.length_take]; rfl)) ?_
              with_reducible refine (impl_crossing.calls ((rd_T34 x11_4 x102_5).f0) ((rd_T34 x11_4 x102_5).f1) ((rd_T34 x11_4 (ji62)).f0) ((rd_T34 x11_4 (ji62)).f1) ((rd_T34 x11_4 x16_6).f0) ((rd_T34 x11_4 x16_6).f1) ((rd_T34 x11_4 (ji67)).f0) ((rd_T34 x11_4 (ji67)).f1) t255 t256 _ A70.out).mono ?_
              rintro e w79 ⟨v257, rfl, ho0, hb⟩
              have HS0_ := (hb.cell (World.block_lt_of_cell? _ _ (hHeld.1))).trans (hHeld.1)
              have HS1_ := (hb.cell (World.block_lt_of_cell? _ _ (hHeld.2.1))).trans (hHeld.2.1)
              have HS2_ := (hb.cell (World.block_lt_of_cell? _ _ (hHeld.2.2.1))).trans (hHeld.2.2.1)
              have HS3_ := (hb.cell (World.block_lt_of_cell? _ _ (hHeld.2.2.2.1))).trans (hHeld.2.2.2.1)
              have HS4_ := (hb.cell (World.block_lt_of_cell? _ _ (hHeld.2.2.2.2.1))).trans (hHeld.2.2.2.2.1)
              have HS5_ := (hb.cell (World.block_lt_of_cell? _ _ (hHeld.2.2.2.2.2.1))).trans (hHeld.2.2.2.2.2.1)
              have HS6_ := (hb.cell (World.block_lt_of_cell? _ _ (hHeld.2.2.2.2.2.2.1))).trans (hHeld.2.2.2.2.2.2.1)
              have HS7_ := (hb.cell (World.block_lt_of_cell? _ _ (hHeld.2.2.2.2.2.2.2))).trans (hHeld.2.2.2.2.2.2.2)
              refine ⟨_, rfl, ?_⟩
              have n0_ := Kp.a (Kd.R_below (Kp.kpR HO_11.out) hb)
              have n1_ := Kp.a (Kd.R_lower ho0 (below_size (Kp.kpL HB.out)))
              have n2_ := Kp.a (below_step (Kp.kpL HB.out) hb)
              clear HO_11
              clear HB
              have HO_11 := n0_
              have HO258 := n1_
              have HB := n2_
              clear n0_ n1_ n2_
              (try clear hb)
              (try clear hb2)
              (try clear hk)
              (try clear hi)
              (try clear ho0)
              refine hK.out _ _ ⟨HS0_, HS1_, HS2_, HS3_, HS4_, HS5_, HS6_, HS7_⟩ (fun hHeld => ?_)
              clear hK K
              refine norm_ (a' := ?_) ?_ ?_
              rotate_left
              ·show Act.put _ (some 129) _ = _
               simp only [Act.put, Kp.s0, Kp.s1, Kp.s2, i64_w, i32_w]
               rfl
              refine pure_ (i := 19) (N := some 110) (v := ?_) (a' := ?_) #[true, true, true, true, true, true, true, true, true, true, true, true, true, true, true, true, true, true, true, true, false, false, false, false] rfl rfl (any_of HT_.out (by kernel_rfl)) (fun _ _ _ h => h) (Or.inl ⟨by rfl, ?_⟩) ?_ ?_
              rotate_left
              ·intro w'
               go_simp
               with_reducible rfl
              rotate_left
              ·simp only [Act.put, Kp.s0, Kp.s1, Kp.s2, i64_w, i32_w]
               rfl
              refine pure_ (i := 20) (N := some 130) (v := ?_) (a' := ?_) #[true, true, true, true, true, true, true, true, true, true, true, true, true, true, true, true, true, true, true, true, true, false, false, false] rfl rfl (any_of HT_.out (by kernel_rfl)) (fun _ _ _ h => h) (Or.inl ⟨by rfl, ?_⟩) ?_ ?_
              rotate_left
              ·intro w'
               go_simp
               with_reducible rfl
              rotate_left
              ·simp only [Act.put, Kp.s0, Kp.s1, Kp.s2, i64_w, i32_w]
               rfl
              refine pure_ (i := 21) (N := some 131) (v := ?_) (a' := ?_) #[true, true, true, true, true, true, true, true, true, true, true, true, true, true, true, true, true, true, true, true, true, true, false, false] rfl rfl (any_of HT_.out (by kernel_rfl)) (fun _ _ _ h => h) (Or.inl ⟨by rfl, ?_⟩) ?_ ?_
              rotate_left
              ·intro w'
               go_simp
               with_reducible rfl
              rotate_left
              ·simp only [Act.put, Kp.s0, Kp.s1, Kp.s2, i64_w, i32_w]
               rfl
              refine pure_ (i := 22) (N := some 17) (v := ?_) (a' := ?_) #[true, true, true, true, true, true, true, true, true, true, true, true, true, true, true, true, true, true, true, true, true, true, true, false] rfl rfl (any_of HT_.out (by kernel_rfl)) (fun _ _ _ h => h) (Or.inl ⟨by rfl, ?_⟩) ?_ ?_
              rotate_left
              ·intro w'
               go_simp
               with_reducible rfl
              rotate_left
              ·simp only [Act.put, Kp.s0, Kp.s1, Kp.s2, i64_w, i32_w]
               rfl
              refine pure_ (i := 23) (N := some 18) (v := ?_) (a' := ?_) #[true, true, true, true, true, true, true, true, true, true, true, true, true, true, true, true, true, true, true, true, true, true, true, true] rfl rfl (any_of HT_.out (by kernel_rfl)) (fun _ _ _ h => h) (Or.inl ⟨by rfl, ?_⟩) ?_ ?_
              rotate_left
              ·intro w'
               go_simp
               with_reducible rfl
              rotate_left
              ·simp only [Act.put, Kp.s0, Kp.s1, Kp.s2, i64_w, i32_w]
               rfl
              refine done_ (done_of HT_.out (by kernel_rfl)) ?_
              try go_wp2
              go_ret3
              exact ⟨_, by first | rfl | (simp [errW_none, errW_some] <;> rfl) | (simp only [← hji62, ← hji67]; first | rfl | (simp [errW_none, errW_some] <;> rfl)) | (simp [*, errW_none, errW_some] <;> rfl), by first | exact Kd.R_nil _ _ _ _ _ | exact Kd.N_nil _ _ _ _ _ | exact Kd.V_nil _ _ _ _ _ | exact Kd.Q_nil _ _ _ _ _ | exact Kd.S_nil _ _ _ _ _, Kp.kpL HB.out⟩
             rw [if_neg c76] at H
             have c76b0 : decide (1 < t255) = false := decide_eq_false c76
             clear c76
             have H' := Kp.a H
             clear H
             try go_wp2
             have n0_ := Kp.a (Kd.R_drew HO_11.out)
             have n1_ := Kp.a (below_drew1 HB.out)
             clear HO_11
             clear HB
             have HO_11 := n0_
             have HB := n1_
             clear n0_ n1_
             obtain ⟨Ao81, co81, eo81⟩ := Kd.R_slice HO_11.out
             (first | subst eo81 | (injection eo81 with f1_ f2_ f3_; have f4_ := f1_.symm; have f5_ := f3_.symm; clear f1_ f2_ f3_; subst f4_; subst f5_))
             have p251 : 0 ≤ (x102_5 : Int) := Kp.d
             have q251 : x102_5 < (x11_4.length : Int) := Kp.d
             obtain ⟨ad251, e251, hx251_0, hx251_1⟩ := at_T34 (Kd.R_reads' HO_11.out).2.2 x102_5 p251 q251
             cases e251
             replace p251 := eq_true p251
             replace q251 := eq_true q251
             have p252 : 0 ≤ ((ji62) : Int) := Kp.d
             have q252 : (ji62) < (x11_4.length : Int) := Kp.d
             obtain ⟨ad252, e252, hx252_0, hx252_1⟩ := at_T34 (Kd.R_reads' HO_11.out).2.2 (ji62) p252 q252
             obtain rfl : ad251 = ad252 := (by injection e252)
             replace p252 := eq_true p252
             replace q252 := eq_true q252
             have p253 : 0 ≤ (x16_6 : Int) := Kp.d
             have q253 : x16_6 < (x11_4.length : Int) := Kp.d
             obtain ⟨ad253, e253, hx253_0, hx253_1⟩ := at_T34 (Kd.R_reads' HO_11.out).2.2 x16_6 p253 q253
             obtain rfl : ad251 = ad253 := (by injection e253)
             replace p253 := eq_true p253
             replace q253 := eq_true q253
             have p254 : 0 ≤ ((ji67) : Int) := Kp.d
             have q254 : (ji67) < (x11_4.length : Int) := Kp.d
             obtain ⟨ad254, e254, hx254_0, hx254_1⟩ := at_T34 (Kd.R_reads' HO_11.out).2.2 (ji67) p254 q254
             obtain rfl : ad251 = ad254 := (by injection e254)
             replace p254 := eq_true p254
             replace q254 := eq_true q254
             refine start_ (n := 24) (S := fun w' => w'.cell? (ad251.add ((x102_5).toNat * 2)) = some (.int .i64 ((rd_T34 x11_4 x102_5).f0)) ∧ w'.cell? ⟨(ad251.add ((x102_5).toNat * 2)).block, (ad251.add ((x102_5).toNat * 2)).off + 1, none⟩ = some (.int .i64 ((rd_T34 x11_4 x102_5).f1)) ∧ w'.cell? (ad251.add (((ji62)).toNat * 2)) = some (.int .i64 ((rd_T34 x11_4 (ji62)).f0)) ∧ w'.cell? ⟨(ad251.add (((ji62)).toNat * 2)).block, (ad251.add (((ji62)).toNat * 2)).off + 1, none⟩ = some (.int .i64 ((rd_T34 x11_4 (ji62)).f1)) ∧ w'.cell? (ad251.add ((x16_6).toNat * 2)) = some (.int .i64 ((rd_T34 x11_4 x16_6).f0)) ∧ w'.cell? ⟨(ad251.add ((x16_6).toNat * 2)).block, (ad251.add ((x16_6).toNat * 2)).off + 1, none⟩ = some (.int .i64 ((rd_T34 x11_4 x16_6).f1)) ∧ w'.cell? (ad251.add (((ji67)).toNat * 2)) = some (.int .i64 ((rd_T34 x11_4 (ji67)).f0)) ∧ w'.cell? ⟨(ad251.add (((ji67)).toNat * 2)).block, (ad251.add (((ji67)).toNat * 2)).off + 1, none⟩ = some (.int .i64 ((rd_T34 x11_4 (ji67)).f1))) (ds := []) #[false, false, false, false, false, false, false, false, false, false, false, false, false, false, false, false, false, false, false, false, false, false, false, false] (by kernel_rfl) rfl rfl ⟨hx251_0, hx251_1, hx252_0, hx252_1, hx253_0, hx253_1, hx254_0, hx254_1⟩ (fun hHeld => ?_); refine with_tabW impl_Bent.tab31 impl_Bent.bits31 (fun HT_ HW_ => ?_)
             generalize wr.drew = w80 at HO_11 HB hx251_0 hx251_1 hx252_0 hx252_1 hx253_0 hx253_1 hx254_0 hx254_1 hHeld ⊢
             refine pure_ (i := 0) (N := some 111) (v := ?_) (a' := ?_) #[true, false, false, false, false, false, false, false, false, false, false, false, false, false, false, false, false, false, false, false, false, false, false, false] rfl rfl (any_of HT_.out (by kernel_rfl)) (fun _ _ _ h => h) (Or.inl ⟨by rfl, ?_⟩) ?_ ?_
             rotate_left
             ·intro w'
              go_simp
              with_reducible rfl
             rotate_left
             ·simp only [Act.put, Kp.s0, Kp.s1, Kp.s2, i64_w, i32_w]
              rfl
             refine pure_ (i := 1) (N := some 112) (v := ?_) (a' := ?_) #[true, true, false, false, false, false, false, false, false, false, false, false, false, false, false, false, false, false, false, false, false, false, false, false] rfl rfl (any_of HT_.out (by kernel_rfl)) (fun _ _ _ h => h) (Or.inl ⟨by rfl, ?_⟩) ?_ ?_
             rotate_left
             ·intro w'
              go_simp
              with_reducible rfl
             rotate_left
             ·simp only [Act.put, Kp.s0, Kp.s1, Kp.s2, i64_w, i32_w]
              rfl
             refine pure_ (i := 2) (N := some 113) (v := ?_) (a' := ?_) #[true, true, true, false, false, false, false, false, false, false, false, false, false, false, false, false, false, false, false, false, false, false, false, false] rfl rfl (any_of HT_.out (by kernel_rfl)) (fun _ _ _ h => h) (Or.inl ⟨by rfl, ?_⟩) ?_ ?_
             rotate_left
             ·intro w'
              go_simp
              with_reducible rfl
             rotate_left
             ·simp only [Act.put, Kp.s0, Kp.s1, Kp.s2, i64_w, i32_w]
              rfl
             refine pure_ (i := 4) (N := some 115) (v := ?_) (a' := ?_) #[true, true, true, false, true, false, false, false, false, false, false, false, false, false, false, false, false, false, false, false, false, false, false, false] rfl rfl (any_of HT_.out (by kernel_rfl)) (fun _ _ _ h => h) (Or.inl ⟨by rfl, ?_⟩) ?_ ?_
             rotate_left
             ·intro w'
              go_simp
              with_reducible rfl
             rotate_left
             ·simp only [Act.put, Kp.s0, Kp.s1, Kp.s2, i64_w, i32_w]
              rfl
             refine pure_ (i := 5) (N := some 116) (v := ?_) (a' := ?_) #[true, true, true, false, true, true, false, false, false, false, false, false, false, false, false, false, false, false, false, false, false, false, false, false] rfl rfl (any_of HT_.out (by kernel_rfl)) (fun _ _ _ h => h) (Or.inl ⟨by rfl, ?_⟩) ?_ ?_
             rotate_left
             ·intro w'
              go_simp
              with_reducible rfl
             rotate_left
             ·simp only [Act.put, Kp.s0, Kp.s1, Kp.s2, i64_w, i32_w]
              rfl
             refine pure_ (i := 6) (N := some 117) (v := ?_) (a' := ?_) #[true, true, true, false, true, true, true, false, false, false, false, false, false, false, false, false, false, false, false, false, false, false, false, false] rfl rfl (any_of HT_.out (by kernel_rfl)) (fun _ _ _ h => h) (Or.inl ⟨by rfl, ?_⟩) ?_ ?_
             rotate_left
             ·intro w'
              go_simp
              with_reducible rfl
             rotate_left
             ·simp only [Act.put, Kp.s0, Kp.s1, Kp.s2, i64_w, i32_w]
              rfl
             refine pure_ (i := 7) (N := some 118) (v := ?_) (a' := ?_) #[true, true, true, false, true, true, true, true, false, false, false, false, false, false, false, false, false, false, false, false, false, false, false, false] rfl rfl (any_of HT_.out (by kernel_rfl)) (fun _ _ _ h => h) (Or.inl ⟨by rfl, ?_⟩) ?_ ?_
             rotate_left
             ·intro w'
              go_simp
              with_reducible rfl
             rotate_left
             ·simp only [Act.put, Kp.s0, Kp.s1, Kp.s2, i64_w, i32_w]
              rfl
             refine pure_ (i := 9) (N := some 120) (v := ?_) (a' := ?_) #[true, true, true, false, true, true, true, true, false, true, false, false, false, false, false, false, false, false, false, false, false, false, false, false] rfl rfl (any_of HT_.out (by kernel_rfl)) (fun _ _ _ h => h) (Or.inl ⟨by rfl, ?_⟩) ?_ ?_
             rotate_left
             ·intro w'
              go_simp
              with_reducible rfl
             rotate_left
             ·simp only [Act.put, Kp.s0, Kp.s1, Kp.s2, i64_w, i32_w]
              rfl
             refine pure_ (i := 10) (N := some 121) (v := ?_) (a' := ?_) #[true, true, true, false, true, true, true, true, false, true, true, false, false, false, false, false, false, false, false, false, false, false, false, false] rfl rfl (any_of HT_.out (by kernel_rfl)) (fun _ _ _ h => h) (Or.inl ⟨by rfl, ?_⟩) ?_ ?_
             rotate_left
             ·intro w'
              go_simp
              with_reducible rfl
             rotate_left
             ·simp only [Act.put, Kp.s0, Kp.s1, Kp.s2, i64_w, i32_w]
              rfl
             refine pure_ (i := 11) (N := some 122) (v := ?_) (a' := ?_) #[true, true, true, false, true, true, true, true, false, true, true, true, false, false, false, false, false, false, false, false, false, false, false, false] rfl rfl (any_of HT_.out (by kernel_rfl)) (fun _ _ _ h => h) (Or.inl ⟨by rfl, ?_⟩) ?_ ?_
             rotate_left
             ·intro w'
              go_simp
              with_reducible rfl
             rotate_left
             ·simp only [Act.put, Kp.s0, Kp.s1, Kp.s2, i64_w, i32_w]
              rfl
             refine pure_ (i := 13) (N := some 124) (v := ?_) (a' := ?_) #[true, true, true, false, true, true, true, true, false, true, true, true, false, true, false, false, false, false, false, false, false, false, false, false] rfl rfl (any_of HT_.out (by kernel_rfl)) (fun _ _ _ h => h) (Or.inl ⟨by rfl, ?_⟩) ?_ ?_
             rotate_left
             ·intro w'
              go_simp
              with_reducible rfl
             rotate_left
             ·simp only [Act.put, Kp.s0, Kp.s1, Kp.s2, i64_w, i32_w]
              rfl
             refine pure_ (i := 14) (N := some 125) (v := ?_) (a' := ?_) #[true, true, true, false, true, true, true, true, false, true, true, true, false, true, true, false, false, false, false, false, false, false, false, false] rfl rfl (any_of HT_.out (by kernel_rfl)) (fun _ _ _ h => h) (Or.inl ⟨by rfl, ?_⟩) ?_ ?_
             rotate_left
             ·intro w'
              go_simp
              with_reducible rfl
             rotate_left
             ·simp only [Act.put, Kp.s0, Kp.s1, Kp.s2, i64_w, i32_w]
              rfl
             refine pure_ (i := 15) (N := some 126) (v := ?_) (a' := ?_) #[true, true, true, false, true, true, true, true, false, true, true, true, false, true, true, true, false, false, false, false, false, false, false, false] rfl rfl (any_of HT_.out (by kernel_rfl)) (fun _ _ _ h => h) (Or.inl ⟨by rfl, ?_⟩) ?_ ?_
             rotate_left
             ·intro w'
              go_simp
              with_reducible rfl
             rotate_left
             ·simp only [Act.put, Kp.s0, Kp.s1, Kp.s2, i64_w, i32_w]
              rfl
             refine pure_ (i := 16) (N := some 127) (v := ?_) (a' := ?_) #[true, true, true, false, true, true, true, true, false, true, true, true, false, true, true, true, true, false, false, false, false, false, false, false] rfl rfl (any_of HT_.out (by kernel_rfl)) (fun _ _ _ h => h) (Or.inl ⟨by rfl, ?_⟩) ?_ ?_
             rotate_left
             ·intro w'
              go_simp
              with_reducible rfl
             rotate_left
             ·simp only [Act.put, Kp.s0, Kp.s1, Kp.s2, i64_w, i32_w]
              rfl
             refine take_ (i := 3) (N := some 114) (v := ?_) (a' := ?_) #[true, true, true, true, true, true, true, true, false, true, true, true, false, true, true, true, true, false, false, false, false, false, false, false] rfl rfl (take_ofW HT_.out HW_.out (by kernel_rfl)) (fun _ _ _ h => h) (Or.inl ⟨by rfl, ?_⟩) hHeld ?_ ?_
             rotate_left
             ·rintro w' ⟨s0, s1, s2, s3, s4, s5, s6, s7⟩
              go_simp
              with_reducible rfl
             rotate_left
             ·simp only [Act.put, Kp.s0, Kp.s1, Kp.s2, i64_w, i32_w]
              rfl
             refine take_ (i := 8) (N := some 119) (v := ?_) (a' := ?_) #[true, true, true, true, true, true, true, true, true, true, true, true, false, true, true, true, true, false, false, false, false, false, false, false] rfl rfl (take_ofW HT_.out HW_.out (by kernel_rfl)) (fun _ _ _ h => h) (Or.inl ⟨by rfl, ?_⟩) hHeld ?_ ?_
             rotate_left
             ·rintro w' ⟨s0, s1, s2, s3, s4, s5, s6, s7⟩
              go_simp
              with_reducible rfl
             rotate_left
             ·simp only [Act.put, Kp.s0, Kp.s1, Kp.s2, i64_w, i32_w]
              rfl
             refine take_ (i := 12) (N := some 123) (v := ?_) (a' := ?_) #[true, true, true, true, true, true, true, true, true, true, true, true, true, true, true, true, true, false, false, false, false, false, false, false] rfl rfl (take_ofW HT_.out HW_.out (by kernel_rfl)) (fun _ _ _ h => h) (Or.inl ⟨by rfl, ?_⟩) hHeld ?_ ?_
             rotate_left
             ·rintro w' ⟨s0, s1, s2, s3, s4, s5, s6, s7⟩
              go_simp
              with_reducible rfl
             rotate_left
             ·simp only [Act.put, Kp.s0, Kp.s1, Kp.s2, i64_w, i32_w]
              rfl
             refine take_ (i := 17) (N := some 128) (v := ?_) (a' := ?_) #[true, true, true, true, true, true, true, true, true, true, true, true, true, true, true, true, true, true, false, false, false, false, false, false] rfl rfl (take_ofW HT_.out HW_.out (by kernel_rfl)) (fun _ _ _ h => h) (Or.inl ⟨by rfl, ?_⟩) hHeld ?_ ?_
             rotate_left
             ·rintro w' ⟨s0, s1, s2, s3, s4, s5, s6, s7⟩
              go_simp
              with_reducible rfl
             rotate_left
             ·simp only [Act.put, Kp.s0, Kp.s1, Kp.s2, i64_w, i32_w]
              rfl
             refine one_ (i := 18) (N := some 129) #[true, true, true, true, true, true, true, true, true, true, true, true, true, true, true, true, true, true, true, false, false, false, false, false] rfl rfl (one_of HT_.out (by kernel_rfl)) (by decide) (fun K hK => ?_)
             refine goes_ Try.func69 (by kernel_rfl) rfl #[.agg #[.int .i64 ((rd_T34 x11_4 x102_5).f0), .int .i64 ((rd_T34 x11_4 x102_5).f1)], .agg #[.int .i64 ((rd_T34 x11_4 (ji62)).f0), .int .i64 ((rd_T34 x11_4 (ji62)).f1)], .agg #[.int .i64 ((rd_T34 x11_4 x16_6).f0), .int .i64 ((rd_T34 x11_4 x16_6).f1)], .agg #[.int .i64 ((rd_T34 x11_4 (ji67)).f0), .int .i64 ((rd_T34 x11_4 (ji67)).f1)]] (by rfl) rfl rfl (by (try simp only [List.map_toArray, List.map_cons, List.map_nil]); first | done | (simp only [hji62, hji67]; rfl) | rfl | (simp only [List.length_drop, List.length_take]; rfl)) ?_
             with_reducible refine (impl_crossing.calls ((rd_T34 x11_4 x102_5).f0) ((rd_T34 x11_4 x102_5).f1) ((rd_T34 x11_4 (ji62)).f0) ((rd_T34 x11_4 (ji62)).f1) ((rd_T34 x11_4 x16_6).f0) ((rd_T34 x11_4 x16_6).f1) ((rd_T34 x11_4 (ji67)).f0) ((rd_T34 x11_4 (ji67)).f1) t255 t256 _ A70.out).mono ?_
             rintro e w82 ⟨v257, rfl, ho0, hb⟩
             have HS0_ := (hb.cell (World.block_lt_of_cell? _ _ (hHeld.1))).trans (hHeld.1)
             have HS1_ := (hb.cell (World.block_lt_of_cell? _ _ (hHeld.2.1))).trans (hHeld.2.1)
             have HS2_ := (hb.cell (World.block_lt_of_cell? _ _ (hHeld.2.2.1))).trans (hHeld.2.2.1)
             have HS3_ := (hb.cell (World.block_lt_of_cell? _ _ (hHeld.2.2.2.1))).trans (hHeld.2.2.2.1)
             have HS4_ := (hb.cell (World.block_lt_of_cell? _ _ (hHeld.2.2.2.2.1))).trans (hHeld.2.2.2.2.1)
             have HS5_ := (hb.cell (World.block_lt_of_cell? _ _ (hHeld.2.2.2.2.2.1))).trans (hHeld.2.2.2.2.2.1)
             have HS6_ := (hb.cell (World.block_lt_of_cell? _ _ (hHeld.2.2.2.2.2.2.1))).trans (hHeld.2.2.2.2.2.2.1)
             have HS7_ := (hb.cell (World.block_lt_of_cell? _ _ (hHeld.2.2.2.2.2.2.2))).trans (hHeld.2.2.2.2.2.2.2)
             refine ⟨_, rfl, ?_⟩
             have n0_ := Kp.a (Kd.R_below (Kp.kpR HO_11.out) hb)
             have n1_ := Kp.a (Kd.R_lower ho0 (below_size (Kp.kpL HB.out)))
             have n2_ := Kp.a (below_step (Kp.kpL HB.out) hb)
             clear HO_11
             clear HB
             have HO_11 := n0_
             have HO258 := n1_
             have HB := n2_
             clear n0_ n1_ n2_
             (try clear hb)
             (try clear hb2)
             (try clear hk)
             (try clear hi)
             (try clear ho0)
             refine hK.out _ _ ⟨HS0_, HS1_, HS2_, HS3_, HS4_, HS5_, HS6_, HS7_⟩ (fun hHeld => ?_)
             clear hK K
             refine norm_ (a' := ?_) ?_ ?_
             rotate_left
             ·show Act.put _ (some 129) _ = _
              simp only [Act.put, Kp.s0, Kp.s1, Kp.s2, i64_w, i32_w]
              rfl
             refine pure_ (i := 19) (N := some 110) (v := ?_) (a' := ?_) #[true, true, true, true, true, true, true, true, true, true, true, true, true, true, true, true, true, true, true, true, false, false, false, false] rfl rfl (any_of HT_.out (by kernel_rfl)) (fun _ _ _ h => h) (Or.inl ⟨by rfl, ?_⟩) ?_ ?_
             rotate_left
             ·intro w'
              go_simp
              with_reducible rfl
             rotate_left
             ·simp only [Act.put, Kp.s0, Kp.s1, Kp.s2, i64_w, i32_w]
              rfl
             refine pure_ (i := 20) (N := some 130) (v := ?_) (a' := ?_) #[true, true, true, true, true, true, true, true, true, true, true, true, true, true, true, true, true, true, true, true, true, false, false, false] rfl rfl (any_of HT_.out (by kernel_rfl)) (fun _ _ _ h => h) (Or.inl ⟨by rfl, ?_⟩) ?_ ?_
             rotate_left
             ·intro w'
              go_simp
              with_reducible rfl
             rotate_left
             ·simp only [Act.put, Kp.s0, Kp.s1, Kp.s2, i64_w, i32_w]
              rfl
             refine pure_ (i := 21) (N := some 131) (v := ?_) (a' := ?_) #[true, true, true, true, true, true, true, true, true, true, true, true, true, true, true, true, true, true, true, true, true, true, false, false] rfl rfl (any_of HT_.out (by kernel_rfl)) (fun _ _ _ h => h) (Or.inl ⟨by rfl, ?_⟩) ?_ ?_
             rotate_left
             ·intro w'
              go_simp
              with_reducible rfl
             rotate_left
             ·simp only [Act.put, Kp.s0, Kp.s1, Kp.s2, i64_w, i32_w]
              rfl
             refine pure_ (i := 22) (N := some 17) (v := ?_) (a' := ?_) #[true, true, true, true, true, true, true, true, true, true, true, true, true, true, true, true, true, true, true, true, true, true, true, false] rfl rfl (any_of HT_.out (by kernel_rfl)) (fun _ _ _ h => h) (Or.inl ⟨by rfl, ?_⟩) ?_ ?_
             rotate_left
             ·intro w'
              go_simp
              with_reducible rfl
             rotate_left
             ·simp only [Act.put, Kp.s0, Kp.s1, Kp.s2, i64_w, i32_w]
              rfl
             refine pure_ (i := 23) (N := some 18) (v := ?_) (a' := ?_) #[true, true, true, true, true, true, true, true, true, true, true, true, true, true, true, true, true, true, true, true, true, true, true, true] rfl rfl (any_of HT_.out (by kernel_rfl)) (fun _ _ _ h => h) (Or.inl ⟨by rfl, ?_⟩) ?_ ?_
             rotate_left
             ·intro w'
              go_simp
              with_reducible rfl
             rotate_left
             ·simp only [Act.put, Kp.s0, Kp.s1, Kp.s2, i64_w, i32_w]
              rfl
             refine done_ (done_of HT_.out (by kernel_rfl)) ?_
             try go_wp2
             go_roundg k6
             case measure => have := HJ2.out; have := HJ5.out; have := HK3.out; have := HK4.out; have := HK5.out; have := HK6.out; omega
             case rel => exact ⟨(ji67), (by first | rfl | (simp; done) | (simp only [← hji67] <;> (first | rfl | simp)) | (simp [*]; done)), H', ⟨by have := HJ2.out; have := HJ5.out; have := HK3.out; have := HK4.out; have := HK5.out; have := HK6.out; omega⟩, ⟨Kp.kpR HO_11.out⟩, ⟨Kp.kpL HB.out⟩⟩
end Go.Proofs.Ytgnhcdchpeeoaaa.PW


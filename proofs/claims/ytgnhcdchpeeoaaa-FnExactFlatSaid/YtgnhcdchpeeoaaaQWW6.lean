import Derived.Test.YtgnhcdchpeeoaaaQWW0
import Derived.Test.YtgnhcdchpeeoaaaQWW3
import Derived.Test.YtgnhcdchpeeoaaaQWW4
import Derived.Test.YtgnhcdchpeeoaaaQWW5
import Derived.Deep.RegionHeld3
import Derived.Lib.Hide
import Derived.Test.YtgnhcdchpeeoaaaQWPureCross
namespace Go.Proofs.Ytgnhcdchpeeoaaa.PW
open Go.RowKit Go.Proofs.YtgnhcdchpeeoaaaW.PrintWords Go.Proofs.YtgnhcdchpeeoaaaW.PrintLast Go.Proofs.YtgnhcdchpeeoaaaW.PrintMore
attribute [local go_sem] max2_int min2_int max_two min_two max_three min_three max_four min_four
set_option linter.unusedVariables false
set_option linter.unusedSimpArgs false
def spec_l03Cross.f (k : Nat) (a0_0 : Int) (a0_1 : Int) (a1_0 : Int) (a1_1 : Int) (a2_0 : Int) (a2_1 : Int) (a3_0 : Int) (a3_1 : Int) : Option (List S41) :=
 if Plane.InAt a0_0 ∧ Plane.InAt a0_1 ∧ Plane.InAt a1_0 ∧ Plane.InAt a1_1 ∧ Plane.InAt a2_0 ∧ Plane.InAt a2_1 ∧ Plane.InAt a3_0 ∧ Plane.InAt a3_1 then
  some ((Plane.crossP a0_0 a0_1 a1_0 a1_1 a2_0 a2_1 a3_0 a3_1).map fun t => ⟨t.1, t.2.1, t.2.2⟩)
 else none
def spT (t : Int × Int × Int) : S41 := ⟨t.1, t.2.1, t.2.2⟩
theorem qside {a b c : Int × Int} (ha : Plane.InP a) (hb : Plane.InP b) (hc : Plane.InP c) (W : World) :
  Calls Try.prog 68 #[.agg #[.int .i64 a.1, .int .i64 a.2], .agg #[.int .i64 b.1, .int .i64 b.2], .agg #[.int .i64 c.1, .int .i64 c.2]] W fun e w' => e = .returned (.int .i64 (Plane.side a.1 a.2 b.1 b.2 c.1 c.2)) ∧ Below W.heap.size W w' :=
 spec_l03Side.calls _ _ _ _ _ _ _ W (cross3_f ⟨ha.1, ha.2, hb.1, hb.2, hc.1, hc.2⟩).1
theorem qless (p q : Int × Int) (v : Bool) (hv : Plane.lessP p q = v) (W : World) : Calls Try.prog 114 #[.agg #[.int .i64 p.1, .int .i64 p.2], .agg #[.int .i64 q.1, .int .i64 q.2]] W fun e w' => e = .returned (.bool v) ∧ Below W.heap.size W w' := by
 refine spec_l03Less.calls _ _ _ _ v W ?_
 rw [← hv]; unfold spec_l03Less.f Plane.lessP
 split
 ·rename_i h; simp [h]
 split <;> (rename_i h1 h2; simp [h1, h2])
theorem qon {a b x : Int × Int} (h : Plane.onB a.1 a.2 b.1 b.2 x.1 x.2 = true) (W : World) : Calls Try.prog 108 #[.agg #[.int .i64 a.1, .int .i64 a.2], .agg #[.int .i64 b.1, .int .i64 b.2], .agg #[.int .i64 x.1, .int .i64 x.2]] W fun e w' => e = .returned (.bool true) ∧ Below W.heap.size W w' := by
 refine spec_l03On.calls _ _ _ _ _ _ true W ?_
 unfold Plane.onB at h
 have h := of_decide_eq_true h
 unfold spec_l03On.f mn mx
 have e1 : (if b.1 < a.1 then b.1 else a.1) = min a.1 b.1 := by split <;> omega
 have e2 : (if a.1 < b.1 then b.1 else a.1) = max a.1 b.1 := by split <;> omega
 have e3 : (if b.2 < a.2 then b.2 else a.2) = min a.2 b.2 := by split <;> omega
 have e4 : (if a.2 < b.2 then b.2 else a.2) = max a.2 b.2 := by split <;> omega
 rw [e1, e2, e3, e4, if_pos (by omega), if_pos (by omega), if_pos (by omega), decide_eq_true (by omega)]
theorem qwhole (p : Int × Int) (W : World) : Calls Try.prog 109 #[.agg #[.int .i64 p.1, .int .i64 p.2]] W fun e w' => e = .returned (.agg #[.int .i64 p.1, .int .i64 p.2, .int .i64 1]) ∧ Below W.heap.size W w' :=
 spec_l03Whole.calls _ _ _ _ _ W rfl
structure BQ (w wr : World) (S : Nat) (a b c d : Int × Int) : Prop where
 ba : wr.heap[S]? = some (.cells #[.int .i64 a.1, .int .i64 a.2] 34 (0, 0))
 bb : wr.heap[S + 1]? = some (.cells #[.int .i64 b.1, .int .i64 b.2] 34 (0, 0))
 bc : wr.heap[S + 1 + 1]? = some (.cells #[.int .i64 c.1, .int .i64 c.2] 34 (0, 0))
 bd : wr.heap[S + 1 + 1 + 1]? = some (.cells #[.int .i64 d.1, .int .i64 d.2] 34 (0, 0))
 bel : Below w.heap.size w wr
theorem BQ.step {w wr w2 : World} {S : Nat} {a b c d : Int × Int} (h : BQ w wr S a b c d) (hb : Below wr.heap.size wr w2) : BQ w w2 S a b c d :=
 ⟨(hb.block _ (blk_lt h.ba)).trans h.ba, (hb.block _ (blk_lt h.bb)).trans h.bb, (hb.block _ (blk_lt h.bc)).trans h.bc, (hb.block _ (blk_lt h.bd)).trans h.bd, below_step h.bel hb⟩
theorem BQ.made (w : World) (a b c d : Int × Int) : BQ w ((((w.alloc (.cells #[.int .i64 a.1, .int .i64 a.2] 34)).alloc (.cells #[.int .i64 b.1, .int .i64 b.2] 34)).alloc (.cells #[.int .i64 c.1, .int .i64 c.2] 34)).alloc (.cells #[.int .i64 d.1, .int .i64 d.2] 34)) w.heap.size a b c d := by
 refine ⟨?_, ?_, ?_, ?_, below4 w _ _ _ _⟩
 all_goals repeat (first | exact heap_alloc_new' _ _ _ (by simp) | refine blk_alloc ?_ _)
theorem eqQ34 (d : Nat) (w : World) (x0 y0 : Int) (x1 y1 : Int) :
  (Op.equalIn (d + 2) 34 (.agg #[.int .i64 x0, .int .i64 x1]) (.agg #[.int .i64 y0, .int .i64 y1])).run Try.prog w = .ok (x0 == y0 && (x1 == y1)) w := by
 refine eqA_of Try.underlying34 (by kernel_rfl) ?_
 refine eqf_cons (by rfl) (by go_simp; rfl) (by go_simp; rfl) (by go_simp) ?_
 exact eqf_last (by rfl) (by go_simp; rfl) (by go_simp; rfl) (by go_simp)
attribute [local go_sem high] eqQ34
theorem BQ.all {w wr : World} {S : Nat} {a b c d : Int × Int} (h : BQ w wr S a b c d) : wr.cell? ⟨S, 0, none⟩ = some (.int .i64 a.1) ∧ wr.cell? ⟨S, 1, none⟩ = some (.int .i64 a.2) ∧ wr.cell? ⟨S + 1, 0, none⟩ = some (.int .i64 b.1) ∧ wr.cell? ⟨S + 1, 1, none⟩ = some (.int .i64 b.2) ∧
  wr.cell? ⟨S + 1 + 1, 0, none⟩ = some (.int .i64 c.1) ∧ wr.cell? ⟨S + 1 + 1, 1, none⟩ = some (.int .i64 c.2) ∧ wr.cell? ⟨S + 1 + 1 + 1, 0, none⟩ = some (.int .i64 d.1) ∧ wr.cell? ⟨S + 1 + 1 + 1, 1, none⟩ = some (.int .i64 d.2) ∧ S < wr.heap.size ∧ S + 1 < wr.heap.size ∧ S + 1 + 1 < wr.heap.size ∧ S + 1 + 1 + 1 < wr.heap.size :=
 ⟨blk_cell h.ba 0, blk_cell h.ba 1, blk_cell h.bb 0, blk_cell h.bb 1, blk_cell h.bc 0, blk_cell h.bc 1, blk_cell h.bd 0, blk_cell h.bd 1, blk_lt h.ba, blk_lt h.bb, blk_lt h.bc, blk_lt h.bd⟩
theorem blkQ {W : World} {g : Nat} {x y : Int} (h : W.heap[g]? = some (.cells #[.int .i64 x, .int .i64 y] 34 (0, 0))) : W.cell? ⟨g, 0, none⟩ = some (.int .i64 x) ∧ W.cell? ⟨g, 1, none⟩ = some (.int .i64 y) ∧ W.frozen? ⟨g, 0, none⟩ = false ∧ W.frozen? ⟨g, 1, none⟩ = false ∧ g < W.heap.size :=
 ⟨blk_cell h 0, blk_cell h 1, blk_frozen h 0, blk_frozen h 1, blk_lt h⟩
theorem BQ.set {w wr : World} {S : Nat} {a b c d : Int × Int} (h : BQ w wr S a b c d) {p : Addr} (hp : S + 1 + 1 + 1 < p.block) (hw : w.heap.size ≤ S) (v : Value) : BQ w (wr.setCell p v) S a b c d :=
 ⟨(Below.heap_setCell _ _ _ _ (by omega)).trans h.ba, (Below.heap_setCell _ _ _ _ (by omega)).trans h.bb, (Below.heap_setCell _ _ _ _ (by omega)).trans h.bc, (Below.heap_setCell _ _ _ _ (by omega)).trans h.bd, h.bel.setCell (by omega) _⟩
theorem cellQ {W w2 : World} (hb : Below W.heap.size W w2) {p : Addr} {v : Value} (h : W.cell? p = some v) : w2.cell? p = some v := (hb.cell (World.block_lt_of_cell? _ _ h)).trans h
theorem qsign (x v : Int) (hv : (if x > 0 then 1 else if x < 0 then -1 else 0) = v) (W : World) : Calls Try.prog 67 #[.int .i64 x] W fun e w' => e = .returned (.int .i64 v) ∧ W = w' := by
 by_cases h1 : x > 0
 ·rw [if_pos h1] at hv; subst hv
  go_enter Try.func67, Try.ntmps67
  go_wp2
  go_ret
  exact ⟨rfl, rfl⟩
 rw [if_neg h1] at hv
 by_cases h2 : x < 0
 ·rw [if_pos h2] at hv; subst hv
  go_enter Try.func67, Try.ntmps67
  go_wp2
  go_ret
  exact ⟨rfl, rfl⟩
 rw [if_neg h2] at hv; subst hv
 go_enter Try.func67, Try.ntmps67
 go_wp2
 go_ret
 exact ⟨rfl, rfl⟩
theorem R_zero (W : World) (base : Nat) (hb : base ≤ W.heap.size) : Kd.R k41 41 (W.alloc (.cells #[] 41)) base (fun _ => True) (.slice (some ⟨W.heap.size, 0, none⟩) 0 0) ([] : List S41) :=
 ⟨fun _ _ => trivial, [], ⟨rfl, .inr ⟨W.heap.size, 0, _, rfl, hb, heap_alloc_new W _, Nat.le_refl _, by unfold maxLen; omega, rfl, rfl⟩⟩, Reps.none _ _⟩
theorem R_two (W : World) (base : Nat) (hb : base ≤ W.heap.size) (s1 s2 s3 t1 t2 t3 : Int) : Kd.R k41 41 (W.alloc (.cells #[.int .i64 s1, .int .i64 s2, .int .i64 s3, .int .i64 t1, .int .i64 t2, .int .i64 t3] 41)) base (fun _ => True) (.slice (some ⟨W.heap.size, 0, none⟩) 2 2) [⟨s1, s2, s3⟩, ⟨t1, t2, t3⟩] :=
 ⟨fun _ _ => trivial, [.int .i64 s1, .int .i64 s2, .int .i64 s3, .int .i64 t1, .int .i64 t2, .int .i64 t3], ⟨rfl, .inr ⟨W.heap.size, 2, _, rfl, hb, heap_alloc_new W _, Nat.le_refl _, by unfold maxLen; omega, rfl, rfl⟩⟩, Reps.snoc (Reps.snoc (Reps.none _ _) (k41_mkM _ _ _ ⟨s1, s2, s3⟩) rfl) (k41_mkM _ _ _ ⟨t1, t2, t3⟩) rfl⟩
set_option maxHeartbeats 2000000 in
set_option maxRecDepth 100000 in
theorem qcross_st {a b c d : Int × Int} (w : World) (ha : Plane.InP a) (hb : Plane.InP b) (hc : Plane.InP c) (hd : Plane.InP d) (s t u v s' t' u' v' : Int)
  (hs : Plane.side a.1 a.2 b.1 b.2 c.1 c.2 = s) (ht : Plane.side a.1 a.2 b.1 b.2 d.1 d.2 = t) (hu : Plane.side c.1 c.2 d.1 d.2 a.1 a.2 = u) (hv : Plane.side c.1 c.2 d.1 d.2 b.1 b.2 = v)
  (hs' : (if s > 0 then 1 else if s < 0 then -1 else 0) = s') (ht' : (if t > 0 then 1 else if t < 0 then -1 else 0) = t') (hu' : (if u > 0 then 1 else if u < 0 then -1 else 0) = u') (hv' : (if v > 0 then 1 else if v < 0 then -1 else 0) = v')
  (rs : (-1 ≤ s' ∧ s' ≤ 1) ∧ (-1 ≤ t' ∧ t' ≤ 1) ∧ (-1 ≤ u' ∧ u' ≤ 1) ∧ (-1 ≤ v' ∧ v' ≤ 1)) (hst : s' * t' > 0) (hs0 : s ≠ 0) :
  Calls Try.prog 75 #[.agg #[.int .i64 a.1, .int .i64 a.2], .agg #[.int .i64 b.1, .int .i64 b.2], .agg #[.int .i64 c.1, .int .i64 c.2], .agg #[.int .i64 d.1, .int .i64 d.2]] w fun e w' => ∃ v0_ : Value, e = .returned v0_ ∧ Kd.R k41 41 w' w.heap.size (fun _ => True) v0_ [] ∧ Below w.heap.size w w' := by
 have q1 := fun W => qside ha hb hc W
 have q2 := fun W => qside ha hb hd W
 have q3 := fun W => qside hc hd ha W
 have q4 := fun W => qside hc hd hb W
 rw [hs] at q1
 rw [ht] at q2
 rw [hu] at q3
 rw [hv] at q4
 have Q1 := Lib.hid q1
 have Q2 := Lib.hid q2
 have Q3 := Lib.hid q3
 have Q4 := Lib.hid q4
 have Q5 := Lib.hid (fun W => qsign s s' hs' W)
 have Q6 := Lib.hid (fun W => qsign t t' ht' W)
 have Q7 := Lib.hid (fun W => qsign u u' hu' W)
 have Q8 := Lib.hid (fun W => qsign v v' hv' W)
 obtain ⟨⟨rs1, rs2⟩, ⟨rt1, rt2⟩, ⟨ru1, ru2⟩, ⟨rv1, rv2⟩⟩ := rs
 obtain ⟨m1, m2⟩ := mulb (x := s') (y := t') (A := 1) (B := 1) rs1 rs2 rt1 rt2
 obtain ⟨m3, m4⟩ := mulb (x := u') (y := v') (A := 1) (B := 1) ru1 ru2 rv1 rv2
 have HX := Lib.hid (BQ.made w a b c d)
 have d1 : decide (0 < s' * t') = true := decide_eq_true hst
 have z1 : (s == 0) = false := beq_eq_false_iff_ne.2 hs0
 clear q1 q2 q3 q4 hs ht hu hv hs' ht' hu' hv' ha hb hc hd
 clear hst hs0
 go_enter Try.func75, Try.ntmps75
 go_wp2_with (first | (go_at_call 68; ((with_reducible refine (Q1.out _).mono ?_)); rintro e w2 ⟨rfl, hb2⟩; have hx2 := HX.out.step hb2; clear hb2; have HX2 := Lib.hid hx2; clear hx2 HX; have HX := Lib.hid HX2.out; clear HX2; obtain ⟨_, _, _, _, _, _, _, _, _, _, _, _⟩ := HX.out.all) | (go_at_call 68; ((with_reducible refine (Q2.out _).mono ?_)); rintro e w2 ⟨rfl, hb2⟩; have hx2 := HX.out.step hb2; clear hb2; have HX2 := Lib.hid hx2; clear hx2 HX; have HX := Lib.hid HX2.out; clear HX2; obtain ⟨_, _, _, _, _, _, _, _, _, _, _, _⟩ := HX.out.all) | (go_at_call 68; ((with_reducible refine (Q3.out _).mono ?_)); rintro e w2 ⟨rfl, hb2⟩; have hx2 := HX.out.step hb2; clear hb2; have HX2 := Lib.hid hx2; clear hx2 HX; have HX := Lib.hid HX2.out; clear HX2; obtain ⟨_, _, _, _, _, _, _, _, _, _, _, _⟩ := HX.out.all) | (go_at_call 68; ((with_reducible refine (Q4.out _).mono ?_)); rintro e w2 ⟨rfl, hb2⟩; have hx2 := HX.out.step hb2; clear hb2; have HX2 := Lib.hid hx2; clear hx2 HX; have HX := Lib.hid HX2.out; clear HX2; obtain ⟨_, _, _, _, _, _, _, _, _, _, _, _⟩ := HX.out.all) | (go_at_call 67; ((with_reducible refine (Q5.out _).mono ?_)); rintro e w2 ⟨rfl, rfl⟩) | (go_at_call 67; ((with_reducible refine (Q6.out _).mono ?_)); rintro e w2 ⟨rfl, rfl⟩) | (go_at_call 67; ((with_reducible refine (Q7.out _).mono ?_)); rintro e w2 ⟨rfl, rfl⟩) | (go_at_call 67; ((with_reducible refine (Q8.out _).mono ?_)); rintro e w2 ⟨rfl, rfl⟩))
 go_ret
 exact ⟨_, rfl, R_zero _ _ HX.out.bel.size, below_alloc HX.out.bel _⟩
set_option maxHeartbeats 2000000 in
set_option maxRecDepth 100000 in
theorem qcross_uva {a b c d : Int × Int} (w : World) (ha : Plane.InP a) (hb : Plane.InP b) (hc : Plane.InP c) (hd : Plane.InP d) (s t u v s' t' u' v' : Int)
  (hs : Plane.side a.1 a.2 b.1 b.2 c.1 c.2 = s) (ht : Plane.side a.1 a.2 b.1 b.2 d.1 d.2 = t) (hu : Plane.side c.1 c.2 d.1 d.2 a.1 a.2 = u) (hv : Plane.side c.1 c.2 d.1 d.2 b.1 b.2 = v)
  (hs' : (if s > 0 then 1 else if s < 0 then -1 else 0) = s') (ht' : (if t > 0 then 1 else if t < 0 then -1 else 0) = t') (hu' : (if u > 0 then 1 else if u < 0 then -1 else 0) = u') (hv' : (if v > 0 then 1 else if v < 0 then -1 else 0) = v')
  (rs : (-1 ≤ s' ∧ s' ≤ 1) ∧ (-1 ≤ t' ∧ t' ≤ 1) ∧ (-1 ≤ u' ∧ u' ≤ 1) ∧ (-1 ≤ v' ∧ v' ≤ 1)) (hst : ¬ s' * t' > 0) (huv : u' * v' > 0) (hs0 : s ≠ 0) :
  Calls Try.prog 75 #[.agg #[.int .i64 a.1, .int .i64 a.2], .agg #[.int .i64 b.1, .int .i64 b.2], .agg #[.int .i64 c.1, .int .i64 c.2], .agg #[.int .i64 d.1, .int .i64 d.2]] w fun e w' => ∃ v0_ : Value, e = .returned v0_ ∧ Kd.R k41 41 w' w.heap.size (fun _ => True) v0_ [] ∧ Below w.heap.size w w' := by
 have q1 := fun W => qside ha hb hc W
 have q2 := fun W => qside ha hb hd W
 have q3 := fun W => qside hc hd ha W
 have q4 := fun W => qside hc hd hb W
 rw [hs] at q1
 rw [ht] at q2
 rw [hu] at q3
 rw [hv] at q4
 have Q1 := Lib.hid q1
 have Q2 := Lib.hid q2
 have Q3 := Lib.hid q3
 have Q4 := Lib.hid q4
 have Q5 := Lib.hid (fun W => qsign s s' hs' W)
 have Q6 := Lib.hid (fun W => qsign t t' ht' W)
 have Q7 := Lib.hid (fun W => qsign u u' hu' W)
 have Q8 := Lib.hid (fun W => qsign v v' hv' W)
 obtain ⟨⟨rs1, rs2⟩, ⟨rt1, rt2⟩, ⟨ru1, ru2⟩, ⟨rv1, rv2⟩⟩ := rs
 obtain ⟨m1, m2⟩ := mulb (x := s') (y := t') (A := 1) (B := 1) rs1 rs2 rt1 rt2
 obtain ⟨m3, m4⟩ := mulb (x := u') (y := v') (A := 1) (B := 1) ru1 ru2 rv1 rv2
 have HX := Lib.hid (BQ.made w a b c d)
 have d1 : decide (0 < s' * t') = false := decide_eq_false (by omega)
 have d2 : decide (0 < u' * v') = true := decide_eq_true huv
 have z1 : (s == 0) = false := beq_eq_false_iff_ne.2 hs0
 clear q1 q2 q3 q4 hs ht hu hv hs' ht' hu' hv' ha hb hc hd
 clear hst huv hs0
 go_enter Try.func75, Try.ntmps75
 go_wp2_with (first | (go_at_call 68; ((with_reducible refine (Q1.out _).mono ?_)); rintro e w2 ⟨rfl, hb2⟩; have hx2 := HX.out.step hb2; clear hb2; have HX2 := Lib.hid hx2; clear hx2 HX; have HX := Lib.hid HX2.out; clear HX2; obtain ⟨_, _, _, _, _, _, _, _, _, _, _, _⟩ := HX.out.all) | (go_at_call 68; ((with_reducible refine (Q2.out _).mono ?_)); rintro e w2 ⟨rfl, hb2⟩; have hx2 := HX.out.step hb2; clear hb2; have HX2 := Lib.hid hx2; clear hx2 HX; have HX := Lib.hid HX2.out; clear HX2; obtain ⟨_, _, _, _, _, _, _, _, _, _, _, _⟩ := HX.out.all) | (go_at_call 68; ((with_reducible refine (Q3.out _).mono ?_)); rintro e w2 ⟨rfl, hb2⟩; have hx2 := HX.out.step hb2; clear hb2; have HX2 := Lib.hid hx2; clear hx2 HX; have HX := Lib.hid HX2.out; clear HX2; obtain ⟨_, _, _, _, _, _, _, _, _, _, _, _⟩ := HX.out.all) | (go_at_call 68; ((with_reducible refine (Q4.out _).mono ?_)); rintro e w2 ⟨rfl, hb2⟩; have hx2 := HX.out.step hb2; clear hb2; have HX2 := Lib.hid hx2; clear hx2 HX; have HX := Lib.hid HX2.out; clear HX2; obtain ⟨_, _, _, _, _, _, _, _, _, _, _, _⟩ := HX.out.all) | (go_at_call 67; ((with_reducible refine (Q5.out _).mono ?_)); rintro e w2 ⟨rfl, rfl⟩) | (go_at_call 67; ((with_reducible refine (Q6.out _).mono ?_)); rintro e w2 ⟨rfl, rfl⟩) | (go_at_call 67; ((with_reducible refine (Q7.out _).mono ?_)); rintro e w2 ⟨rfl, rfl⟩) | (go_at_call 67; ((with_reducible refine (Q8.out _).mono ?_)); rintro e w2 ⟨rfl, rfl⟩))
 go_ret
 exact ⟨_, rfl, R_zero _ _ HX.out.bel.size, below_alloc HX.out.bel _⟩
set_option maxHeartbeats 2000000 in
set_option maxRecDepth 100000 in
theorem qcross_uvb {a b c d : Int × Int} (w : World) (ha : Plane.InP a) (hb : Plane.InP b) (hc : Plane.InP c) (hd : Plane.InP d) (s t u v s' t' u' v' : Int)
  (hs : Plane.side a.1 a.2 b.1 b.2 c.1 c.2 = s) (ht : Plane.side a.1 a.2 b.1 b.2 d.1 d.2 = t) (hu : Plane.side c.1 c.2 d.1 d.2 a.1 a.2 = u) (hv : Plane.side c.1 c.2 d.1 d.2 b.1 b.2 = v)
  (hs' : (if s > 0 then 1 else if s < 0 then -1 else 0) = s') (ht' : (if t > 0 then 1 else if t < 0 then -1 else 0) = t') (hu' : (if u > 0 then 1 else if u < 0 then -1 else 0) = u') (hv' : (if v > 0 then 1 else if v < 0 then -1 else 0) = v')
  (rs : (-1 ≤ s' ∧ s' ≤ 1) ∧ (-1 ≤ t' ∧ t' ≤ 1) ∧ (-1 ≤ u' ∧ u' ≤ 1) ∧ (-1 ≤ v' ∧ v' ≤ 1)) (hst : ¬ s' * t' > 0) (huv : u' * v' > 0) (hs0 : s = 0) (ht0 : t ≠ 0) :
  Calls Try.prog 75 #[.agg #[.int .i64 a.1, .int .i64 a.2], .agg #[.int .i64 b.1, .int .i64 b.2], .agg #[.int .i64 c.1, .int .i64 c.2], .agg #[.int .i64 d.1, .int .i64 d.2]] w fun e w' => ∃ v0_ : Value, e = .returned v0_ ∧ Kd.R k41 41 w' w.heap.size (fun _ => True) v0_ [] ∧ Below w.heap.size w w' := by
 have q1 := fun W => qside ha hb hc W
 have q2 := fun W => qside ha hb hd W
 have q3 := fun W => qside hc hd ha W
 have q4 := fun W => qside hc hd hb W
 rw [hs] at q1
 rw [ht] at q2
 rw [hu] at q3
 rw [hv] at q4
 have Q1 := Lib.hid q1
 have Q2 := Lib.hid q2
 have Q3 := Lib.hid q3
 have Q4 := Lib.hid q4
 have Q5 := Lib.hid (fun W => qsign s s' hs' W)
 have Q6 := Lib.hid (fun W => qsign t t' ht' W)
 have Q7 := Lib.hid (fun W => qsign u u' hu' W)
 have Q8 := Lib.hid (fun W => qsign v v' hv' W)
 obtain ⟨⟨rs1, rs2⟩, ⟨rt1, rt2⟩, ⟨ru1, ru2⟩, ⟨rv1, rv2⟩⟩ := rs
 obtain ⟨m1, m2⟩ := mulb (x := s') (y := t') (A := 1) (B := 1) rs1 rs2 rt1 rt2
 obtain ⟨m3, m4⟩ := mulb (x := u') (y := v') (A := 1) (B := 1) ru1 ru2 rv1 rv2
 have HX := Lib.hid (BQ.made w a b c d)
 have d1 : decide (0 < s' * t') = false := decide_eq_false (by omega)
 have d2 : decide (0 < u' * v') = true := decide_eq_true huv
 have z1 : (s == 0) = true := beq_iff_eq.2 hs0
 have z2 : (t == 0) = false := beq_eq_false_iff_ne.2 ht0
 clear q1 q2 q3 q4 hs ht hu hv hs' ht' hu' hv' ha hb hc hd
 clear hst huv hs0 ht0
 go_enter Try.func75, Try.ntmps75
 go_wp2_with (first | (go_at_call 68; ((with_reducible refine (Q1.out _).mono ?_)); rintro e w2 ⟨rfl, hb2⟩; have hx2 := HX.out.step hb2; clear hb2; have HX2 := Lib.hid hx2; clear hx2 HX; have HX := Lib.hid HX2.out; clear HX2; obtain ⟨_, _, _, _, _, _, _, _, _, _, _, _⟩ := HX.out.all) | (go_at_call 68; ((with_reducible refine (Q2.out _).mono ?_)); rintro e w2 ⟨rfl, hb2⟩; have hx2 := HX.out.step hb2; clear hb2; have HX2 := Lib.hid hx2; clear hx2 HX; have HX := Lib.hid HX2.out; clear HX2; obtain ⟨_, _, _, _, _, _, _, _, _, _, _, _⟩ := HX.out.all) | (go_at_call 68; ((with_reducible refine (Q3.out _).mono ?_)); rintro e w2 ⟨rfl, hb2⟩; have hx2 := HX.out.step hb2; clear hb2; have HX2 := Lib.hid hx2; clear hx2 HX; have HX := Lib.hid HX2.out; clear HX2; obtain ⟨_, _, _, _, _, _, _, _, _, _, _, _⟩ := HX.out.all) | (go_at_call 68; ((with_reducible refine (Q4.out _).mono ?_)); rintro e w2 ⟨rfl, hb2⟩; have hx2 := HX.out.step hb2; clear hb2; have HX2 := Lib.hid hx2; clear hx2 HX; have HX := Lib.hid HX2.out; clear HX2; obtain ⟨_, _, _, _, _, _, _, _, _, _, _, _⟩ := HX.out.all) | (go_at_call 67; ((with_reducible refine (Q5.out _).mono ?_)); rintro e w2 ⟨rfl, rfl⟩) | (go_at_call 67; ((with_reducible refine (Q6.out _).mono ?_)); rintro e w2 ⟨rfl, rfl⟩) | (go_at_call 67; ((with_reducible refine (Q7.out _).mono ?_)); rintro e w2 ⟨rfl, rfl⟩) | (go_at_call 67; ((with_reducible refine (Q8.out _).mono ?_)); rintro e w2 ⟨rfl, rfl⟩))
 go_ret
 exact ⟨_, rfl, R_zero _ _ HX.out.bel.size, below_alloc HX.out.bel _⟩
set_option maxHeartbeats 2000000 in
set_option maxRecDepth 100000 in
theorem qcross_uvc {a b c d : Int × Int} (w : World) (ha : Plane.InP a) (hb : Plane.InP b) (hc : Plane.InP c) (hd : Plane.InP d) (s t u v s' t' u' v' : Int)
  (hs : Plane.side a.1 a.2 b.1 b.2 c.1 c.2 = s) (ht : Plane.side a.1 a.2 b.1 b.2 d.1 d.2 = t) (hu : Plane.side c.1 c.2 d.1 d.2 a.1 a.2 = u) (hv : Plane.side c.1 c.2 d.1 d.2 b.1 b.2 = v)
  (hs' : (if s > 0 then 1 else if s < 0 then -1 else 0) = s') (ht' : (if t > 0 then 1 else if t < 0 then -1 else 0) = t') (hu' : (if u > 0 then 1 else if u < 0 then -1 else 0) = u') (hv' : (if v > 0 then 1 else if v < 0 then -1 else 0) = v')
  (rs : (-1 ≤ s' ∧ s' ≤ 1) ∧ (-1 ≤ t' ∧ t' ≤ 1) ∧ (-1 ≤ u' ∧ u' ≤ 1) ∧ (-1 ≤ v' ∧ v' ≤ 1)) (hst : ¬ s' * t' > 0) (huv : u' * v' > 0) (hs0 : s = 0) (ht0 : t = 0) (hu0 : u ≠ 0) :
  Calls Try.prog 75 #[.agg #[.int .i64 a.1, .int .i64 a.2], .agg #[.int .i64 b.1, .int .i64 b.2], .agg #[.int .i64 c.1, .int .i64 c.2], .agg #[.int .i64 d.1, .int .i64 d.2]] w fun e w' => ∃ v0_ : Value, e = .returned v0_ ∧ Kd.R k41 41 w' w.heap.size (fun _ => True) v0_ [] ∧ Below w.heap.size w w' := by
 have q1 := fun W => qside ha hb hc W
 have q2 := fun W => qside ha hb hd W
 have q3 := fun W => qside hc hd ha W
 have q4 := fun W => qside hc hd hb W
 rw [hs] at q1
 rw [ht] at q2
 rw [hu] at q3
 rw [hv] at q4
 have Q1 := Lib.hid q1
 have Q2 := Lib.hid q2
 have Q3 := Lib.hid q3
 have Q4 := Lib.hid q4
 have Q5 := Lib.hid (fun W => qsign s s' hs' W)
 have Q6 := Lib.hid (fun W => qsign t t' ht' W)
 have Q7 := Lib.hid (fun W => qsign u u' hu' W)
 have Q8 := Lib.hid (fun W => qsign v v' hv' W)
 obtain ⟨⟨rs1, rs2⟩, ⟨rt1, rt2⟩, ⟨ru1, ru2⟩, ⟨rv1, rv2⟩⟩ := rs
 obtain ⟨m1, m2⟩ := mulb (x := s') (y := t') (A := 1) (B := 1) rs1 rs2 rt1 rt2
 obtain ⟨m3, m4⟩ := mulb (x := u') (y := v') (A := 1) (B := 1) ru1 ru2 rv1 rv2
 have HX := Lib.hid (BQ.made w a b c d)
 have d1 : decide (0 < s' * t') = false := decide_eq_false (by omega)
 have d2 : decide (0 < u' * v') = true := decide_eq_true huv
 have z1 : (s == 0) = true := beq_iff_eq.2 hs0
 have z2 : (t == 0) = true := beq_iff_eq.2 ht0
 have z3 : (u == 0) = false := beq_eq_false_iff_ne.2 hu0
 clear q1 q2 q3 q4 hs ht hu hv hs' ht' hu' hv' ha hb hc hd
 clear hst huv hs0 ht0 hu0
 go_enter Try.func75, Try.ntmps75
 go_wp2_with (first | (go_at_call 68; ((with_reducible refine (Q1.out _).mono ?_)); rintro e w2 ⟨rfl, hb2⟩; have hx2 := HX.out.step hb2; clear hb2; have HX2 := Lib.hid hx2; clear hx2 HX; have HX := Lib.hid HX2.out; clear HX2; obtain ⟨_, _, _, _, _, _, _, _, _, _, _, _⟩ := HX.out.all) | (go_at_call 68; ((with_reducible refine (Q2.out _).mono ?_)); rintro e w2 ⟨rfl, hb2⟩; have hx2 := HX.out.step hb2; clear hb2; have HX2 := Lib.hid hx2; clear hx2 HX; have HX := Lib.hid HX2.out; clear HX2; obtain ⟨_, _, _, _, _, _, _, _, _, _, _, _⟩ := HX.out.all) | (go_at_call 68; ((with_reducible refine (Q3.out _).mono ?_)); rintro e w2 ⟨rfl, hb2⟩; have hx2 := HX.out.step hb2; clear hb2; have HX2 := Lib.hid hx2; clear hx2 HX; have HX := Lib.hid HX2.out; clear HX2; obtain ⟨_, _, _, _, _, _, _, _, _, _, _, _⟩ := HX.out.all) | (go_at_call 68; ((with_reducible refine (Q4.out _).mono ?_)); rintro e w2 ⟨rfl, hb2⟩; have hx2 := HX.out.step hb2; clear hb2; have HX2 := Lib.hid hx2; clear hx2 HX; have HX := Lib.hid HX2.out; clear HX2; obtain ⟨_, _, _, _, _, _, _, _, _, _, _, _⟩ := HX.out.all) | (go_at_call 67; ((with_reducible refine (Q5.out _).mono ?_)); rintro e w2 ⟨rfl, rfl⟩) | (go_at_call 67; ((with_reducible refine (Q6.out _).mono ?_)); rintro e w2 ⟨rfl, rfl⟩) | (go_at_call 67; ((with_reducible refine (Q7.out _).mono ?_)); rintro e w2 ⟨rfl, rfl⟩) | (go_at_call 67; ((with_reducible refine (Q8.out _).mono ?_)); rintro e w2 ⟨rfl, rfl⟩))
 go_ret
 exact ⟨_, rfl, R_zero _ _ HX.out.bel.size, below_alloc HX.out.bel _⟩
set_option maxHeartbeats 2000000 in
set_option maxRecDepth 100000 in
theorem qcross_spa {a b c d : Int × Int} (w : World) (ha : Plane.InP a) (hb : Plane.InP b) (hc : Plane.InP c) (hd : Plane.InP d) (s t u v s' t' u' v' : Int)
  (hs : Plane.side a.1 a.2 b.1 b.2 c.1 c.2 = s) (ht : Plane.side a.1 a.2 b.1 b.2 d.1 d.2 = t) (hu : Plane.side c.1 c.2 d.1 d.2 a.1 a.2 = u) (hv : Plane.side c.1 c.2 d.1 d.2 b.1 b.2 = v)
  (hs' : (if s > 0 then 1 else if s < 0 then -1 else 0) = s') (ht' : (if t > 0 then 1 else if t < 0 then -1 else 0) = t') (hu' : (if u > 0 then 1 else if u < 0 then -1 else 0) = u') (hv' : (if v > 0 then 1 else if v < 0 then -1 else 0) = v')
  (rs : (-1 ≤ s' ∧ s' ≤ 1) ∧ (-1 ≤ t' ∧ t' ≤ 1) ∧ (-1 ≤ u' ∧ u' ≤ 1) ∧ (-1 ≤ v' ∧ v' ≤ 1)) (hst : ¬ s' * t' > 0) (huv : ¬ u' * v' > 0) (hs0 : s ≠ 0) (nab : a ≠ b) (ncd : c ≠ d) (r : Int × Int × Int) (hq9 : ∀ W, Calls Try.prog 110 #[.int .i64 (c.1 * (s - t) + (d.1 - c.1) * s), .int .i64 (c.2 * (s - t) + (d.2 - c.2) * s), .int .i64 (s - t)] W fun e w' => e = .returned (.agg #[.int .i64 r.1, .int .i64 r.2.1, .int .i64 r.2.2]) ∧ Below W.heap.size W w') :
  Calls Try.prog 75 #[.agg #[.int .i64 a.1, .int .i64 a.2], .agg #[.int .i64 b.1, .int .i64 b.2], .agg #[.int .i64 c.1, .int .i64 c.2], .agg #[.int .i64 d.1, .int .i64 d.2]] w fun e w' => ∃ v0_ : Value, e = .returned v0_ ∧ Kd.R k41 41 w' w.heap.size (fun _ => True) v0_ [spT r] ∧ Below w.heap.size w w' := by
 have q1 := fun W => qside ha hb hc W
 have q2 := fun W => qside ha hb hd W
 have q3 := fun W => qside hc hd ha W
 have q4 := fun W => qside hc hd hb W
 rw [hs] at q1
 rw [ht] at q2
 rw [hu] at q3
 rw [hv] at q4
 have Q1 := Lib.hid q1
 have Q2 := Lib.hid q2
 have Q3 := Lib.hid q3
 have Q4 := Lib.hid q4
 have Q5 := Lib.hid (fun W => qsign s s' hs' W)
 have Q6 := Lib.hid (fun W => qsign t t' ht' W)
 have Q7 := Lib.hid (fun W => qsign u u' hu' W)
 have Q8 := Lib.hid (fun W => qsign v v' hv' W)
 obtain ⟨⟨rs1, rs2⟩, ⟨rt1, rt2⟩, ⟨ru1, ru2⟩, ⟨rv1, rv2⟩⟩ := rs
 obtain ⟨m1, m2⟩ := mulb (x := s') (y := t') (A := 1) (B := 1) rs1 rs2 rt1 rt2
 obtain ⟨m3, m4⟩ := mulb (x := u') (y := v') (A := 1) (B := 1) ru1 ru2 rv1 rv2
 have HX := Lib.hid (BQ.made w a b c d)
 have ic := hc
 have id := hd
 unfold Plane.InP Plane.InAt at ic id
 have bst : -80000000000 ≤ s ∧ s ≤ 80000000000 := by rw [← hs]; exact (cross3_f ⟨ha.1, ha.2, hb.1, hb.2, hc.1, hc.2⟩).2
 have btt : -80000000000 ≤ t ∧ t ≤ 80000000000 := by rw [← ht]; exact (cross3_f ⟨ha.1, ha.2, hb.1, hb.2, hd.1, hd.2⟩).2
 obtain ⟨⟨c1, c2⟩, ⟨c3, c4⟩⟩ := ic
 obtain ⟨⟨e1, e2⟩, ⟨e3, e4⟩⟩ := id
 obtain ⟨b1, b2⟩ := bst
 obtain ⟨b3, b4⟩ := btt
 obtain ⟨n1, n2⟩ := mulb (x := c.1) (y := s - t) (A := 100000) (B := 160000000000) (by omega) (by omega) (by omega) (by omega)
 obtain ⟨n3, n4⟩ := mulb (x := d.1 - c.1) (y := s) (A := 200000) (B := 80000000000) (by omega) (by omega) (by omega) (by omega)
 obtain ⟨n5, n6⟩ := mulb (x := c.2) (y := s - t) (A := 100000) (B := 160000000000) (by omega) (by omega) (by omega) (by omega)
 obtain ⟨n7, n8⟩ := mulb (x := d.2 - c.2) (y := s) (A := 200000) (B := 80000000000) (by omega) (by omega) (by omega) (by omega)
 have hab : (a.1 == b.1 && (a.2 == b.2)) = false := Bool.eq_false_iff.2 fun h => nab (by rw [Bool.and_eq_true, beq_iff_eq, beq_iff_eq] at h; exact Prod.ext h.1 h.2)
 have hcd : (c.1 == d.1 && (c.2 == d.2)) = false := Bool.eq_false_iff.2 fun h => ncd (by rw [Bool.and_eq_true, beq_iff_eq, beq_iff_eq] at h; exact Prod.ext h.1 h.2)
 have Q9 := Lib.hid hq9
 have d1 : decide (0 < s' * t') = false := decide_eq_false (by omega)
 have d2 : decide (0 < u' * v') = false := decide_eq_false (by omega)
 have z1 : (s == 0) = false := beq_eq_false_iff_ne.2 hs0
 clear q1 q2 q3 q4 hs ht hu hv hs' ht' hu' hv' ha hb hc hd
 clear hst huv nab ncd hq9 hs0
 go_enter Try.func75, Try.ntmps75
 go_wp2_with (first | (go_at_call 68; ((with_reducible refine (Q1.out _).mono ?_)); rintro e w2 ⟨rfl, hb2⟩; have hx2 := HX.out.step hb2; clear hb2; have HX2 := Lib.hid hx2; clear hx2 HX; have HX := Lib.hid HX2.out; clear HX2; obtain ⟨_, _, _, _, _, _, _, _, _, _, _, _⟩ := HX.out.all) | (go_at_call 68; ((with_reducible refine (Q2.out _).mono ?_)); rintro e w2 ⟨rfl, hb2⟩; have hx2 := HX.out.step hb2; clear hb2; have HX2 := Lib.hid hx2; clear hx2 HX; have HX := Lib.hid HX2.out; clear HX2; obtain ⟨_, _, _, _, _, _, _, _, _, _, _, _⟩ := HX.out.all) | (go_at_call 68; ((with_reducible refine (Q3.out _).mono ?_)); rintro e w2 ⟨rfl, hb2⟩; have hx2 := HX.out.step hb2; clear hb2; have HX2 := Lib.hid hx2; clear hx2 HX; have HX := Lib.hid HX2.out; clear HX2; obtain ⟨_, _, _, _, _, _, _, _, _, _, _, _⟩ := HX.out.all) | (go_at_call 68; ((with_reducible refine (Q4.out _).mono ?_)); rintro e w2 ⟨rfl, hb2⟩; have hx2 := HX.out.step hb2; clear hb2; have HX2 := Lib.hid hx2; clear hx2 HX; have HX := Lib.hid HX2.out; clear HX2; obtain ⟨_, _, _, _, _, _, _, _, _, _, _, _⟩ := HX.out.all) | (go_at_call 67; ((with_reducible refine (Q5.out _).mono ?_)); rintro e w2 ⟨rfl, rfl⟩) | (go_at_call 67; ((with_reducible refine (Q6.out _).mono ?_)); rintro e w2 ⟨rfl, rfl⟩) | (go_at_call 67; ((with_reducible refine (Q7.out _).mono ?_)); rintro e w2 ⟨rfl, rfl⟩) | (go_at_call 67; ((with_reducible refine (Q8.out _).mono ?_)); rintro e w2 ⟨rfl, rfl⟩) | (go_at_call 110; ((with_reducible refine (Q9.out _).mono ?_)); rintro e w2 ⟨rfl, hb2⟩; have hx2 := HX.out.step hb2; clear hb2; have HX2 := Lib.hid hx2; clear hx2 HX; have HX := Lib.hid HX2.out; clear HX2; obtain ⟨_, _, _, _, _, _, _, _, _, _, _, _⟩ := HX.out.all))
 go_ret
 exact ⟨_, rfl, R_one _ _ HX.out.bel.size _ _ _, below_alloc HX.out.bel _⟩
set_option maxHeartbeats 2000000 in
set_option maxRecDepth 100000 in
theorem qcross_spb {a b c d : Int × Int} (w : World) (ha : Plane.InP a) (hb : Plane.InP b) (hc : Plane.InP c) (hd : Plane.InP d) (s t u v s' t' u' v' : Int)
  (hs : Plane.side a.1 a.2 b.1 b.2 c.1 c.2 = s) (ht : Plane.side a.1 a.2 b.1 b.2 d.1 d.2 = t) (hu : Plane.side c.1 c.2 d.1 d.2 a.1 a.2 = u) (hv : Plane.side c.1 c.2 d.1 d.2 b.1 b.2 = v)
  (hs' : (if s > 0 then 1 else if s < 0 then -1 else 0) = s') (ht' : (if t > 0 then 1 else if t < 0 then -1 else 0) = t') (hu' : (if u > 0 then 1 else if u < 0 then -1 else 0) = u') (hv' : (if v > 0 then 1 else if v < 0 then -1 else 0) = v')
  (rs : (-1 ≤ s' ∧ s' ≤ 1) ∧ (-1 ≤ t' ∧ t' ≤ 1) ∧ (-1 ≤ u' ∧ u' ≤ 1) ∧ (-1 ≤ v' ∧ v' ≤ 1)) (hst : ¬ s' * t' > 0) (huv : ¬ u' * v' > 0) (hs0 : s = 0) (ht0 : t ≠ 0) (nab : a ≠ b) (ncd : c ≠ d) (r : Int × Int × Int) (hq9 : ∀ W, Calls Try.prog 110 #[.int .i64 (c.1 * (s - t) + (d.1 - c.1) * s), .int .i64 (c.2 * (s - t) + (d.2 - c.2) * s), .int .i64 (s - t)] W fun e w' => e = .returned (.agg #[.int .i64 r.1, .int .i64 r.2.1, .int .i64 r.2.2]) ∧ Below W.heap.size W w') :
  Calls Try.prog 75 #[.agg #[.int .i64 a.1, .int .i64 a.2], .agg #[.int .i64 b.1, .int .i64 b.2], .agg #[.int .i64 c.1, .int .i64 c.2], .agg #[.int .i64 d.1, .int .i64 d.2]] w fun e w' => ∃ v0_ : Value, e = .returned v0_ ∧ Kd.R k41 41 w' w.heap.size (fun _ => True) v0_ [spT r] ∧ Below w.heap.size w w' := by
 have q1 := fun W => qside ha hb hc W
 have q2 := fun W => qside ha hb hd W
 have q3 := fun W => qside hc hd ha W
 have q4 := fun W => qside hc hd hb W
 rw [hs] at q1
 rw [ht] at q2
 rw [hu] at q3
 rw [hv] at q4
 have Q1 := Lib.hid q1
 have Q2 := Lib.hid q2
 have Q3 := Lib.hid q3
 have Q4 := Lib.hid q4
 have Q5 := Lib.hid (fun W => qsign s s' hs' W)
 have Q6 := Lib.hid (fun W => qsign t t' ht' W)
 have Q7 := Lib.hid (fun W => qsign u u' hu' W)
 have Q8 := Lib.hid (fun W => qsign v v' hv' W)
 obtain ⟨⟨rs1, rs2⟩, ⟨rt1, rt2⟩, ⟨ru1, ru2⟩, ⟨rv1, rv2⟩⟩ := rs
 obtain ⟨m1, m2⟩ := mulb (x := s') (y := t') (A := 1) (B := 1) rs1 rs2 rt1 rt2
 obtain ⟨m3, m4⟩ := mulb (x := u') (y := v') (A := 1) (B := 1) ru1 ru2 rv1 rv2
 have HX := Lib.hid (BQ.made w a b c d)
 have ic := hc
 have id := hd
 unfold Plane.InP Plane.InAt at ic id
 have bst : -80000000000 ≤ s ∧ s ≤ 80000000000 := by rw [← hs]; exact (cross3_f ⟨ha.1, ha.2, hb.1, hb.2, hc.1, hc.2⟩).2
 have btt : -80000000000 ≤ t ∧ t ≤ 80000000000 := by rw [← ht]; exact (cross3_f ⟨ha.1, ha.2, hb.1, hb.2, hd.1, hd.2⟩).2
 obtain ⟨⟨c1, c2⟩, ⟨c3, c4⟩⟩ := ic
 obtain ⟨⟨e1, e2⟩, ⟨e3, e4⟩⟩ := id
 obtain ⟨b1, b2⟩ := bst
 obtain ⟨b3, b4⟩ := btt
 obtain ⟨n1, n2⟩ := mulb (x := c.1) (y := s - t) (A := 100000) (B := 160000000000) (by omega) (by omega) (by omega) (by omega)
 obtain ⟨n3, n4⟩ := mulb (x := d.1 - c.1) (y := s) (A := 200000) (B := 80000000000) (by omega) (by omega) (by omega) (by omega)
 obtain ⟨n5, n6⟩ := mulb (x := c.2) (y := s - t) (A := 100000) (B := 160000000000) (by omega) (by omega) (by omega) (by omega)
 obtain ⟨n7, n8⟩ := mulb (x := d.2 - c.2) (y := s) (A := 200000) (B := 80000000000) (by omega) (by omega) (by omega) (by omega)
 have hab : (a.1 == b.1 && (a.2 == b.2)) = false := Bool.eq_false_iff.2 fun h => nab (by rw [Bool.and_eq_true, beq_iff_eq, beq_iff_eq] at h; exact Prod.ext h.1 h.2)
 have hcd : (c.1 == d.1 && (c.2 == d.2)) = false := Bool.eq_false_iff.2 fun h => ncd (by rw [Bool.and_eq_true, beq_iff_eq, beq_iff_eq] at h; exact Prod.ext h.1 h.2)
 have Q9 := Lib.hid hq9
 have d1 : decide (0 < s' * t') = false := decide_eq_false (by omega)
 have d2 : decide (0 < u' * v') = false := decide_eq_false (by omega)
 have z1 : (s == 0) = true := beq_iff_eq.2 hs0
 have z2 : (t == 0) = false := beq_eq_false_iff_ne.2 ht0
 clear q1 q2 q3 q4 hs ht hu hv hs' ht' hu' hv' ha hb hc hd
 clear hst huv nab ncd hq9 hs0 ht0
 go_enter Try.func75, Try.ntmps75
 go_wp2_with (first | (go_at_call 68; ((with_reducible refine (Q1.out _).mono ?_)); rintro e w2 ⟨rfl, hb2⟩; have hx2 := HX.out.step hb2; clear hb2; have HX2 := Lib.hid hx2; clear hx2 HX; have HX := Lib.hid HX2.out; clear HX2; obtain ⟨_, _, _, _, _, _, _, _, _, _, _, _⟩ := HX.out.all) | (go_at_call 68; ((with_reducible refine (Q2.out _).mono ?_)); rintro e w2 ⟨rfl, hb2⟩; have hx2 := HX.out.step hb2; clear hb2; have HX2 := Lib.hid hx2; clear hx2 HX; have HX := Lib.hid HX2.out; clear HX2; obtain ⟨_, _, _, _, _, _, _, _, _, _, _, _⟩ := HX.out.all) | (go_at_call 68; ((with_reducible refine (Q3.out _).mono ?_)); rintro e w2 ⟨rfl, hb2⟩; have hx2 := HX.out.step hb2; clear hb2; have HX2 := Lib.hid hx2; clear hx2 HX; have HX := Lib.hid HX2.out; clear HX2; obtain ⟨_, _, _, _, _, _, _, _, _, _, _, _⟩ := HX.out.all) | (go_at_call 68; ((with_reducible refine (Q4.out _).mono ?_)); rintro e w2 ⟨rfl, hb2⟩; have hx2 := HX.out.step hb2; clear hb2; have HX2 := Lib.hid hx2; clear hx2 HX; have HX := Lib.hid HX2.out; clear HX2; obtain ⟨_, _, _, _, _, _, _, _, _, _, _, _⟩ := HX.out.all) | (go_at_call 67; ((with_reducible refine (Q5.out _).mono ?_)); rintro e w2 ⟨rfl, rfl⟩) | (go_at_call 67; ((with_reducible refine (Q6.out _).mono ?_)); rintro e w2 ⟨rfl, rfl⟩) | (go_at_call 67; ((with_reducible refine (Q7.out _).mono ?_)); rintro e w2 ⟨rfl, rfl⟩) | (go_at_call 67; ((with_reducible refine (Q8.out _).mono ?_)); rintro e w2 ⟨rfl, rfl⟩) | (go_at_call 110; ((with_reducible refine (Q9.out _).mono ?_)); rintro e w2 ⟨rfl, hb2⟩; have hx2 := HX.out.step hb2; clear hb2; have HX2 := Lib.hid hx2; clear hx2 HX; have HX := Lib.hid HX2.out; clear HX2; obtain ⟨_, _, _, _, _, _, _, _, _, _, _, _⟩ := HX.out.all))
 go_ret
 exact ⟨_, rfl, R_one _ _ HX.out.bel.size _ _ _, below_alloc HX.out.bel _⟩
set_option maxHeartbeats 2000000 in
set_option maxRecDepth 100000 in
theorem qalong_tt_eq {a b c : Int × Int} (w : World) (l1 : Plane.lessP b a = false) (l2 : Plane.lessP c c = false) (l3 : Plane.lessP a c = true) (l4 : Plane.lessP c b = true) (o1 : Plane.onB a.1 a.2 b.1 b.2 c.1 c.2 = true) (o2 : Plane.onB c.1 c.2 c.1 c.2 c.1 c.2 = true) :
  Calls Try.prog 107 #[.agg #[.int .i64 a.1, .int .i64 a.2], .agg #[.int .i64 b.1, .int .i64 b.2], .agg #[.int .i64 c.1, .int .i64 c.2], .agg #[.int .i64 c.1, .int .i64 c.2]] w fun e w' => ∃ v0_ : Value, e = .returned v0_ ∧ Kd.R k41 41 w' w.heap.size (fun _ => True) v0_ [⟨c.1, c.2, 1⟩] ∧ Below w.heap.size w w' := by
 have L1 := Lib.hid (fun W => qless b a false l1 W)
 have L2 := Lib.hid (fun W => qless c c false l2 W)
 have L3 := Lib.hid (fun W => qless a c true l3 W)
 have L4 := Lib.hid (fun W => qless c b true l4 W)
 have O1 := Lib.hid (fun W => qon o1 W)
 have O2 := Lib.hid (fun W => qon o2 W)
 have H1 := Lib.hid (fun W => qwhole c W)
 have HX := Lib.hid (BQ.made w a b c c)
 clear l1 l2 l3 l4 o1 o2
 go_enter Try.func107, Try.ntmps107
 go_wp2_with (first | (go_at_call 114; ((with_reducible refine (L1.out _).mono ?_)); rintro e wA ⟨rfl, hb2⟩; have hx2 := HX.out.step hb2; have hs_wA := hb2.size; have HX2 := Lib.hid hx2; clear hx2 HX; have HX := Lib.hid HX2.out; clear HX2; obtain ⟨_, _, _, _, _, _, _, _, zawA, zbwA, zcwA, zdwA⟩ := HX.out.all; clear hb2) | (go_at_call 114; ((with_reducible refine (L2.out _).mono ?_)); rintro e wB ⟨rfl, hb2⟩; have hx2 := HX.out.step hb2; have hs_wB := hb2.size; have HX2 := Lib.hid hx2; clear hx2 HX; have HX := Lib.hid HX2.out; clear HX2; obtain ⟨_, _, _, _, _, _, _, _, zawB, zbwB, zcwB, zdwB⟩ := HX.out.all; clear hb2) | (go_at_call 114; ((with_reducible refine (L3.out _).mono ?_)); rintro e wC ⟨rfl, hb2⟩; have hx2 := (HX.out.step ((Below.refl _ _).alloc (Nat.le_refl _) _)).step hb2; have hs_wC := hb2.size; have HX2 := Lib.hid hx2; clear hx2 HX; have HX := Lib.hid HX2.out; clear HX2; have HF := Lib.hid ((hb2.block wB.heap.size (by simp)).trans (heap_alloc_new wB _)); obtain ⟨_, _, _, _, hBC⟩ := blkQ HF.out; obtain ⟨_, _, _, _, _, _, _, _, zawC, zbwC, zcwC, zdwC⟩ := HX.out.all; clear hb2) | (go_at_call 114; ((with_reducible refine (L4.out _).mono ?_)); rintro e wD ⟨rfl, hb2⟩; have hx2 := (((HX.out.set (p := ⟨wB.heap.size, 0, none⟩) zdwB (Nat.le_refl _) _).set (p := ⟨wB.heap.size, 1, none⟩) zdwB (Nat.le_refl _) _).step ((Below.refl _ _).alloc (Nat.le_refl _) _)).step hb2; have hs_wD := hb2.size; have HX2 := Lib.hid hx2; clear hx2 HX; have HX := Lib.hid HX2.out; clear HX2; have hf2 : wD.heap[wB.heap.size]? = some (.cells #[.int .i64 c.1, .int .i64 c.2] 34 (0, 0)) := (hb2.block _ (by first | omega | (simp; omega))).trans (blk_alloc (blk_put (blk_put HF.out 0 _ rfl) 1 _ rfl) _); have ht2 : wD.heap[wC.heap.size]? = some (.cells #[.int .i64 b.1, .int .i64 b.2] 34 (0, 0)) := (hb2.block _ (by simp)).trans (heap_alloc_new' _ _ _ (by simp)); have HF2 := Lib.hid hf2; have HT := Lib.hid ht2; clear hf2 ht2 HF; have ne1 : (wB.heap.size = wC.heap.size) = False := eq_false (by omega); have ne2 : (wC.heap.size = wB.heap.size) = False := eq_false (by omega); obtain ⟨_, _, _, _, _⟩ := blkQ HF2.out; obtain ⟨_, _, _, _, _⟩ := blkQ HT.out; obtain ⟨_, _, _, _, _, _, _, _, zawD, zbwD, zcwD, zdwD⟩ := HX.out.all; clear hb2) | (go_at_call 108; ((with_reducible refine (O1.out _).mono ?_)); rintro e wE ⟨rfl, hb2⟩; have hx2 := ((HX.out.set (p := ⟨wC.heap.size, 0, none⟩) zdwC (Nat.le_refl _) _).set (p := ⟨wC.heap.size, 1, none⟩) zdwC (Nat.le_refl _) _).step hb2; have hs_wE := hb2.size; have HX2 := Lib.hid hx2; clear hx2 HX; have HX := Lib.hid HX2.out; clear HX2; have hf2 : wE.heap[wB.heap.size]? = some (.cells #[.int .i64 c.1, .int .i64 c.2] 34 (0, 0)) := (hb2.block _ (by first | omega | (simp; omega))).trans ((Below.heap_setCell _ _ _ _ (show wB.heap.size ≠ wC.heap.size by omega)).trans ((Below.heap_setCell _ _ _ _ (show wB.heap.size ≠ wC.heap.size by omega)).trans HF2.out)); have HF3 := Lib.hid hf2; clear hf2 HF2; obtain ⟨_, _, _, _, _⟩ := blkQ HF3.out; obtain ⟨_, _, _, _, _, _, _, _, zawE, zbwE, zcwE, zdwE⟩ := HX.out.all; clear hb2) | (go_at_call 108; ((with_reducible refine (O2.out _).mono ?_)); rintro e wF ⟨rfl, hb2⟩; have hx2 := HX.out.step hb2; have hs_wF := hb2.size; have HX2 := Lib.hid hx2; clear hx2 HX; have HX := Lib.hid HX2.out; clear HX2; have hf2 : wF.heap[wB.heap.size]? = some (.cells #[.int .i64 c.1, .int .i64 c.2] 34 (0, 0)) := (hb2.block _ (by omega)).trans HF3.out; have HF4 := Lib.hid hf2; clear hf2 HF3; obtain ⟨_, _, _, _, _⟩ := blkQ HF4.out; obtain ⟨_, _, _, _, _, _, _, _, zawF, zbwF, zcwF, zdwF⟩ := HX.out.all; clear hb2) | (go_at_call 109; ((with_reducible refine (H1.out _).mono ?_)); rintro e wG ⟨rfl, hb2⟩; have hx2 := HX.out.step hb2; have hs_wG := hb2.size; have HX2 := Lib.hid hx2; clear hx2 HX; have HX := Lib.hid HX2.out; clear HX2; obtain ⟨_, _, _, _, _, _, _, _, zawG, zbwG, zcwG, zdwG⟩ := HX.out.all; clear hb2))
 go_ret
 exact ⟨_, rfl, R_one _ _ HX.out.bel.size _ _ _, below_alloc HX.out.bel _⟩
set_option maxHeartbeats 2000000 in
set_option maxRecDepth 100000 in
theorem qalong_tt_lt {a b c d : Int × Int} (w : World) (l1 : Plane.lessP b a = false) (l2 : Plane.lessP d c = false) (l3 : Plane.lessP a c = true) (l4 : Plane.lessP d b = true) (hne : (c.1 == d.1 && (c.2 == d.2)) = false) (l5 : Plane.lessP c d = true) :
  Calls Try.prog 107 #[.agg #[.int .i64 a.1, .int .i64 a.2], .agg #[.int .i64 b.1, .int .i64 b.2], .agg #[.int .i64 c.1, .int .i64 c.2], .agg #[.int .i64 d.1, .int .i64 d.2]] w fun e w' => ∃ v0_ : Value, e = .returned v0_ ∧ Kd.R k41 41 w' w.heap.size (fun _ => True) v0_ [⟨c.1, c.2, 1⟩, ⟨d.1, d.2, 1⟩] ∧ Below w.heap.size w w' := by
 have L1 := Lib.hid (fun W => qless b a false l1 W)
 have L2 := Lib.hid (fun W => qless d c false l2 W)
 have L3 := Lib.hid (fun W => qless a c true l3 W)
 have L4 := Lib.hid (fun W => qless d b true l4 W)
 have L5 := Lib.hid (fun W => qless c d true l5 W)
 have H1 := Lib.hid (fun W => qwhole c W)
 have H2 := Lib.hid (fun W => qwhole d W)
 have HX := Lib.hid (BQ.made w a b c d)
 clear l1 l2 l3 l4 l5
 go_enter Try.func107, Try.ntmps107
 go_wp2_with (first | (go_at_call 114; ((with_reducible refine (L1.out _).mono ?_)); rintro e wA ⟨rfl, hb2⟩; have hx2 := HX.out.step hb2; have hs_wA := hb2.size; have HX2 := Lib.hid hx2; clear hx2 HX; have HX := Lib.hid HX2.out; clear HX2; obtain ⟨_, _, _, _, _, _, _, _, zawA, zbwA, zcwA, zdwA⟩ := HX.out.all; clear hb2) | (go_at_call 114; ((with_reducible refine (L2.out _).mono ?_)); rintro e wB ⟨rfl, hb2⟩; have hx2 := HX.out.step hb2; have hs_wB := hb2.size; have HX2 := Lib.hid hx2; clear hx2 HX; have HX := Lib.hid HX2.out; clear HX2; obtain ⟨_, _, _, _, _, _, _, _, zawB, zbwB, zcwB, zdwB⟩ := HX.out.all; clear hb2) | (go_at_call 114; ((with_reducible refine (L3.out _).mono ?_)); rintro e wC ⟨rfl, hb2⟩; have hx2 := (HX.out.step ((Below.refl _ _).alloc (Nat.le_refl _) _)).step hb2; have hs_wC := hb2.size; have HX2 := Lib.hid hx2; clear hx2 HX; have HX := Lib.hid HX2.out; clear HX2; have HF := Lib.hid ((hb2.block wB.heap.size (by simp)).trans (heap_alloc_new wB _)); obtain ⟨_, _, _, _, hBC⟩ := blkQ HF.out; obtain ⟨_, _, _, _, _, _, _, _, zawC, zbwC, zcwC, zdwC⟩ := HX.out.all; clear hb2) | (go_at_call 114; ((with_reducible refine (L4.out _).mono ?_)); rintro e wD ⟨rfl, hb2⟩; have hx2 := (((HX.out.set (p := ⟨wB.heap.size, 0, none⟩) zdwB (Nat.le_refl _) _).set (p := ⟨wB.heap.size, 1, none⟩) zdwB (Nat.le_refl _) _).step ((Below.refl _ _).alloc (Nat.le_refl _) _)).step hb2; have hs_wD := hb2.size; have HX2 := Lib.hid hx2; clear hx2 HX; have HX := Lib.hid HX2.out; clear HX2; have hf2 : wD.heap[wB.heap.size]? = some (.cells #[.int .i64 c.1, .int .i64 c.2] 34 (0, 0)) := (hb2.block _ (by first | omega | (simp; omega))).trans (blk_alloc (blk_put (blk_put HF.out 0 _ rfl) 1 _ rfl) _); have ht2 : wD.heap[wC.heap.size]? = some (.cells #[.int .i64 b.1, .int .i64 b.2] 34 (0, 0)) := (hb2.block _ (by simp)).trans (heap_alloc_new' _ _ _ (by simp)); have HF2 := Lib.hid hf2; have HT := Lib.hid ht2; clear hf2 ht2 HF; have ne1 : (wB.heap.size = wC.heap.size) = False := eq_false (by omega); have ne2 : (wC.heap.size = wB.heap.size) = False := eq_false (by omega); obtain ⟨_, _, _, _, _⟩ := blkQ HF2.out; obtain ⟨_, _, _, _, _⟩ := blkQ HT.out; obtain ⟨_, _, _, _, _, _, _, _, zawD, zbwD, zcwD, zdwD⟩ := HX.out.all; clear hb2) | (go_at_call 114; ((with_reducible refine (L5.out _).mono ?_)); rintro e wE ⟨rfl, hb2⟩; have hx2 := ((HX.out.set (p := ⟨wC.heap.size, 0, none⟩) zdwC (Nat.le_refl _) _).set (p := ⟨wC.heap.size, 1, none⟩) zdwC (Nat.le_refl _) _).step hb2; have hs_wE := hb2.size; have HX2 := Lib.hid hx2; clear hx2 HX; have HX := Lib.hid HX2.out; clear HX2; have hf2 : wE.heap[wB.heap.size]? = some (.cells #[.int .i64 c.1, .int .i64 c.2] 34 (0, 0)) := (hb2.block _ (by first | omega | (simp; omega))).trans ((Below.heap_setCell _ _ _ _ (show wB.heap.size ≠ wC.heap.size by omega)).trans ((Below.heap_setCell _ _ _ _ (show wB.heap.size ≠ wC.heap.size by omega)).trans HF2.out)); have HF3 := Lib.hid hf2; clear hf2 HF2; have ht3 : wE.heap[wC.heap.size]? = some (.cells #[.int .i64 d.1, .int .i64 d.2] 34 (0, 0)) := (hb2.block _ (by first | omega | (simp; omega))).trans (blk_put (blk_put HT.out 0 _ rfl) 1 _ rfl); have HT3 := Lib.hid ht3; clear ht3 HT; obtain ⟨_, _, _, _, _⟩ := blkQ HF3.out; obtain ⟨_, _, _, _, _⟩ := blkQ HT3.out; obtain ⟨_, _, _, _, _, _, _, _, zawE, zbwE, zcwE, zdwE⟩ := HX.out.all; clear hb2))
 have HB0 := Lib.hid (below_drew1 HX.out.bel)
 go_region_held3 (fun w' => w'.cell? ⟨wB.heap.size, 0, none⟩ = some (.int .i64 c.1) ∧ w'.cell? ⟨wB.heap.size, 1, none⟩ = some (.int .i64 c.2) ∧ w'.cell? ⟨wC.heap.size, 0, none⟩ = some (.int .i64 d.1) ∧ w'.cell? ⟨wC.heap.size, 1, none⟩ = some (.int .i64 d.2)) (first | (go_split_ands; exact ⟨cellQ hb (by assumption), cellQ hb (by assumption), cellQ hb (by assumption), cellQ hb (by assumption)⟩) | go_keep) (first | (go_at_call 109; ((with_reducible refine (H1.out _).mono ?_)); rintro e wx ⟨rfl, hb⟩; have HB1 := Lib.hid (below_step HB0.out hb); clear HB0; have HB0 := Lib.hid HB1.out; clear HB1) | (go_at_call 109; ((with_reducible refine (H2.out _).mono ?_)); rintro e wx ⟨rfl, hb⟩; have HB1 := Lib.hid (below_step HB0.out hb); clear HB0; have HB0 := Lib.hid HB1.out; clear HB1))
 all_goals go_wp2_with fail
 all_goals go_ret
 all_goals exact ⟨_, rfl, R_two _ _ HB0.out.size _ _ _ _ _ _, below_alloc HB0.out _⟩
set_option maxHeartbeats 2000000 in
set_option maxRecDepth 100000 in
theorem qalong_tt_no {a b c d : Int × Int} (w : World) (l1 : Plane.lessP b a = false) (l2 : Plane.lessP d c = false) (l3 : Plane.lessP a c = true) (l4 : Plane.lessP d b = true) (hne : (c.1 == d.1 && (c.2 == d.2)) = false) (l5 : Plane.lessP c d = false) :
  Calls Try.prog 107 #[.agg #[.int .i64 a.1, .int .i64 a.2], .agg #[.int .i64 b.1, .int .i64 b.2], .agg #[.int .i64 c.1, .int .i64 c.2], .agg #[.int .i64 d.1, .int .i64 d.2]] w fun e w' => ∃ v0_ : Value, e = .returned v0_ ∧ Kd.R k41 41 w' w.heap.size (fun _ => True) v0_ [] ∧ Below w.heap.size w w' := by
 have L1 := Lib.hid (fun W => qless b a false l1 W)
 have L2 := Lib.hid (fun W => qless d c false l2 W)
 have L3 := Lib.hid (fun W => qless a c true l3 W)
 have L4 := Lib.hid (fun W => qless d b true l4 W)
 have L5 := Lib.hid (fun W => qless c d false l5 W)
 have H1 := Lib.hid (fun W => qwhole c W)
 have H2 := Lib.hid (fun W => qwhole d W)
 have HX := Lib.hid (BQ.made w a b c d)
 clear l1 l2 l3 l4 l5
 go_enter Try.func107, Try.ntmps107
 go_wp2_with (first | (go_at_call 114; ((with_reducible refine (L1.out _).mono ?_)); rintro e wA ⟨rfl, hb2⟩; have hx2 := HX.out.step hb2; have hs_wA := hb2.size; have HX2 := Lib.hid hx2; clear hx2 HX; have HX := Lib.hid HX2.out; clear HX2; obtain ⟨_, _, _, _, _, _, _, _, zawA, zbwA, zcwA, zdwA⟩ := HX.out.all; clear hb2) | (go_at_call 114; ((with_reducible refine (L2.out _).mono ?_)); rintro e wB ⟨rfl, hb2⟩; have hx2 := HX.out.step hb2; have hs_wB := hb2.size; have HX2 := Lib.hid hx2; clear hx2 HX; have HX := Lib.hid HX2.out; clear HX2; obtain ⟨_, _, _, _, _, _, _, _, zawB, zbwB, zcwB, zdwB⟩ := HX.out.all; clear hb2) | (go_at_call 114; ((with_reducible refine (L3.out _).mono ?_)); rintro e wC ⟨rfl, hb2⟩; have hx2 := (HX.out.step ((Below.refl _ _).alloc (Nat.le_refl _) _)).step hb2; have hs_wC := hb2.size; have HX2 := Lib.hid hx2; clear hx2 HX; have HX := Lib.hid HX2.out; clear HX2; have HF := Lib.hid ((hb2.block wB.heap.size (by simp)).trans (heap_alloc_new wB _)); obtain ⟨_, _, _, _, hBC⟩ := blkQ HF.out; obtain ⟨_, _, _, _, _, _, _, _, zawC, zbwC, zcwC, zdwC⟩ := HX.out.all; clear hb2) | (go_at_call 114; ((with_reducible refine (L4.out _).mono ?_)); rintro e wD ⟨rfl, hb2⟩; have hx2 := (((HX.out.set (p := ⟨wB.heap.size, 0, none⟩) zdwB (Nat.le_refl _) _).set (p := ⟨wB.heap.size, 1, none⟩) zdwB (Nat.le_refl _) _).step ((Below.refl _ _).alloc (Nat.le_refl _) _)).step hb2; have hs_wD := hb2.size; have HX2 := Lib.hid hx2; clear hx2 HX; have HX := Lib.hid HX2.out; clear HX2; have hf2 : wD.heap[wB.heap.size]? = some (.cells #[.int .i64 c.1, .int .i64 c.2] 34 (0, 0)) := (hb2.block _ (by first | omega | (simp; omega))).trans (blk_alloc (blk_put (blk_put HF.out 0 _ rfl) 1 _ rfl) _); have ht2 : wD.heap[wC.heap.size]? = some (.cells #[.int .i64 b.1, .int .i64 b.2] 34 (0, 0)) := (hb2.block _ (by simp)).trans (heap_alloc_new' _ _ _ (by simp)); have HF2 := Lib.hid hf2; have HT := Lib.hid ht2; clear hf2 ht2 HF; have ne1 : (wB.heap.size = wC.heap.size) = False := eq_false (by omega); have ne2 : (wC.heap.size = wB.heap.size) = False := eq_false (by omega); obtain ⟨_, _, _, _, _⟩ := blkQ HF2.out; obtain ⟨_, _, _, _, _⟩ := blkQ HT.out; obtain ⟨_, _, _, _, _, _, _, _, zawD, zbwD, zcwD, zdwD⟩ := HX.out.all; clear hb2) | (go_at_call 114; ((with_reducible refine (L5.out _).mono ?_)); rintro e wE ⟨rfl, hb2⟩; have hx2 := ((HX.out.set (p := ⟨wC.heap.size, 0, none⟩) zdwC (Nat.le_refl _) _).set (p := ⟨wC.heap.size, 1, none⟩) zdwC (Nat.le_refl _) _).step hb2; have hs_wE := hb2.size; have HX2 := Lib.hid hx2; clear hx2 HX; have HX := Lib.hid HX2.out; clear HX2; have hf2 : wE.heap[wB.heap.size]? = some (.cells #[.int .i64 c.1, .int .i64 c.2] 34 (0, 0)) := (hb2.block _ (by first | omega | (simp; omega))).trans ((Below.heap_setCell _ _ _ _ (show wB.heap.size ≠ wC.heap.size by omega)).trans ((Below.heap_setCell _ _ _ _ (show wB.heap.size ≠ wC.heap.size by omega)).trans HF2.out)); have HF3 := Lib.hid hf2; clear hf2 HF2; have ht3 : wE.heap[wC.heap.size]? = some (.cells #[.int .i64 d.1, .int .i64 d.2] 34 (0, 0)) := (hb2.block _ (by first | omega | (simp; omega))).trans (blk_put (blk_put HT.out 0 _ rfl) 1 _ rfl); have HT3 := Lib.hid ht3; clear ht3 HT; obtain ⟨_, _, _, _, _⟩ := blkQ HF3.out; obtain ⟨_, _, _, _, _⟩ := blkQ HT3.out; obtain ⟨_, _, _, _, _, _, _, _, zawE, zbwE, zcwE, zdwE⟩ := HX.out.all; clear hb2))
 go_ret
 exact ⟨_, rfl, R_zero _ _ HX.out.bel.size, below_alloc HX.out.bel _⟩
set_option maxHeartbeats 2000000 in
set_option maxRecDepth 100000 in
theorem qalong_tf_eq {a c d : Int × Int} (w : World) (l1 : Plane.lessP c a = false) (l2 : Plane.lessP d c = false) (l3 : Plane.lessP a c = true) (l4 : Plane.lessP d c = false) (o1 : Plane.onB a.1 a.2 c.1 c.2 c.1 c.2 = true) (o2 : Plane.onB c.1 c.2 d.1 d.2 c.1 c.2 = true) :
  Calls Try.prog 107 #[.agg #[.int .i64 a.1, .int .i64 a.2], .agg #[.int .i64 c.1, .int .i64 c.2], .agg #[.int .i64 c.1, .int .i64 c.2], .agg #[.int .i64 d.1, .int .i64 d.2]] w fun e w' => ∃ v0_ : Value, e = .returned v0_ ∧ Kd.R k41 41 w' w.heap.size (fun _ => True) v0_ [⟨c.1, c.2, 1⟩] ∧ Below w.heap.size w w' := by
 have L1 := Lib.hid (fun W => qless c a false l1 W)
 have L2 := Lib.hid (fun W => qless d c false l2 W)
 have L3 := Lib.hid (fun W => qless a c true l3 W)
 have L4 := Lib.hid (fun W => qless d c false l4 W)
 have O1 := Lib.hid (fun W => qon o1 W)
 have O2 := Lib.hid (fun W => qon o2 W)
 have H1 := Lib.hid (fun W => qwhole c W)
 have HX := Lib.hid (BQ.made w a c c d)
 clear l1 l2 l3 l4 o1 o2
 go_enter Try.func107, Try.ntmps107
 go_wp2_with (first | (go_at_call 114; ((with_reducible refine (L1.out _).mono ?_)); rintro e wA ⟨rfl, hb2⟩; have hx2 := HX.out.step hb2; have hs_wA := hb2.size; have HX2 := Lib.hid hx2; clear hx2 HX; have HX := Lib.hid HX2.out; clear HX2; obtain ⟨_, _, _, _, _, _, _, _, zawA, zbwA, zcwA, zdwA⟩ := HX.out.all; clear hb2) | (go_at_call 114; ((with_reducible refine (L2.out _).mono ?_)); rintro e wB ⟨rfl, hb2⟩; have hx2 := HX.out.step hb2; have hs_wB := hb2.size; have HX2 := Lib.hid hx2; clear hx2 HX; have HX := Lib.hid HX2.out; clear HX2; obtain ⟨_, _, _, _, _, _, _, _, zawB, zbwB, zcwB, zdwB⟩ := HX.out.all; clear hb2) | (go_at_call 114; ((with_reducible refine (L3.out _).mono ?_)); rintro e wC ⟨rfl, hb2⟩; have hx2 := (HX.out.step ((Below.refl _ _).alloc (Nat.le_refl _) _)).step hb2; have hs_wC := hb2.size; have HX2 := Lib.hid hx2; clear hx2 HX; have HX := Lib.hid HX2.out; clear HX2; have HF := Lib.hid ((hb2.block wB.heap.size (by simp)).trans (heap_alloc_new wB _)); obtain ⟨_, _, _, _, hBC⟩ := blkQ HF.out; obtain ⟨_, _, _, _, _, _, _, _, zawC, zbwC, zcwC, zdwC⟩ := HX.out.all; clear hb2) | (go_at_call 114; ((with_reducible refine (L4.out _).mono ?_)); rintro e wD ⟨rfl, hb2⟩; have hx2 := (((HX.out.set (p := ⟨wB.heap.size, 0, none⟩) zdwB (Nat.le_refl _) _).set (p := ⟨wB.heap.size, 1, none⟩) zdwB (Nat.le_refl _) _).step ((Below.refl _ _).alloc (Nat.le_refl _) _)).step hb2; have hs_wD := hb2.size; have HX2 := Lib.hid hx2; clear hx2 HX; have HX := Lib.hid HX2.out; clear HX2; have hf2 : wD.heap[wB.heap.size]? = some (.cells #[.int .i64 c.1, .int .i64 c.2] 34 (0, 0)) := (hb2.block _ (by first | omega | (simp; omega))).trans (blk_alloc (blk_put (blk_put HF.out 0 _ rfl) 1 _ rfl) _); have ht2 : wD.heap[wC.heap.size]? = some (.cells #[.int .i64 c.1, .int .i64 c.2] 34 (0, 0)) := (hb2.block _ (by simp)).trans (heap_alloc_new' _ _ _ (by simp)); have HF2 := Lib.hid hf2; have HT := Lib.hid ht2; clear hf2 ht2 HF; have ne1 : (wB.heap.size = wC.heap.size) = False := eq_false (by omega); have ne2 : (wC.heap.size = wB.heap.size) = False := eq_false (by omega); obtain ⟨_, _, _, _, _⟩ := blkQ HF2.out; obtain ⟨_, _, _, _, _⟩ := blkQ HT.out; obtain ⟨_, _, _, _, _, _, _, _, zawD, zbwD, zcwD, zdwD⟩ := HX.out.all; clear hb2) | (go_at_call 108; ((with_reducible refine (O1.out _).mono ?_)); rintro e wE ⟨rfl, hb2⟩; have hx2 := HX.out.step hb2; have hs_wE := hb2.size; have HX2 := Lib.hid hx2; clear hx2 HX; have HX := Lib.hid HX2.out; clear HX2; have hf2 : wE.heap[wB.heap.size]? = some (.cells #[.int .i64 c.1, .int .i64 c.2] 34 (0, 0)) := (hb2.block _ (by first | omega | (simp; omega))).trans HF2.out; have HF3 := Lib.hid hf2; clear hf2 HF2; obtain ⟨_, _, _, _, _⟩ := blkQ HF3.out; obtain ⟨_, _, _, _, _, _, _, _, zawE, zbwE, zcwE, zdwE⟩ := HX.out.all; clear hb2) | (go_at_call 108; ((with_reducible refine (O2.out _).mono ?_)); rintro e wF ⟨rfl, hb2⟩; have hx2 := HX.out.step hb2; have hs_wF := hb2.size; have HX2 := Lib.hid hx2; clear hx2 HX; have HX := Lib.hid HX2.out; clear HX2; have hf2 : wF.heap[wB.heap.size]? = some (.cells #[.int .i64 c.1, .int .i64 c.2] 34 (0, 0)) := (hb2.block _ (by omega)).trans HF3.out; have HF4 := Lib.hid hf2; clear hf2 HF3; obtain ⟨_, _, _, _, _⟩ := blkQ HF4.out; obtain ⟨_, _, _, _, _, _, _, _, zawF, zbwF, zcwF, zdwF⟩ := HX.out.all; clear hb2) | (go_at_call 109; ((with_reducible refine (H1.out _).mono ?_)); rintro e wG ⟨rfl, hb2⟩; have hx2 := HX.out.step hb2; have hs_wG := hb2.size; have HX2 := Lib.hid hx2; clear hx2 HX; have HX := Lib.hid HX2.out; clear HX2; obtain ⟨_, _, _, _, _, _, _, _, zawG, zbwG, zcwG, zdwG⟩ := HX.out.all; clear hb2))
 go_ret
 exact ⟨_, rfl, R_one _ _ HX.out.bel.size _ _ _, below_alloc HX.out.bel _⟩
set_option maxHeartbeats 2000000 in
set_option maxRecDepth 100000 in
theorem qalong_tf_lt {a b c d : Int × Int} (w : World) (l1 : Plane.lessP b a = false) (l2 : Plane.lessP d c = false) (l3 : Plane.lessP a c = true) (l4 : Plane.lessP d b = false) (hne : (c.1 == b.1 && (c.2 == b.2)) = false) (l5 : Plane.lessP c b = true) :
  Calls Try.prog 107 #[.agg #[.int .i64 a.1, .int .i64 a.2], .agg #[.int .i64 b.1, .int .i64 b.2], .agg #[.int .i64 c.1, .int .i64 c.2], .agg #[.int .i64 d.1, .int .i64 d.2]] w fun e w' => ∃ v0_ : Value, e = .returned v0_ ∧ Kd.R k41 41 w' w.heap.size (fun _ => True) v0_ [⟨c.1, c.2, 1⟩, ⟨b.1, b.2, 1⟩] ∧ Below w.heap.size w w' := by
 have L1 := Lib.hid (fun W => qless b a false l1 W)
 have L2 := Lib.hid (fun W => qless d c false l2 W)
 have L3 := Lib.hid (fun W => qless a c true l3 W)
 have L4 := Lib.hid (fun W => qless d b false l4 W)
 have L5 := Lib.hid (fun W => qless c b true l5 W)
 have H1 := Lib.hid (fun W => qwhole c W)
 have H2 := Lib.hid (fun W => qwhole b W)
 have HX := Lib.hid (BQ.made w a b c d)
 clear l1 l2 l3 l4 l5
 go_enter Try.func107, Try.ntmps107
 go_wp2_with (first | (go_at_call 114; ((with_reducible refine (L1.out _).mono ?_)); rintro e wA ⟨rfl, hb2⟩; have hx2 := HX.out.step hb2; have hs_wA := hb2.size; have HX2 := Lib.hid hx2; clear hx2 HX; have HX := Lib.hid HX2.out; clear HX2; obtain ⟨_, _, _, _, _, _, _, _, zawA, zbwA, zcwA, zdwA⟩ := HX.out.all; clear hb2) | (go_at_call 114; ((with_reducible refine (L2.out _).mono ?_)); rintro e wB ⟨rfl, hb2⟩; have hx2 := HX.out.step hb2; have hs_wB := hb2.size; have HX2 := Lib.hid hx2; clear hx2 HX; have HX := Lib.hid HX2.out; clear HX2; obtain ⟨_, _, _, _, _, _, _, _, zawB, zbwB, zcwB, zdwB⟩ := HX.out.all; clear hb2) | (go_at_call 114; ((with_reducible refine (L3.out _).mono ?_)); rintro e wC ⟨rfl, hb2⟩; have hx2 := (HX.out.step ((Below.refl _ _).alloc (Nat.le_refl _) _)).step hb2; have hs_wC := hb2.size; have HX2 := Lib.hid hx2; clear hx2 HX; have HX := Lib.hid HX2.out; clear HX2; have HF := Lib.hid ((hb2.block wB.heap.size (by simp)).trans (heap_alloc_new wB _)); obtain ⟨_, _, _, _, hBC⟩ := blkQ HF.out; obtain ⟨_, _, _, _, _, _, _, _, zawC, zbwC, zcwC, zdwC⟩ := HX.out.all; clear hb2) | (go_at_call 114; ((with_reducible refine (L4.out _).mono ?_)); rintro e wD ⟨rfl, hb2⟩; have hx2 := (((HX.out.set (p := ⟨wB.heap.size, 0, none⟩) zdwB (Nat.le_refl _) _).set (p := ⟨wB.heap.size, 1, none⟩) zdwB (Nat.le_refl _) _).step ((Below.refl _ _).alloc (Nat.le_refl _) _)).step hb2; have hs_wD := hb2.size; have HX2 := Lib.hid hx2; clear hx2 HX; have HX := Lib.hid HX2.out; clear HX2; have hf2 : wD.heap[wB.heap.size]? = some (.cells #[.int .i64 c.1, .int .i64 c.2] 34 (0, 0)) := (hb2.block _ (by first | omega | (simp; omega))).trans (blk_alloc (blk_put (blk_put HF.out 0 _ rfl) 1 _ rfl) _); have ht2 : wD.heap[wC.heap.size]? = some (.cells #[.int .i64 b.1, .int .i64 b.2] 34 (0, 0)) := (hb2.block _ (by simp)).trans (heap_alloc_new' _ _ _ (by simp)); have HF2 := Lib.hid hf2; have HT := Lib.hid ht2; clear hf2 ht2 HF; have ne1 : (wB.heap.size = wC.heap.size) = False := eq_false (by omega); have ne2 : (wC.heap.size = wB.heap.size) = False := eq_false (by omega); obtain ⟨_, _, _, _, _⟩ := blkQ HF2.out; obtain ⟨_, _, _, _, _⟩ := blkQ HT.out; obtain ⟨_, _, _, _, _, _, _, _, zawD, zbwD, zcwD, zdwD⟩ := HX.out.all; clear hb2) | (go_at_call 114; ((with_reducible refine (L5.out _).mono ?_)); rintro e wE ⟨rfl, hb2⟩; have hx2 := HX.out.step hb2; have hs_wE := hb2.size; have HX2 := Lib.hid hx2; clear hx2 HX; have HX := Lib.hid HX2.out; clear HX2; have hf2 : wE.heap[wB.heap.size]? = some (.cells #[.int .i64 c.1, .int .i64 c.2] 34 (0, 0)) := (hb2.block _ (by first | omega | (simp; omega))).trans HF2.out; have HF3 := Lib.hid hf2; clear hf2 HF2; have ht3 : wE.heap[wC.heap.size]? = some (.cells #[.int .i64 b.1, .int .i64 b.2] 34 (0, 0)) := (hb2.block _ (by first | omega | (simp; omega))).trans HT.out; have HT3 := Lib.hid ht3; clear ht3 HT; obtain ⟨_, _, _, _, _⟩ := blkQ HF3.out; obtain ⟨_, _, _, _, _⟩ := blkQ HT3.out; obtain ⟨_, _, _, _, _, _, _, _, zawE, zbwE, zcwE, zdwE⟩ := HX.out.all; clear hb2))
 have HB0 := Lib.hid (below_drew1 HX.out.bel)
 go_region_held3 (fun w' => w'.cell? ⟨wB.heap.size, 0, none⟩ = some (.int .i64 c.1) ∧ w'.cell? ⟨wB.heap.size, 1, none⟩ = some (.int .i64 c.2) ∧ w'.cell? ⟨wC.heap.size, 0, none⟩ = some (.int .i64 b.1) ∧ w'.cell? ⟨wC.heap.size, 1, none⟩ = some (.int .i64 b.2)) (first | (go_split_ands; exact ⟨cellQ hb (by assumption), cellQ hb (by assumption), cellQ hb (by assumption), cellQ hb (by assumption)⟩) | go_keep) (first | (go_at_call 109; ((with_reducible refine (H1.out _).mono ?_)); rintro e wx ⟨rfl, hb⟩; have HB1 := Lib.hid (below_step HB0.out hb); clear HB0; have HB0 := Lib.hid HB1.out; clear HB1) | (go_at_call 109; ((with_reducible refine (H2.out _).mono ?_)); rintro e wx ⟨rfl, hb⟩; have HB1 := Lib.hid (below_step HB0.out hb); clear HB0; have HB0 := Lib.hid HB1.out; clear HB1))
 all_goals go_wp2_with fail
 all_goals go_ret
 all_goals exact ⟨_, rfl, R_two _ _ HB0.out.size _ _ _ _ _ _, below_alloc HB0.out _⟩
set_option maxHeartbeats 2000000 in
set_option maxRecDepth 100000 in
theorem qalong_tf_no {a b c d : Int × Int} (w : World) (l1 : Plane.lessP b a = false) (l2 : Plane.lessP d c = false) (l3 : Plane.lessP a c = true) (l4 : Plane.lessP d b = false) (hne : (c.1 == b.1 && (c.2 == b.2)) = false) (l5 : Plane.lessP c b = false) :
  Calls Try.prog 107 #[.agg #[.int .i64 a.1, .int .i64 a.2], .agg #[.int .i64 b.1, .int .i64 b.2], .agg #[.int .i64 c.1, .int .i64 c.2], .agg #[.int .i64 d.1, .int .i64 d.2]] w fun e w' => ∃ v0_ : Value, e = .returned v0_ ∧ Kd.R k41 41 w' w.heap.size (fun _ => True) v0_ [] ∧ Below w.heap.size w w' := by
 have L1 := Lib.hid (fun W => qless b a false l1 W)
 have L2 := Lib.hid (fun W => qless d c false l2 W)
 have L3 := Lib.hid (fun W => qless a c true l3 W)
 have L4 := Lib.hid (fun W => qless d b false l4 W)
 have L5 := Lib.hid (fun W => qless c b false l5 W)
 have H1 := Lib.hid (fun W => qwhole c W)
 have H2 := Lib.hid (fun W => qwhole b W)
 have HX := Lib.hid (BQ.made w a b c d)
 clear l1 l2 l3 l4 l5
 go_enter Try.func107, Try.ntmps107
 go_wp2_with (first | (go_at_call 114; ((with_reducible refine (L1.out _).mono ?_)); rintro e wA ⟨rfl, hb2⟩; have hx2 := HX.out.step hb2; have hs_wA := hb2.size; have HX2 := Lib.hid hx2; clear hx2 HX; have HX := Lib.hid HX2.out; clear HX2; obtain ⟨_, _, _, _, _, _, _, _, zawA, zbwA, zcwA, zdwA⟩ := HX.out.all; clear hb2) | (go_at_call 114; ((with_reducible refine (L2.out _).mono ?_)); rintro e wB ⟨rfl, hb2⟩; have hx2 := HX.out.step hb2; have hs_wB := hb2.size; have HX2 := Lib.hid hx2; clear hx2 HX; have HX := Lib.hid HX2.out; clear HX2; obtain ⟨_, _, _, _, _, _, _, _, zawB, zbwB, zcwB, zdwB⟩ := HX.out.all; clear hb2) | (go_at_call 114; ((with_reducible refine (L3.out _).mono ?_)); rintro e wC ⟨rfl, hb2⟩; have hx2 := (HX.out.step ((Below.refl _ _).alloc (Nat.le_refl _) _)).step hb2; have hs_wC := hb2.size; have HX2 := Lib.hid hx2; clear hx2 HX; have HX := Lib.hid HX2.out; clear HX2; have HF := Lib.hid ((hb2.block wB.heap.size (by simp)).trans (heap_alloc_new wB _)); obtain ⟨_, _, _, _, hBC⟩ := blkQ HF.out; obtain ⟨_, _, _, _, _, _, _, _, zawC, zbwC, zcwC, zdwC⟩ := HX.out.all; clear hb2) | (go_at_call 114; ((with_reducible refine (L4.out _).mono ?_)); rintro e wD ⟨rfl, hb2⟩; have hx2 := (((HX.out.set (p := ⟨wB.heap.size, 0, none⟩) zdwB (Nat.le_refl _) _).set (p := ⟨wB.heap.size, 1, none⟩) zdwB (Nat.le_refl _) _).step ((Below.refl _ _).alloc (Nat.le_refl _) _)).step hb2; have hs_wD := hb2.size; have HX2 := Lib.hid hx2; clear hx2 HX; have HX := Lib.hid HX2.out; clear HX2; have hf2 : wD.heap[wB.heap.size]? = some (.cells #[.int .i64 c.1, .int .i64 c.2] 34 (0, 0)) := (hb2.block _ (by first | omega | (simp; omega))).trans (blk_alloc (blk_put (blk_put HF.out 0 _ rfl) 1 _ rfl) _); have ht2 : wD.heap[wC.heap.size]? = some (.cells #[.int .i64 b.1, .int .i64 b.2] 34 (0, 0)) := (hb2.block _ (by simp)).trans (heap_alloc_new' _ _ _ (by simp)); have HF2 := Lib.hid hf2; have HT := Lib.hid ht2; clear hf2 ht2 HF; have ne1 : (wB.heap.size = wC.heap.size) = False := eq_false (by omega); have ne2 : (wC.heap.size = wB.heap.size) = False := eq_false (by omega); obtain ⟨_, _, _, _, _⟩ := blkQ HF2.out; obtain ⟨_, _, _, _, _⟩ := blkQ HT.out; obtain ⟨_, _, _, _, _, _, _, _, zawD, zbwD, zcwD, zdwD⟩ := HX.out.all; clear hb2) | (go_at_call 114; ((with_reducible refine (L5.out _).mono ?_)); rintro e wE ⟨rfl, hb2⟩; have hx2 := HX.out.step hb2; have hs_wE := hb2.size; have HX2 := Lib.hid hx2; clear hx2 HX; have HX := Lib.hid HX2.out; clear HX2; have hf2 : wE.heap[wB.heap.size]? = some (.cells #[.int .i64 c.1, .int .i64 c.2] 34 (0, 0)) := (hb2.block _ (by first | omega | (simp; omega))).trans HF2.out; have HF3 := Lib.hid hf2; clear hf2 HF2; have ht3 : wE.heap[wC.heap.size]? = some (.cells #[.int .i64 b.1, .int .i64 b.2] 34 (0, 0)) := (hb2.block _ (by first | omega | (simp; omega))).trans HT.out; have HT3 := Lib.hid ht3; clear ht3 HT; obtain ⟨_, _, _, _, _⟩ := blkQ HF3.out; obtain ⟨_, _, _, _, _⟩ := blkQ HT3.out; obtain ⟨_, _, _, _, _, _, _, _, zawE, zbwE, zcwE, zdwE⟩ := HX.out.all; clear hb2))
 go_ret
 exact ⟨_, rfl, R_zero _ _ HX.out.bel.size, below_alloc HX.out.bel _⟩
set_option maxHeartbeats 2000000 in
set_option maxRecDepth 100000 in
theorem qalong_ft_eq {a b c : Int × Int} (w : World) (l1 : Plane.lessP b a = false) (l2 : Plane.lessP a c = false) (l3 : Plane.lessP a c = false) (l4 : Plane.lessP a b = true) (o1 : Plane.onB a.1 a.2 b.1 b.2 a.1 a.2 = true) (o2 : Plane.onB c.1 c.2 a.1 a.2 a.1 a.2 = true) :
  Calls Try.prog 107 #[.agg #[.int .i64 a.1, .int .i64 a.2], .agg #[.int .i64 b.1, .int .i64 b.2], .agg #[.int .i64 c.1, .int .i64 c.2], .agg #[.int .i64 a.1, .int .i64 a.2]] w fun e w' => ∃ v0_ : Value, e = .returned v0_ ∧ Kd.R k41 41 w' w.heap.size (fun _ => True) v0_ [⟨a.1, a.2, 1⟩] ∧ Below w.heap.size w w' := by
 have L1 := Lib.hid (fun W => qless b a false l1 W)
 have L2 := Lib.hid (fun W => qless a c false l2 W)
 have L3 := Lib.hid (fun W => qless a c false l3 W)
 have L4 := Lib.hid (fun W => qless a b true l4 W)
 have O1 := Lib.hid (fun W => qon o1 W)
 have O2 := Lib.hid (fun W => qon o2 W)
 have H1 := Lib.hid (fun W => qwhole a W)
 have HX := Lib.hid (BQ.made w a b c a)
 clear l1 l2 l3 l4 o1 o2
 go_enter Try.func107, Try.ntmps107
 go_wp2_with (first | (go_at_call 114; ((with_reducible refine (L1.out _).mono ?_)); rintro e wA ⟨rfl, hb2⟩; have hx2 := HX.out.step hb2; have hs_wA := hb2.size; have HX2 := Lib.hid hx2; clear hx2 HX; have HX := Lib.hid HX2.out; clear HX2; obtain ⟨_, _, _, _, _, _, _, _, zawA, zbwA, zcwA, zdwA⟩ := HX.out.all; clear hb2) | (go_at_call 114; ((with_reducible refine (L2.out _).mono ?_)); rintro e wB ⟨rfl, hb2⟩; have hx2 := HX.out.step hb2; have hs_wB := hb2.size; have HX2 := Lib.hid hx2; clear hx2 HX; have HX := Lib.hid HX2.out; clear HX2; obtain ⟨_, _, _, _, _, _, _, _, zawB, zbwB, zcwB, zdwB⟩ := HX.out.all; clear hb2) | (go_at_call 114; ((with_reducible refine (L3.out _).mono ?_)); rintro e wC ⟨rfl, hb2⟩; have hx2 := (HX.out.step ((Below.refl _ _).alloc (Nat.le_refl _) _)).step hb2; have hs_wC := hb2.size; have HX2 := Lib.hid hx2; clear hx2 HX; have HX := Lib.hid HX2.out; clear HX2; have HF := Lib.hid ((hb2.block wB.heap.size (by simp)).trans (heap_alloc_new wB _)); obtain ⟨_, _, _, _, hBC⟩ := blkQ HF.out; obtain ⟨_, _, _, _, _, _, _, _, zawC, zbwC, zcwC, zdwC⟩ := HX.out.all; clear hb2) | (go_at_call 114; ((with_reducible refine (L4.out _).mono ?_)); rintro e wD ⟨rfl, hb2⟩; have hx2 := (HX.out.step ((Below.refl _ _).alloc (Nat.le_refl _) _)).step hb2; have hs_wD := hb2.size; have HX2 := Lib.hid hx2; clear hx2 HX; have HX := Lib.hid HX2.out; clear HX2; have hf2 : wD.heap[wB.heap.size]? = some (.cells #[.int .i64 a.1, .int .i64 a.2] 34 (0, 0)) := (hb2.block _ (by first | omega | (simp; omega))).trans (blk_alloc HF.out _); have ht2 : wD.heap[wC.heap.size]? = some (.cells #[.int .i64 b.1, .int .i64 b.2] 34 (0, 0)) := (hb2.block _ (by simp)).trans (heap_alloc_new' _ _ _ (by simp)); have HF2 := Lib.hid hf2; have HT := Lib.hid ht2; clear hf2 ht2 HF; have ne1 : (wB.heap.size = wC.heap.size) = False := eq_false (by omega); have ne2 : (wC.heap.size = wB.heap.size) = False := eq_false (by omega); obtain ⟨_, _, _, _, _⟩ := blkQ HF2.out; obtain ⟨_, _, _, _, _⟩ := blkQ HT.out; obtain ⟨_, _, _, _, _, _, _, _, zawD, zbwD, zcwD, zdwD⟩ := HX.out.all; clear hb2) | (go_at_call 108; ((with_reducible refine (O1.out _).mono ?_)); rintro e wE ⟨rfl, hb2⟩; have hx2 := ((HX.out.set (p := ⟨wC.heap.size, 0, none⟩) zdwC (Nat.le_refl _) _).set (p := ⟨wC.heap.size, 1, none⟩) zdwC (Nat.le_refl _) _).step hb2; have hs_wE := hb2.size; have HX2 := Lib.hid hx2; clear hx2 HX; have HX := Lib.hid HX2.out; clear HX2; have hf2 : wE.heap[wB.heap.size]? = some (.cells #[.int .i64 a.1, .int .i64 a.2] 34 (0, 0)) := (hb2.block _ (by first | omega | (simp; omega))).trans ((Below.heap_setCell _ _ _ _ (show wB.heap.size ≠ wC.heap.size by omega)).trans ((Below.heap_setCell _ _ _ _ (show wB.heap.size ≠ wC.heap.size by omega)).trans HF2.out)); have HF3 := Lib.hid hf2; clear hf2 HF2; obtain ⟨_, _, _, _, _⟩ := blkQ HF3.out; obtain ⟨_, _, _, _, _, _, _, _, zawE, zbwE, zcwE, zdwE⟩ := HX.out.all; clear hb2) | (go_at_call 108; ((with_reducible refine (O2.out _).mono ?_)); rintro e wF ⟨rfl, hb2⟩; have hx2 := HX.out.step hb2; have hs_wF := hb2.size; have HX2 := Lib.hid hx2; clear hx2 HX; have HX := Lib.hid HX2.out; clear HX2; have hf2 : wF.heap[wB.heap.size]? = some (.cells #[.int .i64 a.1, .int .i64 a.2] 34 (0, 0)) := (hb2.block _ (by omega)).trans HF3.out; have HF4 := Lib.hid hf2; clear hf2 HF3; obtain ⟨_, _, _, _, _⟩ := blkQ HF4.out; obtain ⟨_, _, _, _, _, _, _, _, zawF, zbwF, zcwF, zdwF⟩ := HX.out.all; clear hb2) | (go_at_call 109; ((with_reducible refine (H1.out _).mono ?_)); rintro e wG ⟨rfl, hb2⟩; have hx2 := HX.out.step hb2; have hs_wG := hb2.size; have HX2 := Lib.hid hx2; clear hx2 HX; have HX := Lib.hid HX2.out; clear HX2; obtain ⟨_, _, _, _, _, _, _, _, zawG, zbwG, zcwG, zdwG⟩ := HX.out.all; clear hb2))
 go_ret
 exact ⟨_, rfl, R_one _ _ HX.out.bel.size _ _ _, below_alloc HX.out.bel _⟩
set_option maxHeartbeats 2000000 in
set_option maxRecDepth 100000 in
theorem qalong_ft_lt {a b c d : Int × Int} (w : World) (l1 : Plane.lessP b a = false) (l2 : Plane.lessP d c = false) (l3 : Plane.lessP a c = false) (l4 : Plane.lessP d b = true) (hne : (a.1 == d.1 && (a.2 == d.2)) = false) (l5 : Plane.lessP a d = true) :
  Calls Try.prog 107 #[.agg #[.int .i64 a.1, .int .i64 a.2], .agg #[.int .i64 b.1, .int .i64 b.2], .agg #[.int .i64 c.1, .int .i64 c.2], .agg #[.int .i64 d.1, .int .i64 d.2]] w fun e w' => ∃ v0_ : Value, e = .returned v0_ ∧ Kd.R k41 41 w' w.heap.size (fun _ => True) v0_ [⟨a.1, a.2, 1⟩, ⟨d.1, d.2, 1⟩] ∧ Below w.heap.size w w' := by
 have L1 := Lib.hid (fun W => qless b a false l1 W)
 have L2 := Lib.hid (fun W => qless d c false l2 W)
 have L3 := Lib.hid (fun W => qless a c false l3 W)
 have L4 := Lib.hid (fun W => qless d b true l4 W)
 have L5 := Lib.hid (fun W => qless a d true l5 W)
 have H1 := Lib.hid (fun W => qwhole a W)
 have H2 := Lib.hid (fun W => qwhole d W)
 have HX := Lib.hid (BQ.made w a b c d)
 clear l1 l2 l3 l4 l5
 go_enter Try.func107, Try.ntmps107
 go_wp2_with (first | (go_at_call 114; ((with_reducible refine (L1.out _).mono ?_)); rintro e wA ⟨rfl, hb2⟩; have hx2 := HX.out.step hb2; have hs_wA := hb2.size; have HX2 := Lib.hid hx2; clear hx2 HX; have HX := Lib.hid HX2.out; clear HX2; obtain ⟨_, _, _, _, _, _, _, _, zawA, zbwA, zcwA, zdwA⟩ := HX.out.all; clear hb2) | (go_at_call 114; ((with_reducible refine (L2.out _).mono ?_)); rintro e wB ⟨rfl, hb2⟩; have hx2 := HX.out.step hb2; have hs_wB := hb2.size; have HX2 := Lib.hid hx2; clear hx2 HX; have HX := Lib.hid HX2.out; clear HX2; obtain ⟨_, _, _, _, _, _, _, _, zawB, zbwB, zcwB, zdwB⟩ := HX.out.all; clear hb2) | (go_at_call 114; ((with_reducible refine (L3.out _).mono ?_)); rintro e wC ⟨rfl, hb2⟩; have hx2 := (HX.out.step ((Below.refl _ _).alloc (Nat.le_refl _) _)).step hb2; have hs_wC := hb2.size; have HX2 := Lib.hid hx2; clear hx2 HX; have HX := Lib.hid HX2.out; clear HX2; have HF := Lib.hid ((hb2.block wB.heap.size (by simp)).trans (heap_alloc_new wB _)); obtain ⟨_, _, _, _, hBC⟩ := blkQ HF.out; obtain ⟨_, _, _, _, _, _, _, _, zawC, zbwC, zcwC, zdwC⟩ := HX.out.all; clear hb2) | (go_at_call 114; ((with_reducible refine (L4.out _).mono ?_)); rintro e wD ⟨rfl, hb2⟩; have hx2 := (HX.out.step ((Below.refl _ _).alloc (Nat.le_refl _) _)).step hb2; have hs_wD := hb2.size; have HX2 := Lib.hid hx2; clear hx2 HX; have HX := Lib.hid HX2.out; clear HX2; have hf2 : wD.heap[wB.heap.size]? = some (.cells #[.int .i64 a.1, .int .i64 a.2] 34 (0, 0)) := (hb2.block _ (by first | omega | (simp; omega))).trans (blk_alloc HF.out _); have ht2 : wD.heap[wC.heap.size]? = some (.cells #[.int .i64 b.1, .int .i64 b.2] 34 (0, 0)) := (hb2.block _ (by simp)).trans (heap_alloc_new' _ _ _ (by simp)); have HF2 := Lib.hid hf2; have HT := Lib.hid ht2; clear hf2 ht2 HF; have ne1 : (wB.heap.size = wC.heap.size) = False := eq_false (by omega); have ne2 : (wC.heap.size = wB.heap.size) = False := eq_false (by omega); obtain ⟨_, _, _, _, _⟩ := blkQ HF2.out; obtain ⟨_, _, _, _, _⟩ := blkQ HT.out; obtain ⟨_, _, _, _, _, _, _, _, zawD, zbwD, zcwD, zdwD⟩ := HX.out.all; clear hb2) | (go_at_call 114; ((with_reducible refine (L5.out _).mono ?_)); rintro e wE ⟨rfl, hb2⟩; have hx2 := ((HX.out.set (p := ⟨wC.heap.size, 0, none⟩) zdwC (Nat.le_refl _) _).set (p := ⟨wC.heap.size, 1, none⟩) zdwC (Nat.le_refl _) _).step hb2; have hs_wE := hb2.size; have HX2 := Lib.hid hx2; clear hx2 HX; have HX := Lib.hid HX2.out; clear HX2; have hf2 : wE.heap[wB.heap.size]? = some (.cells #[.int .i64 a.1, .int .i64 a.2] 34 (0, 0)) := (hb2.block _ (by first | omega | (simp; omega))).trans ((Below.heap_setCell _ _ _ _ (show wB.heap.size ≠ wC.heap.size by omega)).trans ((Below.heap_setCell _ _ _ _ (show wB.heap.size ≠ wC.heap.size by omega)).trans HF2.out)); have HF3 := Lib.hid hf2; clear hf2 HF2; have ht3 : wE.heap[wC.heap.size]? = some (.cells #[.int .i64 d.1, .int .i64 d.2] 34 (0, 0)) := (hb2.block _ (by first | omega | (simp; omega))).trans (blk_put (blk_put HT.out 0 _ rfl) 1 _ rfl); have HT3 := Lib.hid ht3; clear ht3 HT; obtain ⟨_, _, _, _, _⟩ := blkQ HF3.out; obtain ⟨_, _, _, _, _⟩ := blkQ HT3.out; obtain ⟨_, _, _, _, _, _, _, _, zawE, zbwE, zcwE, zdwE⟩ := HX.out.all; clear hb2))
 have HB0 := Lib.hid (below_drew1 HX.out.bel)
 go_region_held3 (fun w' => w'.cell? ⟨wB.heap.size, 0, none⟩ = some (.int .i64 a.1) ∧ w'.cell? ⟨wB.heap.size, 1, none⟩ = some (.int .i64 a.2) ∧ w'.cell? ⟨wC.heap.size, 0, none⟩ = some (.int .i64 d.1) ∧ w'.cell? ⟨wC.heap.size, 1, none⟩ = some (.int .i64 d.2)) (first | (go_split_ands; exact ⟨cellQ hb (by assumption), cellQ hb (by assumption), cellQ hb (by assumption), cellQ hb (by assumption)⟩) | go_keep) (first | (go_at_call 109; ((with_reducible refine (H1.out _).mono ?_)); rintro e wx ⟨rfl, hb⟩; have HB1 := Lib.hid (below_step HB0.out hb); clear HB0; have HB0 := Lib.hid HB1.out; clear HB1) | (go_at_call 109; ((with_reducible refine (H2.out _).mono ?_)); rintro e wx ⟨rfl, hb⟩; have HB1 := Lib.hid (below_step HB0.out hb); clear HB0; have HB0 := Lib.hid HB1.out; clear HB1))
 all_goals go_wp2_with fail
 all_goals go_ret
 all_goals exact ⟨_, rfl, R_two _ _ HB0.out.size _ _ _ _ _ _, below_alloc HB0.out _⟩
set_option maxHeartbeats 2000000 in
set_option maxRecDepth 100000 in
theorem qalong_ft_no {a b c d : Int × Int} (w : World) (l1 : Plane.lessP b a = false) (l2 : Plane.lessP d c = false) (l3 : Plane.lessP a c = false) (l4 : Plane.lessP d b = true) (hne : (a.1 == d.1 && (a.2 == d.2)) = false) (l5 : Plane.lessP a d = false) :
  Calls Try.prog 107 #[.agg #[.int .i64 a.1, .int .i64 a.2], .agg #[.int .i64 b.1, .int .i64 b.2], .agg #[.int .i64 c.1, .int .i64 c.2], .agg #[.int .i64 d.1, .int .i64 d.2]] w fun e w' => ∃ v0_ : Value, e = .returned v0_ ∧ Kd.R k41 41 w' w.heap.size (fun _ => True) v0_ [] ∧ Below w.heap.size w w' := by
 have L1 := Lib.hid (fun W => qless b a false l1 W)
 have L2 := Lib.hid (fun W => qless d c false l2 W)
 have L3 := Lib.hid (fun W => qless a c false l3 W)
 have L4 := Lib.hid (fun W => qless d b true l4 W)
 have L5 := Lib.hid (fun W => qless a d false l5 W)
 have H1 := Lib.hid (fun W => qwhole a W)
 have H2 := Lib.hid (fun W => qwhole d W)
 have HX := Lib.hid (BQ.made w a b c d)
 clear l1 l2 l3 l4 l5
 go_enter Try.func107, Try.ntmps107
 go_wp2_with (first | (go_at_call 114; ((with_reducible refine (L1.out _).mono ?_)); rintro e wA ⟨rfl, hb2⟩; have hx2 := HX.out.step hb2; have hs_wA := hb2.size; have HX2 := Lib.hid hx2; clear hx2 HX; have HX := Lib.hid HX2.out; clear HX2; obtain ⟨_, _, _, _, _, _, _, _, zawA, zbwA, zcwA, zdwA⟩ := HX.out.all; clear hb2) | (go_at_call 114; ((with_reducible refine (L2.out _).mono ?_)); rintro e wB ⟨rfl, hb2⟩; have hx2 := HX.out.step hb2; have hs_wB := hb2.size; have HX2 := Lib.hid hx2; clear hx2 HX; have HX := Lib.hid HX2.out; clear HX2; obtain ⟨_, _, _, _, _, _, _, _, zawB, zbwB, zcwB, zdwB⟩ := HX.out.all; clear hb2) | (go_at_call 114; ((with_reducible refine (L3.out _).mono ?_)); rintro e wC ⟨rfl, hb2⟩; have hx2 := (HX.out.step ((Below.refl _ _).alloc (Nat.le_refl _) _)).step hb2; have hs_wC := hb2.size; have HX2 := Lib.hid hx2; clear hx2 HX; have HX := Lib.hid HX2.out; clear HX2; have HF := Lib.hid ((hb2.block wB.heap.size (by simp)).trans (heap_alloc_new wB _)); obtain ⟨_, _, _, _, hBC⟩ := blkQ HF.out; obtain ⟨_, _, _, _, _, _, _, _, zawC, zbwC, zcwC, zdwC⟩ := HX.out.all; clear hb2) | (go_at_call 114; ((with_reducible refine (L4.out _).mono ?_)); rintro e wD ⟨rfl, hb2⟩; have hx2 := (HX.out.step ((Below.refl _ _).alloc (Nat.le_refl _) _)).step hb2; have hs_wD := hb2.size; have HX2 := Lib.hid hx2; clear hx2 HX; have HX := Lib.hid HX2.out; clear HX2; have hf2 : wD.heap[wB.heap.size]? = some (.cells #[.int .i64 a.1, .int .i64 a.2] 34 (0, 0)) := (hb2.block _ (by first | omega | (simp; omega))).trans (blk_alloc HF.out _); have ht2 : wD.heap[wC.heap.size]? = some (.cells #[.int .i64 b.1, .int .i64 b.2] 34 (0, 0)) := (hb2.block _ (by simp)).trans (heap_alloc_new' _ _ _ (by simp)); have HF2 := Lib.hid hf2; have HT := Lib.hid ht2; clear hf2 ht2 HF; have ne1 : (wB.heap.size = wC.heap.size) = False := eq_false (by omega); have ne2 : (wC.heap.size = wB.heap.size) = False := eq_false (by omega); obtain ⟨_, _, _, _, _⟩ := blkQ HF2.out; obtain ⟨_, _, _, _, _⟩ := blkQ HT.out; obtain ⟨_, _, _, _, _, _, _, _, zawD, zbwD, zcwD, zdwD⟩ := HX.out.all; clear hb2) | (go_at_call 114; ((with_reducible refine (L5.out _).mono ?_)); rintro e wE ⟨rfl, hb2⟩; have hx2 := ((HX.out.set (p := ⟨wC.heap.size, 0, none⟩) zdwC (Nat.le_refl _) _).set (p := ⟨wC.heap.size, 1, none⟩) zdwC (Nat.le_refl _) _).step hb2; have hs_wE := hb2.size; have HX2 := Lib.hid hx2; clear hx2 HX; have HX := Lib.hid HX2.out; clear HX2; have hf2 : wE.heap[wB.heap.size]? = some (.cells #[.int .i64 a.1, .int .i64 a.2] 34 (0, 0)) := (hb2.block _ (by first | omega | (simp; omega))).trans ((Below.heap_setCell _ _ _ _ (show wB.heap.size ≠ wC.heap.size by omega)).trans ((Below.heap_setCell _ _ _ _ (show wB.heap.size ≠ wC.heap.size by omega)).trans HF2.out)); have HF3 := Lib.hid hf2; clear hf2 HF2; have ht3 : wE.heap[wC.heap.size]? = some (.cells #[.int .i64 d.1, .int .i64 d.2] 34 (0, 0)) := (hb2.block _ (by first | omega | (simp; omega))).trans (blk_put (blk_put HT.out 0 _ rfl) 1 _ rfl); have HT3 := Lib.hid ht3; clear ht3 HT; obtain ⟨_, _, _, _, _⟩ := blkQ HF3.out; obtain ⟨_, _, _, _, _⟩ := blkQ HT3.out; obtain ⟨_, _, _, _, _, _, _, _, zawE, zbwE, zcwE, zdwE⟩ := HX.out.all; clear hb2))
 go_ret
 exact ⟨_, rfl, R_zero _ _ HX.out.bel.size, below_alloc HX.out.bel _⟩
set_option maxHeartbeats 2000000 in
set_option maxRecDepth 100000 in
theorem qalong_ff_eq {a c d : Int × Int} (w : World) (l1 : Plane.lessP a a = false) (l2 : Plane.lessP d c = false) (l3 : Plane.lessP a c = false) (l4 : Plane.lessP d a = false) (o1 : Plane.onB a.1 a.2 a.1 a.2 a.1 a.2 = true) (o2 : Plane.onB c.1 c.2 d.1 d.2 a.1 a.2 = true) :
  Calls Try.prog 107 #[.agg #[.int .i64 a.1, .int .i64 a.2], .agg #[.int .i64 a.1, .int .i64 a.2], .agg #[.int .i64 c.1, .int .i64 c.2], .agg #[.int .i64 d.1, .int .i64 d.2]] w fun e w' => ∃ v0_ : Value, e = .returned v0_ ∧ Kd.R k41 41 w' w.heap.size (fun _ => True) v0_ [⟨a.1, a.2, 1⟩] ∧ Below w.heap.size w w' := by
 have L1 := Lib.hid (fun W => qless a a false l1 W)
 have L2 := Lib.hid (fun W => qless d c false l2 W)
 have L3 := Lib.hid (fun W => qless a c false l3 W)
 have L4 := Lib.hid (fun W => qless d a false l4 W)
 have O1 := Lib.hid (fun W => qon o1 W)
 have O2 := Lib.hid (fun W => qon o2 W)
 have H1 := Lib.hid (fun W => qwhole a W)
 have HX := Lib.hid (BQ.made w a a c d)
 clear l1 l2 l3 l4 o1 o2
 go_enter Try.func107, Try.ntmps107
 go_wp2_with (first | (go_at_call 114; ((with_reducible refine (L1.out _).mono ?_)); rintro e wA ⟨rfl, hb2⟩; have hx2 := HX.out.step hb2; have hs_wA := hb2.size; have HX2 := Lib.hid hx2; clear hx2 HX; have HX := Lib.hid HX2.out; clear HX2; obtain ⟨_, _, _, _, _, _, _, _, zawA, zbwA, zcwA, zdwA⟩ := HX.out.all; clear hb2) | (go_at_call 114; ((with_reducible refine (L2.out _).mono ?_)); rintro e wB ⟨rfl, hb2⟩; have hx2 := HX.out.step hb2; have hs_wB := hb2.size; have HX2 := Lib.hid hx2; clear hx2 HX; have HX := Lib.hid HX2.out; clear HX2; obtain ⟨_, _, _, _, _, _, _, _, zawB, zbwB, zcwB, zdwB⟩ := HX.out.all; clear hb2) | (go_at_call 114; ((with_reducible refine (L3.out _).mono ?_)); rintro e wC ⟨rfl, hb2⟩; have hx2 := (HX.out.step ((Below.refl _ _).alloc (Nat.le_refl _) _)).step hb2; have hs_wC := hb2.size; have HX2 := Lib.hid hx2; clear hx2 HX; have HX := Lib.hid HX2.out; clear HX2; have HF := Lib.hid ((hb2.block wB.heap.size (by simp)).trans (heap_alloc_new wB _)); obtain ⟨_, _, _, _, hBC⟩ := blkQ HF.out; obtain ⟨_, _, _, _, _, _, _, _, zawC, zbwC, zcwC, zdwC⟩ := HX.out.all; clear hb2) | (go_at_call 114; ((with_reducible refine (L4.out _).mono ?_)); rintro e wD ⟨rfl, hb2⟩; have hx2 := (HX.out.step ((Below.refl _ _).alloc (Nat.le_refl _) _)).step hb2; have hs_wD := hb2.size; have HX2 := Lib.hid hx2; clear hx2 HX; have HX := Lib.hid HX2.out; clear HX2; have hf2 : wD.heap[wB.heap.size]? = some (.cells #[.int .i64 a.1, .int .i64 a.2] 34 (0, 0)) := (hb2.block _ (by first | omega | (simp; omega))).trans (blk_alloc HF.out _); have ht2 : wD.heap[wC.heap.size]? = some (.cells #[.int .i64 a.1, .int .i64 a.2] 34 (0, 0)) := (hb2.block _ (by simp)).trans (heap_alloc_new' _ _ _ (by simp)); have HF2 := Lib.hid hf2; have HT := Lib.hid ht2; clear hf2 ht2 HF; have ne1 : (wB.heap.size = wC.heap.size) = False := eq_false (by omega); have ne2 : (wC.heap.size = wB.heap.size) = False := eq_false (by omega); obtain ⟨_, _, _, _, _⟩ := blkQ HF2.out; obtain ⟨_, _, _, _, _⟩ := blkQ HT.out; obtain ⟨_, _, _, _, _, _, _, _, zawD, zbwD, zcwD, zdwD⟩ := HX.out.all; clear hb2) | (go_at_call 108; ((with_reducible refine (O1.out _).mono ?_)); rintro e wE ⟨rfl, hb2⟩; have hx2 := HX.out.step hb2; have hs_wE := hb2.size; have HX2 := Lib.hid hx2; clear hx2 HX; have HX := Lib.hid HX2.out; clear HX2; have hf2 : wE.heap[wB.heap.size]? = some (.cells #[.int .i64 a.1, .int .i64 a.2] 34 (0, 0)) := (hb2.block _ (by first | omega | (simp; omega))).trans HF2.out; have HF3 := Lib.hid hf2; clear hf2 HF2; obtain ⟨_, _, _, _, _⟩ := blkQ HF3.out; obtain ⟨_, _, _, _, _, _, _, _, zawE, zbwE, zcwE, zdwE⟩ := HX.out.all; clear hb2) | (go_at_call 108; ((with_reducible refine (O2.out _).mono ?_)); rintro e wF ⟨rfl, hb2⟩; have hx2 := HX.out.step hb2; have hs_wF := hb2.size; have HX2 := Lib.hid hx2; clear hx2 HX; have HX := Lib.hid HX2.out; clear HX2; have hf2 : wF.heap[wB.heap.size]? = some (.cells #[.int .i64 a.1, .int .i64 a.2] 34 (0, 0)) := (hb2.block _ (by omega)).trans HF3.out; have HF4 := Lib.hid hf2; clear hf2 HF3; obtain ⟨_, _, _, _, _⟩ := blkQ HF4.out; obtain ⟨_, _, _, _, _, _, _, _, zawF, zbwF, zcwF, zdwF⟩ := HX.out.all; clear hb2) | (go_at_call 109; ((with_reducible refine (H1.out _).mono ?_)); rintro e wG ⟨rfl, hb2⟩; have hx2 := HX.out.step hb2; have hs_wG := hb2.size; have HX2 := Lib.hid hx2; clear hx2 HX; have HX := Lib.hid HX2.out; clear HX2; obtain ⟨_, _, _, _, _, _, _, _, zawG, zbwG, zcwG, zdwG⟩ := HX.out.all; clear hb2))
 go_ret
 exact ⟨_, rfl, R_one _ _ HX.out.bel.size _ _ _, below_alloc HX.out.bel _⟩
set_option maxHeartbeats 2000000 in
set_option maxRecDepth 100000 in
theorem qalong_ff_lt {a b c d : Int × Int} (w : World) (l1 : Plane.lessP b a = false) (l2 : Plane.lessP d c = false) (l3 : Plane.lessP a c = false) (l4 : Plane.lessP d b = false) (hne : (a.1 == b.1 && (a.2 == b.2)) = false) (l5 : Plane.lessP a b = true) :
  Calls Try.prog 107 #[.agg #[.int .i64 a.1, .int .i64 a.2], .agg #[.int .i64 b.1, .int .i64 b.2], .agg #[.int .i64 c.1, .int .i64 c.2], .agg #[.int .i64 d.1, .int .i64 d.2]] w fun e w' => ∃ v0_ : Value, e = .returned v0_ ∧ Kd.R k41 41 w' w.heap.size (fun _ => True) v0_ [⟨a.1, a.2, 1⟩, ⟨b.1, b.2, 1⟩] ∧ Below w.heap.size w w' := by
 have L1 := Lib.hid (fun W => qless b a false l1 W)
 have L2 := Lib.hid (fun W => qless d c false l2 W)
 have L3 := Lib.hid (fun W => qless a c false l3 W)
 have L4 := Lib.hid (fun W => qless d b false l4 W)
 have L5 := Lib.hid (fun W => qless a b true l5 W)
 have H1 := Lib.hid (fun W => qwhole a W)
 have H2 := Lib.hid (fun W => qwhole b W)
 have HX := Lib.hid (BQ.made w a b c d)
 clear l1 l2 l3 l4 l5
 go_enter Try.func107, Try.ntmps107
 go_wp2_with (first | (go_at_call 114; ((with_reducible refine (L1.out _).mono ?_)); rintro e wA ⟨rfl, hb2⟩; have hx2 := HX.out.step hb2; have hs_wA := hb2.size; have HX2 := Lib.hid hx2; clear hx2 HX; have HX := Lib.hid HX2.out; clear HX2; obtain ⟨_, _, _, _, _, _, _, _, zawA, zbwA, zcwA, zdwA⟩ := HX.out.all; clear hb2) | (go_at_call 114; ((with_reducible refine (L2.out _).mono ?_)); rintro e wB ⟨rfl, hb2⟩; have hx2 := HX.out.step hb2; have hs_wB := hb2.size; have HX2 := Lib.hid hx2; clear hx2 HX; have HX := Lib.hid HX2.out; clear HX2; obtain ⟨_, _, _, _, _, _, _, _, zawB, zbwB, zcwB, zdwB⟩ := HX.out.all; clear hb2) | (go_at_call 114; ((with_reducible refine (L3.out _).mono ?_)); rintro e wC ⟨rfl, hb2⟩; have hx2 := (HX.out.step ((Below.refl _ _).alloc (Nat.le_refl _) _)).step hb2; have hs_wC := hb2.size; have HX2 := Lib.hid hx2; clear hx2 HX; have HX := Lib.hid HX2.out; clear HX2; have HF := Lib.hid ((hb2.block wB.heap.size (by simp)).trans (heap_alloc_new wB _)); obtain ⟨_, _, _, _, hBC⟩ := blkQ HF.out; obtain ⟨_, _, _, _, _, _, _, _, zawC, zbwC, zcwC, zdwC⟩ := HX.out.all; clear hb2) | (go_at_call 114; ((with_reducible refine (L4.out _).mono ?_)); rintro e wD ⟨rfl, hb2⟩; have hx2 := (HX.out.step ((Below.refl _ _).alloc (Nat.le_refl _) _)).step hb2; have hs_wD := hb2.size; have HX2 := Lib.hid hx2; clear hx2 HX; have HX := Lib.hid HX2.out; clear HX2; have hf2 : wD.heap[wB.heap.size]? = some (.cells #[.int .i64 a.1, .int .i64 a.2] 34 (0, 0)) := (hb2.block _ (by first | omega | (simp; omega))).trans (blk_alloc HF.out _); have ht2 : wD.heap[wC.heap.size]? = some (.cells #[.int .i64 b.1, .int .i64 b.2] 34 (0, 0)) := (hb2.block _ (by simp)).trans (heap_alloc_new' _ _ _ (by simp)); have HF2 := Lib.hid hf2; have HT := Lib.hid ht2; clear hf2 ht2 HF; have ne1 : (wB.heap.size = wC.heap.size) = False := eq_false (by omega); have ne2 : (wC.heap.size = wB.heap.size) = False := eq_false (by omega); obtain ⟨_, _, _, _, _⟩ := blkQ HF2.out; obtain ⟨_, _, _, _, _⟩ := blkQ HT.out; obtain ⟨_, _, _, _, _, _, _, _, zawD, zbwD, zcwD, zdwD⟩ := HX.out.all; clear hb2) | (go_at_call 114; ((with_reducible refine (L5.out _).mono ?_)); rintro e wE ⟨rfl, hb2⟩; have hx2 := HX.out.step hb2; have hs_wE := hb2.size; have HX2 := Lib.hid hx2; clear hx2 HX; have HX := Lib.hid HX2.out; clear HX2; have hf2 : wE.heap[wB.heap.size]? = some (.cells #[.int .i64 a.1, .int .i64 a.2] 34 (0, 0)) := (hb2.block _ (by first | omega | (simp; omega))).trans HF2.out; have HF3 := Lib.hid hf2; clear hf2 HF2; have ht3 : wE.heap[wC.heap.size]? = some (.cells #[.int .i64 b.1, .int .i64 b.2] 34 (0, 0)) := (hb2.block _ (by first | omega | (simp; omega))).trans HT.out; have HT3 := Lib.hid ht3; clear ht3 HT; obtain ⟨_, _, _, _, _⟩ := blkQ HF3.out; obtain ⟨_, _, _, _, _⟩ := blkQ HT3.out; obtain ⟨_, _, _, _, _, _, _, _, zawE, zbwE, zcwE, zdwE⟩ := HX.out.all; clear hb2))
 have HB0 := Lib.hid (below_drew1 HX.out.bel)
 go_region_held3 (fun w' => w'.cell? ⟨wB.heap.size, 0, none⟩ = some (.int .i64 a.1) ∧ w'.cell? ⟨wB.heap.size, 1, none⟩ = some (.int .i64 a.2) ∧ w'.cell? ⟨wC.heap.size, 0, none⟩ = some (.int .i64 b.1) ∧ w'.cell? ⟨wC.heap.size, 1, none⟩ = some (.int .i64 b.2)) (first | (go_split_ands; exact ⟨cellQ hb (by assumption), cellQ hb (by assumption), cellQ hb (by assumption), cellQ hb (by assumption)⟩) | go_keep) (first | (go_at_call 109; ((with_reducible refine (H1.out _).mono ?_)); rintro e wx ⟨rfl, hb⟩; have HB1 := Lib.hid (below_step HB0.out hb); clear HB0; have HB0 := Lib.hid HB1.out; clear HB1) | (go_at_call 109; ((with_reducible refine (H2.out _).mono ?_)); rintro e wx ⟨rfl, hb⟩; have HB1 := Lib.hid (below_step HB0.out hb); clear HB0; have HB0 := Lib.hid HB1.out; clear HB1))
 all_goals go_wp2_with fail
 all_goals go_ret
 all_goals exact ⟨_, rfl, R_two _ _ HB0.out.size _ _ _ _ _ _, below_alloc HB0.out _⟩
set_option maxHeartbeats 2000000 in
set_option maxRecDepth 100000 in
theorem qalong_ff_no {a b c d : Int × Int} (w : World) (l1 : Plane.lessP b a = false) (l2 : Plane.lessP d c = false) (l3 : Plane.lessP a c = false) (l4 : Plane.lessP d b = false) (hne : (a.1 == b.1 && (a.2 == b.2)) = false) (l5 : Plane.lessP a b = false) :
  Calls Try.prog 107 #[.agg #[.int .i64 a.1, .int .i64 a.2], .agg #[.int .i64 b.1, .int .i64 b.2], .agg #[.int .i64 c.1, .int .i64 c.2], .agg #[.int .i64 d.1, .int .i64 d.2]] w fun e w' => ∃ v0_ : Value, e = .returned v0_ ∧ Kd.R k41 41 w' w.heap.size (fun _ => True) v0_ [] ∧ Below w.heap.size w w' := by
 have L1 := Lib.hid (fun W => qless b a false l1 W)
 have L2 := Lib.hid (fun W => qless d c false l2 W)
 have L3 := Lib.hid (fun W => qless a c false l3 W)
 have L4 := Lib.hid (fun W => qless d b false l4 W)
 have L5 := Lib.hid (fun W => qless a b false l5 W)
 have H1 := Lib.hid (fun W => qwhole a W)
 have H2 := Lib.hid (fun W => qwhole b W)
 have HX := Lib.hid (BQ.made w a b c d)
 clear l1 l2 l3 l4 l5
 go_enter Try.func107, Try.ntmps107
 go_wp2_with (first | (go_at_call 114; ((with_reducible refine (L1.out _).mono ?_)); rintro e wA ⟨rfl, hb2⟩; have hx2 := HX.out.step hb2; have hs_wA := hb2.size; have HX2 := Lib.hid hx2; clear hx2 HX; have HX := Lib.hid HX2.out; clear HX2; obtain ⟨_, _, _, _, _, _, _, _, zawA, zbwA, zcwA, zdwA⟩ := HX.out.all; clear hb2) | (go_at_call 114; ((with_reducible refine (L2.out _).mono ?_)); rintro e wB ⟨rfl, hb2⟩; have hx2 := HX.out.step hb2; have hs_wB := hb2.size; have HX2 := Lib.hid hx2; clear hx2 HX; have HX := Lib.hid HX2.out; clear HX2; obtain ⟨_, _, _, _, _, _, _, _, zawB, zbwB, zcwB, zdwB⟩ := HX.out.all; clear hb2) | (go_at_call 114; ((with_reducible refine (L3.out _).mono ?_)); rintro e wC ⟨rfl, hb2⟩; have hx2 := (HX.out.step ((Below.refl _ _).alloc (Nat.le_refl _) _)).step hb2; have hs_wC := hb2.size; have HX2 := Lib.hid hx2; clear hx2 HX; have HX := Lib.hid HX2.out; clear HX2; have HF := Lib.hid ((hb2.block wB.heap.size (by simp)).trans (heap_alloc_new wB _)); obtain ⟨_, _, _, _, hBC⟩ := blkQ HF.out; obtain ⟨_, _, _, _, _, _, _, _, zawC, zbwC, zcwC, zdwC⟩ := HX.out.all; clear hb2) | (go_at_call 114; ((with_reducible refine (L4.out _).mono ?_)); rintro e wD ⟨rfl, hb2⟩; have hx2 := (HX.out.step ((Below.refl _ _).alloc (Nat.le_refl _) _)).step hb2; have hs_wD := hb2.size; have HX2 := Lib.hid hx2; clear hx2 HX; have HX := Lib.hid HX2.out; clear HX2; have hf2 : wD.heap[wB.heap.size]? = some (.cells #[.int .i64 a.1, .int .i64 a.2] 34 (0, 0)) := (hb2.block _ (by first | omega | (simp; omega))).trans (blk_alloc HF.out _); have ht2 : wD.heap[wC.heap.size]? = some (.cells #[.int .i64 b.1, .int .i64 b.2] 34 (0, 0)) := (hb2.block _ (by simp)).trans (heap_alloc_new' _ _ _ (by simp)); have HF2 := Lib.hid hf2; have HT := Lib.hid ht2; clear hf2 ht2 HF; have ne1 : (wB.heap.size = wC.heap.size) = False := eq_false (by omega); have ne2 : (wC.heap.size = wB.heap.size) = False := eq_false (by omega); obtain ⟨_, _, _, _, _⟩ := blkQ HF2.out; obtain ⟨_, _, _, _, _⟩ := blkQ HT.out; obtain ⟨_, _, _, _, _, _, _, _, zawD, zbwD, zcwD, zdwD⟩ := HX.out.all; clear hb2) | (go_at_call 114; ((with_reducible refine (L5.out _).mono ?_)); rintro e wE ⟨rfl, hb2⟩; have hx2 := HX.out.step hb2; have hs_wE := hb2.size; have HX2 := Lib.hid hx2; clear hx2 HX; have HX := Lib.hid HX2.out; clear HX2; have hf2 : wE.heap[wB.heap.size]? = some (.cells #[.int .i64 a.1, .int .i64 a.2] 34 (0, 0)) := (hb2.block _ (by first | omega | (simp; omega))).trans HF2.out; have HF3 := Lib.hid hf2; clear hf2 HF2; have ht3 : wE.heap[wC.heap.size]? = some (.cells #[.int .i64 b.1, .int .i64 b.2] 34 (0, 0)) := (hb2.block _ (by first | omega | (simp; omega))).trans HT.out; have HT3 := Lib.hid ht3; clear ht3 HT; obtain ⟨_, _, _, _, _⟩ := blkQ HF3.out; obtain ⟨_, _, _, _, _⟩ := blkQ HT3.out; obtain ⟨_, _, _, _, _, _, _, _, zawE, zbwE, zcwE, zdwE⟩ := HX.out.all; clear hb2))
 go_ret
 exact ⟨_, rfl, R_zero _ _ HX.out.bel.size, below_alloc HX.out.bel _⟩
set_option maxHeartbeats 2000000 in
set_option maxRecDepth 100000 in
theorem qalong_ab {a b c d : Int × Int} (w : World) {L : List S41} (l1 : Plane.lessP b a = true) (hr : ∀ W, Calls Try.prog 107 #[.agg #[.int .i64 b.1, .int .i64 b.2], .agg #[.int .i64 a.1, .int .i64 a.2], .agg #[.int .i64 c.1, .int .i64 c.2], .agg #[.int .i64 d.1, .int .i64 d.2]] W fun e w' => ∃ v0_ : Value, e = .returned v0_ ∧ Kd.R k41 41 w' W.heap.size (fun _ => True) v0_ L ∧ Below W.heap.size W w') :
  Calls Try.prog 107 #[.agg #[.int .i64 a.1, .int .i64 a.2], .agg #[.int .i64 b.1, .int .i64 b.2], .agg #[.int .i64 c.1, .int .i64 c.2], .agg #[.int .i64 d.1, .int .i64 d.2]] w fun e w' => ∃ v0_ : Value, e = .returned v0_ ∧ Kd.R k41 41 w' w.heap.size (fun _ => True) v0_ L ∧ Below w.heap.size w w' := by
 have L1 := Lib.hid (fun W => qless b a true l1 W)
 have HR := Lib.hid hr
 clear l1 hr
 have HX := Lib.hid (BQ.made w a b c d)
 go_enter Try.func107, Try.ntmps107
 go_wp2_with (first | (go_at_call 114; ((with_reducible refine (L1.out _).mono ?_)); rintro e w2 ⟨rfl, hb2⟩; have hx2 := HX.out.step hb2; clear hb2; have HX2 := Lib.hid hx2; clear hx2 HX; have HX := Lib.hid HX2.out; clear HX2; obtain ⟨_, _, _, _, _, _, _, _, _, _, _, _⟩ := HX.out.all) | (go_at_call 107; ((with_reducible refine (HR.out _).mono ?_)); rintro e w3 ⟨v3, rfl, hr3, hb3⟩; have HRR := Lib.hid (Kd.R_lower hr3 HX.out.bel.size); have HBB := Lib.hid (below_step HX.out.bel hb3); clear hr3 hb3))
 go_ret
 exact ⟨_, rfl, HRR.out, HBB.out⟩
set_option maxHeartbeats 2000000 in
set_option maxRecDepth 100000 in
theorem qalong_cd {a b c d : Int × Int} (w : World) {L : List S41} (l1 : Plane.lessP b a = false) (l2 : Plane.lessP d c = true) (hr : ∀ W, Calls Try.prog 107 #[.agg #[.int .i64 a.1, .int .i64 a.2], .agg #[.int .i64 b.1, .int .i64 b.2], .agg #[.int .i64 d.1, .int .i64 d.2], .agg #[.int .i64 c.1, .int .i64 c.2]] W fun e w' => ∃ v0_ : Value, e = .returned v0_ ∧ Kd.R k41 41 w' W.heap.size (fun _ => True) v0_ L ∧ Below W.heap.size W w') :
  Calls Try.prog 107 #[.agg #[.int .i64 a.1, .int .i64 a.2], .agg #[.int .i64 b.1, .int .i64 b.2], .agg #[.int .i64 c.1, .int .i64 c.2], .agg #[.int .i64 d.1, .int .i64 d.2]] w fun e w' => ∃ v0_ : Value, e = .returned v0_ ∧ Kd.R k41 41 w' w.heap.size (fun _ => True) v0_ L ∧ Below w.heap.size w w' := by
 have L1 := Lib.hid (fun W => qless b a false l1 W)
 have L2 := Lib.hid (fun W => qless d c true l2 W)
 have HR := Lib.hid hr
 clear l1 l2 hr
 have HX := Lib.hid (BQ.made w a b c d)
 go_enter Try.func107, Try.ntmps107
 go_wp2_with (first | (go_at_call 114; ((with_reducible refine (L1.out _).mono ?_)); rintro e w2 ⟨rfl, hb2⟩; have hx2 := HX.out.step hb2; clear hb2; have HX2 := Lib.hid hx2; clear hx2 HX; have HX := Lib.hid HX2.out; clear HX2; obtain ⟨_, _, _, _, _, _, _, _, _, _, _, _⟩ := HX.out.all) | (go_at_call 114; ((with_reducible refine (L2.out _).mono ?_)); rintro e w2 ⟨rfl, hb2⟩; have hx2 := HX.out.step hb2; clear hb2; have HX2 := Lib.hid hx2; clear hx2 HX; have HX := Lib.hid HX2.out; clear HX2; obtain ⟨_, _, _, _, _, _, _, _, _, _, _, _⟩ := HX.out.all) | (go_at_call 107; ((with_reducible refine (HR.out _).mono ?_)); rintro e w3 ⟨v3, rfl, hr3, hb3⟩; have HRR := Lib.hid (Kd.R_lower hr3 HX.out.bel.size); have HBB := Lib.hid (below_step HX.out.bel hb3); clear hr3 hb3))
 go_ret
 exact ⟨_, rfl, HRR.out, HBB.out⟩
set_option maxHeartbeats 2000000 in
set_option maxRecDepth 100000 in
theorem qcross_al {a b c d : Int × Int} (w : World) {L : List S41} (ha : Plane.InP a) (hb : Plane.InP b) (hc : Plane.InP c) (hd : Plane.InP d) (s1 : Plane.side a.1 a.2 b.1 b.2 c.1 c.2 = 0) (s2 : Plane.side a.1 a.2 b.1 b.2 d.1 d.2 = 0) (s3 : Plane.side c.1 c.2 d.1 d.2 a.1 a.2 = 0) (s4 : Plane.side c.1 c.2 d.1 d.2 b.1 b.2 = 0) (hr : ∀ W, Calls Try.prog 107 #[.agg #[.int .i64 a.1, .int .i64 a.2], .agg #[.int .i64 b.1, .int .i64 b.2], .agg #[.int .i64 c.1, .int .i64 c.2], .agg #[.int .i64 d.1, .int .i64 d.2]] W fun e w' => ∃ v0_ : Value, e = .returned v0_ ∧ Kd.R k41 41 w' W.heap.size (fun _ => True) v0_ L ∧ Below W.heap.size W w') :
  Calls Try.prog 75 #[.agg #[.int .i64 a.1, .int .i64 a.2], .agg #[.int .i64 b.1, .int .i64 b.2], .agg #[.int .i64 c.1, .int .i64 c.2], .agg #[.int .i64 d.1, .int .i64 d.2]] w fun e w' => ∃ v0_ : Value, e = .returned v0_ ∧ Kd.R k41 41 w' w.heap.size (fun _ => True) v0_ L ∧ Below w.heap.size w w' := by
 have q1 := fun W => qside ha hb hc W
 have q2 := fun W => qside ha hb hd W
 have q3 := fun W => qside hc hd ha W
 have q4 := fun W => qside hc hd hb W
 rw [s1] at q1
 rw [s2] at q2
 rw [s3] at q3
 rw [s4] at q4
 have Q1 := Lib.hid q1
 have Q2 := Lib.hid q2
 have Q3 := Lib.hid q3
 have Q4 := Lib.hid q4
 have HR := Lib.hid hr
 clear q1 q2 q3 q4 s1 s2 s3 s4 hr ha hb hc hd
 have HX := Lib.hid (BQ.made w a b c d)
 go_enter Try.func75, Try.ntmps75
 go_wp2_with (first | (go_at_call 68; ((with_reducible refine (Q1.out _).mono ?_)); rintro e w2 ⟨rfl, hb2⟩; have hx2 := HX.out.step hb2; clear hb2; have HX2 := Lib.hid hx2; clear hx2 HX; have HX := Lib.hid HX2.out; clear HX2; obtain ⟨_, _, _, _, _, _, _, _, _, _, _, _⟩ := HX.out.all) | (go_at_call 68; ((with_reducible refine (Q2.out _).mono ?_)); rintro e w2 ⟨rfl, hb2⟩; have hx2 := HX.out.step hb2; clear hb2; have HX2 := Lib.hid hx2; clear hx2 HX; have HX := Lib.hid HX2.out; clear HX2; obtain ⟨_, _, _, _, _, _, _, _, _, _, _, _⟩ := HX.out.all) | (go_at_call 68; ((with_reducible refine (Q3.out _).mono ?_)); rintro e w2 ⟨rfl, hb2⟩; have hx2 := HX.out.step hb2; clear hb2; have HX2 := Lib.hid hx2; clear hx2 HX; have HX := Lib.hid HX2.out; clear HX2; obtain ⟨_, _, _, _, _, _, _, _, _, _, _, _⟩ := HX.out.all) | (go_at_call 68; ((with_reducible refine (Q4.out _).mono ?_)); rintro e w2 ⟨rfl, hb2⟩; have hx2 := HX.out.step hb2; clear hb2; have HX2 := Lib.hid hx2; clear hx2 HX; have HX := Lib.hid HX2.out; clear HX2; obtain ⟨_, _, _, _, _, _, _, _, _, _, _, _⟩ := HX.out.all) | (go_at_call 107; ((with_reducible refine (HR.out _).mono ?_)); rintro e w3 ⟨v3, rfl, hr3, hb3⟩; have HRR := Lib.hid (Kd.R_lower hr3 HX.out.bel.size); have HBB := Lib.hid (below_step HX.out.bel hb3); clear hr3 hb3))
 go_ret
 exact ⟨_, rfl, HRR.out, HBB.out⟩
section
open Plane
theorem ev_ifT {α : Type} {c : Prop} [Decidable c] {f g : Nat → Option α} {r : α} (h : c) (e : Ev f r) : Ev (fun k => if c then f k else g k) r :=
 e.congr fun k => if_pos h
theorem ev_ifF {α : Type} {c : Prop} [Decidable c] {f g : Nat → Option α} {r : α} (h : ¬ c) (e : Ev g r) : Ev (fun k => if c then f k else g k) r :=
 e.congr fun k => if_neg h
theorem ev_bindS {α β : Type} {f : Nat → α → Option β} {o : Option α} {a : α} {r : β} (h : o = some a) (k : Ev (fun n => f n a) r) : Ev (fun n => o.bind (f n)) r :=
 k.congr fun n => by rw [h]; rfl
theorem pw64 {x : Int} (h1 : -9223372036854775808 ≤ x) (h2 : x ≤ 9223372036854775807) : wrap64 x = x := by unfold wrap64; omega
theorem pmul {x y A B : Int} (h1 : -A ≤ x) (h2 : x ≤ A) (h3 : -B ≤ y) (h4 : y ≤ B) : -(A * B) ≤ x * y ∧ x * y ≤ A * B := by
 have hA : 0 ≤ A := by omega
 have hB : 0 ≤ B := by omega
 have h : (x * y).natAbs ≤ (A * B).natAbs := by
  rw [Int.natAbs_mul, Int.natAbs_mul]; exact Nat.mul_le_mul (by omega) (by omega)
 have := Int.mul_nonneg hA hB
 omega
theorem sGcd_tmod (a b : Int) : Int.gcd b (a.tmod b) = Int.gcd a b := by
 rw [Int.gcd_comm a b]
 have h : a.tmod b = a - b * a.tdiv b := by have := Int.mul_tdiv_add_tmod a b; omega
 rw [h, Int.gcd_sub_mul_left_right]
theorem tmod_lt {a b : Int} (h : b ≠ 0) : (a.tmod b).natAbs < b.natAbs := by
 have h1 := Int.tmod_lt_of_pos a (b := (b.natAbs : Int)) (by omega)
 have h2 := Int.lt_tmod_of_pos a (b := (b.natAbs : Int)) (by omega)
 have e : a.tmod (b.natAbs : Int) = a.tmod b := by
  rcases Int.natAbs_eq b with h | h
  ·rw [← h]
  conv => rhs; rw [h]
  rw [Int.tmod_neg]
 rw [e] at h1 h2
 omega
theorem sGcd_l0 : ∀ (n : Nat) (a b : Int), b.natAbs ≤ n → ∃ g, Ev (fun k => spec_l01Gcd.l0 k a b) g ∧ g.natAbs = Int.gcd a b
 | n, a, b, hb => by
  by_cases h : b = 0
  ·subst h
   refine ⟨a, Ev.step (fun k => by rw [spec_l01Gcd.l0]) (ev_ifT rfl (Ev.now _)), by rw [Int.gcd_zero_right]⟩
  have hlt := tmod_lt (a := a) h
  match n, hb with
  | 0, hb => exact absurd hb (by omega)
  | n + 1, hb =>
   obtain ⟨g, e, hg⟩ := sGcd_l0 n b (a.tmod b) (by omega)
   exact ⟨g, Ev.step (fun k => by rw [spec_l01Gcd.l0]) (ev_ifF h e), by rw [hg, sGcd_tmod]⟩
theorem sGcd (a b : Int) : ∃ g, Ev (fun k => spec_l01Gcd.f k a b) g ∧ g.natAbs = Int.gcd a b := sGcd_l0 b.natAbs a b (Nat.le_refl _)
theorem natAbs_gcd (g x : Int) (h : Int) : Int.gcd g x = Int.gcd (g.natAbs : Int) x := by simp [Int.gcd]
theorem sSpot_pos {x y d : Int} (hx : -100000000000000000 ≤ x ∧ x ≤ 100000000000000000) (hy : -100000000000000000 ≤ y ∧ y ≤ 100000000000000000) (hd : 0 < d) (hd2 : d ≤ 100000000000000000) :
  Ev (fun k => (spec_l01Gcd.f k x y).bind fun t188 => ((spec_l01Gcd.f k t188 d).bind fun t189 => ((spec_l01Abs.f t189).bind fun t190 => (if t190 = 0 then (none) else (some (wrap64 (Int.tdiv x t190), wrap64 (Int.tdiv y t190), wrap64 (Int.tdiv d t190))))))) (spot3 x y d) := by
 obtain ⟨g, e, hg⟩ := sGcd x y
 obtain ⟨g', e', hg'⟩ := sGcd g d
 rw [natAbs_gcd g d 0, hg] at hg'
 have hgd : (Int.gcd (Int.gcd x y) d : Int) ≤ d := by
  have := Int.gcd_le_natAbs_right (a := (Int.gcd x y : Int)) (show d ≠ 0 by omega); omega
 have hgp : (Int.gcd (Int.gcd x y) d : Int) ≠ 0 := by
  intro h
  have := (Int.gcd_eq_zero_iff.1 (by omega : Int.gcd (Int.gcd x y) d = 0)).2
  omega
 have hab : spec_l01Abs.f g' = some (Int.gcd (Int.gcd x y) d : Int) := by
  unfold spec_l01Abs.f
  rw [← hg'] at hgd ⊢
  split
  ·rw [pw64 (by omega) (by omega)]; congr 1; omega
  congr 1; omega
 refine e.bind (e'.bind (ev_bindS hab (ev_ifF hgp ?_)))
 have hq : ∀ z : Int, -100000000000000000 ≤ z ∧ z ≤ 100000000000000000 → wrap64 (z.tdiv (Int.gcd (Int.gcd x y) d)) = z.tdiv (Int.gcd (Int.gcd x y) d) := by
  intro z hz
  have := Int.natAbs_tdiv_le_natAbs z (Int.gcd (Int.gcd x y) d : Int)
  exact pw64 (by omega) (by omega)
 rw [hq x hx, hq y hy, hq d ⟨by omega, hd2⟩]
 exact Ev.now _
theorem sSpot_f {x y d : Int} (hx : -100000000000000000 ≤ x ∧ x ≤ 100000000000000000) (hy : -100000000000000000 ≤ y ∧ y ≤ 100000000000000000) (hd : d ≠ 0) (hd2 : -100000000000000000 ≤ d ∧ d ≤ 100000000000000000) :
  Ev (fun k => spec_l03Spot.f k x y d) (if d < 0 then spot3 (-x) (-y) (-d) else spot3 x y d) := by
 by_cases h : d < 0
 ·rw [if_pos h]
  refine Ev.congr (fun k => by rw [spec_l03Spot.f, if_pos h, pw64 (x := -x) (by omega) (by omega), pw64 (x := -y) (by omega) (by omega), pw64 (x := -d) (by omega) (by omega)]) (sSpot_pos (x := -x) (y := -y) (d := -d) (by omega) (by omega) (by omega) (by omega))
 rw [if_neg h]
 refine Ev.congr (fun k => by rw [spec_l03Spot.f, if_neg h]) (sSpot_pos hx hy (by omega) (by omega))
theorem sign_mul (x y : Int) : wrap64 ((if x > 0 then 1 else if x < 0 then -1 else 0) * (if y > 0 then 1 else if y < 0 then -1 else 0)) > 0 ↔ (0 < x ∧ 0 < y) ∨ (x < 0 ∧ y < 0) := by
 by_cases h1 : x > 0 <;> by_cases h2 : x < 0 <;> by_cases h3 : y > 0 <;> by_cases h4 : y < 0 <;> simp [h1, h2, h3, h4, wrap64] <;> omega
end
section
open Plane
theorem qalong0 {a b c d : Int × Int} (ha : InP a) (hb : InP b) (hc : InP c) (hd : InP d) (s1 : Plane.side a.1 a.2 b.1 b.2 c.1 c.2 = 0) (s2 : Plane.side a.1 a.2 b.1 b.2 d.1 d.2 = 0) (s3 : Plane.side c.1 c.2 d.1 d.2 a.1 a.2 = 0) (s4 : Plane.side c.1 c.2 d.1 d.2 b.1 b.2 = 0) (hab : lessP b a = false) (hcd : lessP d c = false) (w : World) :
  Calls Try.prog 107 #[.agg #[.int .i64 a.1, .int .i64 a.2], .agg #[.int .i64 b.1, .int .i64 b.2], .agg #[.int .i64 c.1, .int .i64 c.2], .agg #[.int .i64 d.1, .int .i64 d.2]] w fun e w' => ∃ v0_ : Value, e = .returned v0_ ∧ Kd.R k41 41 w' w.heap.size (fun _ => True) v0_ ((alongP a b c d).map spT) ∧ Below w.heap.size w w' := by
 have e1 : mnL a b = a := by simp [mnL, hab]
 have e2 : mxL a b = b := by simp [mxL, hab]
 have e3 : mnL c d = c := by simp [mnL, hcd]
 have e4 : mxL c d = d := by simp [mxL, hcd]
 have kab := key_lt hb ha; have kcd := key_lt hd hc
 rw [hab] at kab; rw [hcd] at kcd; simp at kab kcd
 have ef : (if lessP a c = true then c else a) = mxL a c := by
  unfold mxL
  rw [key_lt ha hc, key_lt hc ha]
  by_cases h1 : key a < key c
  ·simp [h1, show ¬ key c < key a by omega]
  by_cases h2 : key c < key a
  ·simp [h1, h2]
  simp [h1, h2]; exact key_inj ha hc (by omega)
 have et : (if lessP d b = true then d else b) = mnL b d := by unfold mnL; rfl
 have fin := mxL_in ha hc
 have kf := mxL_key ha hc
 have kt := mnL_key hb hd
 have both : ∀ f t : Int × Int, f = mxL a c → t = mnL b d → f = t → onB a.1 a.2 b.1 b.2 f.1 f.2 = true ∧ onB c.1 c.2 d.1 d.2 f.1 f.2 = true := by
  intro f t hf' ht' he
  have of : f = a ∨ f = c := hf' ▸ mxL_or a c
  have sf1 : side a.1 a.2 b.1 b.2 f.1 f.2 = 0 := by
   rcases of with h | h
   ·subst h; unfold side; grind
   rw [h]; exact s1
  have sf2 : side c.1 c.2 d.1 d.2 f.1 f.2 = 0 := by
   rcases of with h | h
   ·rw [h]; exact s3
   subst h; unfold side; grind
  have inf : InP f := by rw [hf']; exact fin
  exact ⟨(on_key ha hb inf sf1).2 (by rw [← hf'] at kf; rw [← ht'] at kt; rw [← he] at kt; omega), (on_key hc hd inf sf2).2 (by rw [← hf'] at kf; rw [← ht'] at kt; rw [← he] at kt; omega)⟩
 have ne : ∀ f t : Int × Int, f ≠ t → (f.1 == t.1 && (f.2 == t.2)) = false := fun f t h => Bool.eq_false_iff.2 fun h' => h (by rw [Bool.and_eq_true, beq_iff_eq, beq_iff_eq] at h'; exact Prod.ext h'.1 h'.2)
 have al : alongP a b c d = if mxL a c = mnL b d then [((mxL a c).1, (mxL a c).2, 1)] else if lessP (mxL a c) (mnL b d) then [((mxL a c).1, (mxL a c).2, 1), ((mnL b d).1, (mnL b d).2, 1)] else [] := by
  unfold alongP; rw [e1, e2, e3, e4]
 rw [al]
 cases l3 : lessP a c <;> cases l4 : lessP d b
 ·rw [l3] at ef; rw [l4] at et
  rw [if_neg (by decide)] at ef; rw [if_neg (by decide)] at et
  have bt := both a b ef et
  rw [← ef, ← et]
  by_cases h : a = b
  ·rw [if_pos h]
   obtain ⟨o1, o2⟩ := bt h
   subst h
   exact qalong_ff_eq w hab hcd l3 l4 o1 o2
  rw [if_neg h]
  cases l5 : lessP a b
  ·rw [if_neg (by decide)]; exact qalong_ff_no w hab hcd l3 l4 (ne _ _ h) l5
  rw [if_pos rfl]; exact qalong_ff_lt w hab hcd l3 l4 (ne _ _ h) l5
 ·rw [l3] at ef; rw [l4] at et
  rw [if_neg (by decide)] at ef; rw [if_pos rfl] at et
  have bt := both a d ef et
  rw [← ef, ← et]
  by_cases h : a = d
  ·rw [if_pos h]
   obtain ⟨o1, o2⟩ := bt h
   subst h
   exact qalong_ft_eq w hab hcd l3 l4 o1 o2
  rw [if_neg h]
  cases l5 : lessP a d
  ·rw [if_neg (by decide)]; exact qalong_ft_no w hab hcd l3 l4 (ne _ _ h) l5
  rw [if_pos rfl]; exact qalong_ft_lt w hab hcd l3 l4 (ne _ _ h) l5
 ·rw [l3] at ef; rw [l4] at et
  rw [if_pos rfl] at ef; rw [if_neg (by decide)] at et
  have bt := both c b ef et
  rw [← ef, ← et]
  by_cases h : c = b
  ·rw [if_pos h]
   obtain ⟨o1, o2⟩ := bt h
   subst h
   exact qalong_tf_eq w hab hcd l3 l4 o1 o2
  rw [if_neg h]
  cases l5 : lessP c b
  ·rw [if_neg (by decide)]; exact qalong_tf_no w hab hcd l3 l4 (ne _ _ h) l5
  rw [if_pos rfl]; exact qalong_tf_lt w hab hcd l3 l4 (ne _ _ h) l5
 rw [l3] at ef; rw [l4] at et
 rw [if_pos rfl] at ef; rw [if_pos rfl] at et
 have bt := both c d ef et
 rw [← ef, ← et]
 by_cases h : c = d
 ·rw [if_pos h]
  obtain ⟨o1, o2⟩ := bt h
  subst h
  exact qalong_tt_eq w hab hcd l3 l4 o1 o2
 rw [if_neg h]
 cases l5 : lessP c d
 ·rw [if_neg (by decide)]; exact qalong_tt_no w hab hcd l3 l4 (ne _ _ h) l5
 rw [if_pos rfl]; exact qalong_tt_lt w hab hcd l3 l4 (ne _ _ h) l5
theorem qswapL {a b c d : Int × Int} (ha : InP a) (hb : InP b) : alongP b a c d = alongP a b c d := by
 have e1 : mnL b a = mnL a b := key_inj (mnL_in hb ha) (mnL_in ha hb) (by rw [mnL_key hb ha, mnL_key ha hb]; omega)
 have e2 : mxL b a = mxL a b := key_inj (mxL_in hb ha) (mxL_in ha hb) (by rw [mxL_key hb ha, mxL_key ha hb]; omega)
 unfold alongP; rw [e1, e2]
theorem qswapR {a b c d : Int × Int} (hc : InP c) (hd : InP d) : alongP a b d c = alongP a b c d := by
 have e1 : mnL d c = mnL c d := key_inj (mnL_in hd hc) (mnL_in hc hd) (by rw [mnL_key hd hc, mnL_key hc hd]; omega)
 have e2 : mxL d c = mxL c d := key_inj (mxL_in hd hc) (mxL_in hc hd) (by rw [mxL_key hd hc, mxL_key hc hd]; omega)
 unfold alongP; rw [e1, e2]
theorem qasym {p q : Int × Int} (hp : InP p) (hq : InP q) (h : lessP p q = true) : lessP q p = false := by
 rw [key_lt hp hq] at h; rw [key_lt hq hp]; simp at *; omega
theorem qalong1 {a b c d : Int × Int} (ha : InP a) (hb : InP b) (hc : InP c) (hd : InP d) (s1 : Plane.side a.1 a.2 b.1 b.2 c.1 c.2 = 0) (s2 : Plane.side a.1 a.2 b.1 b.2 d.1 d.2 = 0) (s3 : Plane.side c.1 c.2 d.1 d.2 a.1 a.2 = 0) (s4 : Plane.side c.1 c.2 d.1 d.2 b.1 b.2 = 0) (hab : lessP b a = false) (w : World) :
  Calls Try.prog 107 #[.agg #[.int .i64 a.1, .int .i64 a.2], .agg #[.int .i64 b.1, .int .i64 b.2], .agg #[.int .i64 c.1, .int .i64 c.2], .agg #[.int .i64 d.1, .int .i64 d.2]] w fun e w' => ∃ v0_ : Value, e = .returned v0_ ∧ Kd.R k41 41 w' w.heap.size (fun _ => True) v0_ ((alongP a b c d).map spT) ∧ Below w.heap.size w w' := by
 cases hcd : lessP d c
 ·exact qalong0 ha hb hc hd s1 s2 s3 s4 hab hcd w
 rw [← qswapR hc hd]
 exact qalong_cd w hab hcd (fun W => qalong0 ha hb hd hc s2 s1 (by rw [side_swap]; omega) (by rw [side_swap]; omega) hab (qasym hd hc hcd) W)
theorem qalong {a b c d : Int × Int} (ha : InP a) (hb : InP b) (hc : InP c) (hd : InP d) (s1 : Plane.side a.1 a.2 b.1 b.2 c.1 c.2 = 0) (s2 : Plane.side a.1 a.2 b.1 b.2 d.1 d.2 = 0) (s3 : Plane.side c.1 c.2 d.1 d.2 a.1 a.2 = 0) (s4 : Plane.side c.1 c.2 d.1 d.2 b.1 b.2 = 0) (w : World) :
  Calls Try.prog 107 #[.agg #[.int .i64 a.1, .int .i64 a.2], .agg #[.int .i64 b.1, .int .i64 b.2], .agg #[.int .i64 c.1, .int .i64 c.2], .agg #[.int .i64 d.1, .int .i64 d.2]] w fun e w' => ∃ v0_ : Value, e = .returned v0_ ∧ Kd.R k41 41 w' w.heap.size (fun _ => True) v0_ ((alongP a b c d).map spT) ∧ Below w.heap.size w w' := by
 cases hab : lessP b a
 ·exact qalong1 ha hb hc hd s1 s2 s3 s4 hab w
 rw [← qswapL ha hb]
 exact qalong_ab w hab (fun W => qalong1 hb ha hc hd (by rw [side_swap]; omega) (by rw [side_swap]; omega) s4 s3 (qasym hb ha hab) W)
theorem qcross {a b c d : Int × Int} (ha : InP a) (hb : InP b) (hc : InP c) (hd : InP d) (w : World) :
  Calls Try.prog 75 #[.agg #[.int .i64 a.1, .int .i64 a.2], .agg #[.int .i64 b.1, .int .i64 b.2], .agg #[.int .i64 c.1, .int .i64 c.2], .agg #[.int .i64 d.1, .int .i64 d.2]] w fun e w' => ∃ v0_ : Value, e = .returned v0_ ∧ Kd.R k41 41 w' w.heap.size (fun _ => True) v0_ ((crossP a.1 a.2 b.1 b.2 c.1 c.2 d.1 d.2).map spT) ∧ Below w.heap.size w w' := by
 rw [crossP_eq ha hb hc hd]
 have q1 := side_c a b c d; have q2 := side_a a b c d
 have sg : ∀ x : Int, -1 ≤ (if x > 0 then (1 : Int) else if x < 0 then -1 else 0) ∧ (if x > 0 then (1 : Int) else if x < 0 then -1 else 0) ≤ 1 := fun x => by split <;> (try split) <;> omega
 have sm : ∀ x y : Int, (if x > 0 then (1 : Int) else if x < 0 then -1 else 0) * (if y > 0 then 1 else if y < 0 then -1 else 0) > 0 ↔ (0 < x ∧ 0 < y) ∨ (x < 0 ∧ y < 0) := fun x y => by
  by_cases h1 : x > 0 <;> by_cases h2 : x < 0 <;> by_cases h3 : y > 0 <;> by_cases h4 : y < 0 <;> simp [h1, h2, h3, h4] <;> omega
 by_cases z : side a.1 a.2 b.1 b.2 c.1 c.2 = 0 ∧ side a.1 a.2 b.1 b.2 d.1 d.2 = 0 ∧ side c.1 c.2 d.1 d.2 a.1 a.2 = 0
 ·obtain ⟨z1, z2, z3⟩ := z
  have z4 : side c.1 c.2 d.1 d.2 b.1 b.2 = 0 := by omega
  rw [if_neg (by omega), if_neg (by omega), if_pos ⟨z1, z3⟩]
  exact qcross_al w ha hb hc hd z1 z2 z3 z4 (fun W => qalong ha hb hc hd z1 z2 z3 z4 W)
 have rs := And.intro (sg (side a.1 a.2 b.1 b.2 c.1 c.2)) (And.intro (sg (side a.1 a.2 b.1 b.2 d.1 d.2)) (And.intro (sg (side c.1 c.2 d.1 d.2 a.1 a.2)) (sg (side c.1 c.2 d.1 d.2 b.1 b.2))))
 have nil : ((0 < side a.1 a.2 b.1 b.2 c.1 c.2 ∧ 0 < side a.1 a.2 b.1 b.2 d.1 d.2) ∨ (side a.1 a.2 b.1 b.2 c.1 c.2 < 0 ∧ side a.1 a.2 b.1 b.2 d.1 d.2 < 0)) ∨ ((0 < side c.1 c.2 d.1 d.2 a.1 a.2 ∧ 0 < side c.1 c.2 d.1 d.2 b.1 b.2) ∨ (side c.1 c.2 d.1 d.2 a.1 a.2 < 0 ∧ side c.1 c.2 d.1 d.2 b.1 b.2 < 0)) →
   (if Dn a b c d < 0 then crossN a.1 a.2 (b.1 - a.1) (b.2 - a.2) (-side c.1 c.2 d.1 d.2 a.1 a.2) (side a.1 a.2 b.1 b.2 c.1 c.2) (-Dn a b c d)
    else if 0 < Dn a b c d then crossN a.1 a.2 (b.1 - a.1) (b.2 - a.2) (side c.1 c.2 d.1 d.2 a.1 a.2) (-side a.1 a.2 b.1 b.2 c.1 c.2) (Dn a b c d)
    else if side a.1 a.2 b.1 b.2 c.1 c.2 = 0 ∧ side c.1 c.2 d.1 d.2 a.1 a.2 = 0 then alongP a b c d else []) = [] := by
  intro h
  unfold crossN; split
  ·rw [if_pos (by omega)]
  split
  ·rw [if_pos (by omega)]
  rw [if_neg (by omega)]
 by_cases h1 : (0 < side a.1 a.2 b.1 b.2 c.1 c.2 ∧ 0 < side a.1 a.2 b.1 b.2 d.1 d.2) ∨ (side a.1 a.2 b.1 b.2 c.1 c.2 < 0 ∧ side a.1 a.2 b.1 b.2 d.1 d.2 < 0)
 ·rw [nil (.inl h1)]
  exact qcross_st w ha hb hc hd _ _ _ _ _ _ _ _ rfl rfl rfl rfl rfl rfl rfl rfl rs ((sm _ _).2 h1) (by omega)
 by_cases h2 : (0 < side c.1 c.2 d.1 d.2 a.1 a.2 ∧ 0 < side c.1 c.2 d.1 d.2 b.1 b.2) ∨ (side c.1 c.2 d.1 d.2 a.1 a.2 < 0 ∧ side c.1 c.2 d.1 d.2 b.1 b.2 < 0)
 ·rw [nil (.inr h2)]
  by_cases y1 : side a.1 a.2 b.1 b.2 c.1 c.2 = 0
  ·by_cases y2 : side a.1 a.2 b.1 b.2 d.1 d.2 = 0
   ·exact qcross_uvc w ha hb hc hd _ _ _ _ _ _ _ _ rfl rfl rfl rfl rfl rfl rfl rfl rs (fun h => h1 ((sm _ _).1 h)) ((sm _ _).2 h2) y1 y2 (by omega)
   exact qcross_uvb w ha hb hc hd _ _ _ _ _ _ _ _ rfl rfl rfl rfl rfl rfl rfl rfl rs (fun h => h1 ((sm _ _).1 h)) ((sm _ _).2 h2) y1 y2
  exact qcross_uva w ha hb hc hd _ _ _ _ _ _ _ _ rfl rfl rfl rfl rfl rfl rfl rfl rs (fun h => h1 ((sm _ _).1 h)) ((sm _ _).2 h2) y1
 have hD : Dn a b c d ≠ 0 := by omega
 have nab : a ≠ b := fun h => hD (by subst h; unfold Dn; grind)
 have ncd : c ≠ d := fun h => hD (by subst h; unfold Dn; grind)
 have b1 := (cross3_f (ax := a.1) (ay := a.2) (bx := b.1) (by' := b.2) (cx := c.1) (cy := c.2) ⟨ha.1, ha.2, hb.1, hb.2, hc.1, hc.2⟩).2
 have b2 := (cross3_f (ax := a.1) (ay := a.2) (bx := b.1) (by' := b.2) (cx := d.1) (cy := d.2) ⟨ha.1, ha.2, hb.1, hb.2, hd.1, hd.2⟩).2
 have hs : side a.1 a.2 b.1 b.2 c.1 c.2 - side a.1 a.2 b.1 b.2 d.1 d.2 = -Dn a b c d := by omega
 have i1 : c.1 * (-Dn a b c d) + (d.1 - c.1) * side a.1 a.2 b.1 b.2 c.1 c.2 = a.1 * (-Dn a b c d) + (-side c.1 c.2 d.1 d.2 a.1 a.2) * (b.1 - a.1) := by unfold Dn side; grind
 have i2 : c.2 * (-Dn a b c d) + (d.2 - c.2) * side a.1 a.2 b.1 b.2 c.1 c.2 = a.2 * (-Dn a b c d) + (-side c.1 c.2 d.1 d.2 a.1 a.2) * (b.2 - a.2) := by unfold Dn side; grind
 have c1 := hc; have d1 := hd
 unfold InP InAt at c1 d1
 have m1 := mulb (x := c.1) (y := -Dn a b c d) (A := 100000) (B := 160000000000) (by omega) (by omega) (by omega) (by omega)
 have m2 := mulb (x := d.1 - c.1) (y := side a.1 a.2 b.1 b.2 c.1 c.2) (A := 200000) (B := 80000000000) (by omega) (by omega) (by omega) (by omega)
 have m3 := mulb (x := c.2) (y := -Dn a b c d) (A := 100000) (B := 160000000000) (by omega) (by omega) (by omega) (by omega)
 have m4 := mulb (x := d.2 - c.2) (y := side a.1 a.2 b.1 b.2 c.1 c.2) (A := 200000) (B := 80000000000) (by omega) (by omega) (by omega) (by omega)
 obtain ⟨k, hk⟩ := (sSpot_f (x := c.1 * (-Dn a b c d) + (d.1 - c.1) * side a.1 a.2 b.1 b.2 c.1 c.2) (y := c.2 * (-Dn a b c d) + (d.2 - c.2) * side a.1 a.2 b.1 b.2 c.1 c.2) (d := -Dn a b c d) (by omega) (by omega) (by omega) (by omega)).rounds
 have res : ∀ q : Int × Int × Int, (if -Dn a b c d < 0 then spot3 (-(c.1 * (-Dn a b c d) + (d.1 - c.1) * side a.1 a.2 b.1 b.2 c.1 c.2)) (-(c.2 * (-Dn a b c d) + (d.2 - c.2) * side a.1 a.2 b.1 b.2 c.1 c.2)) (- -Dn a b c d) else spot3 (c.1 * (-Dn a b c d) + (d.1 - c.1) * side a.1 a.2 b.1 b.2 c.1 c.2) (c.2 * (-Dn a b c d) + (d.2 - c.2) * side a.1 a.2 b.1 b.2 c.1 c.2) (-Dn a b c d)) = q →
   (if Dn a b c d < 0 then crossN a.1 a.2 (b.1 - a.1) (b.2 - a.2) (-side c.1 c.2 d.1 d.2 a.1 a.2) (side a.1 a.2 b.1 b.2 c.1 c.2) (-Dn a b c d)
    else if 0 < Dn a b c d then crossN a.1 a.2 (b.1 - a.1) (b.2 - a.2) (side c.1 c.2 d.1 d.2 a.1 a.2) (-side a.1 a.2 b.1 b.2 c.1 c.2) (Dn a b c d)
    else if side a.1 a.2 b.1 b.2 c.1 c.2 = 0 ∧ side c.1 c.2 d.1 d.2 a.1 a.2 = 0 then alongP a b c d else []) = [q] := by
  intro q hq
  rw [← hq, i1, i2]
  by_cases hn : Dn a b c d < 0
  ·rw [if_pos hn, if_neg (by omega : ¬ -Dn a b c d < 0)]
   unfold crossN
   rw [if_neg (by omega)]
  rw [if_neg hn, if_pos (by omega : -Dn a b c d < 0), if_pos (by omega : 0 < Dn a b c d)]
  unfold crossN
  rw [if_neg (by omega)]
  have j1 : -(a.1 * -Dn a b c d + -side c.1 c.2 d.1 d.2 a.1 a.2 * (b.1 - a.1)) = a.1 * Dn a b c d + side c.1 c.2 d.1 d.2 a.1 a.2 * (b.1 - a.1) := by grind
  have j2 : -(a.2 * -Dn a b c d + -side c.1 c.2 d.1 d.2 a.1 a.2 * (b.2 - a.2)) = a.2 * Dn a b c d + side c.1 c.2 d.1 d.2 a.1 a.2 * (b.2 - a.2) := by grind
  rw [j1, j2, Int.neg_neg]
 generalize hq : (if -Dn a b c d < 0 then spot3 (-(c.1 * (-Dn a b c d) + (d.1 - c.1) * side a.1 a.2 b.1 b.2 c.1 c.2)) (-(c.2 * (-Dn a b c d) + (d.2 - c.2) * side a.1 a.2 b.1 b.2 c.1 c.2)) (- -Dn a b c d) else spot3 (c.1 * (-Dn a b c d) + (d.1 - c.1) * side a.1 a.2 b.1 b.2 c.1 c.2) (c.2 * (-Dn a b c d) + (d.2 - c.2) * side a.1 a.2 b.1 b.2 c.1 c.2) (-Dn a b c d)) = q at hk
 rw [res q hq]
 rw [← hs] at hk
 have h9 := fun W => spec_l03Spot.calls k _ _ _ q.1 q.2.1 q.2.2 W hk
 by_cases y1 : side a.1 a.2 b.1 b.2 c.1 c.2 = 0
 ·exact qcross_spb w ha hb hc hd _ _ _ _ _ _ _ _ rfl rfl rfl rfl rfl rfl rfl rfl rs (fun h => h1 ((sm _ _).1 h)) (fun h => h2 ((sm _ _).1 h)) y1 (by omega) nab ncd q h9
 exact qcross_spa w ha hb hc hd _ _ _ _ _ _ _ _ rfl rfl rfl rfl rfl rfl rfl rfl rs (fun h => h1 ((sm _ _).1 h)) (fun h => h2 ((sm _ _).1 h)) y1 nab ncd q h9
end
set_option maxHeartbeats 8000000 in
set_option maxRecDepth 100000 in
theorem spec_l03Cross.calls (k : Nat) (a0_0 : Int) (a0_1 : Int) (a1_0 : Int) (a1_1 : Int) (a2_0 : Int) (a2_1 : Int) (a3_0 : Int) (a3_1 : Int) (r : List (S41)) (w : World) (h : spec_l03Cross.f k a0_0 a0_1 a1_0 a1_1 a2_0 a2_1 a3_0 a3_1 = some r) :
  Calls Try.prog 75 #[.agg #[.int .i64 a0_0, .int .i64 a0_1], .agg #[.int .i64 a1_0, .int .i64 a1_1], .agg #[.int .i64 a2_0, .int .i64 a2_1], .agg #[.int .i64 a3_0, .int .i64 a3_1]] w fun e w' => ∃ v0_ : Value, e = .returned (v0_) ∧ Kd.R k41 41 w' w.heap.size (fun _ => True) v0_ r ∧ Below w.heap.size w w' := by
 unfold spec_l03Cross.f at h
 by_cases hg : Plane.InAt a0_0 ∧ Plane.InAt a0_1 ∧ Plane.InAt a1_0 ∧ Plane.InAt a1_1 ∧ Plane.InAt a2_0 ∧ Plane.InAt a2_1 ∧ Plane.InAt a3_0 ∧ Plane.InAt a3_1
 case neg => rw [if_neg hg] at h; exact absurd h (by simp)
 rw [if_pos hg] at h
 obtain rfl := Option.some.inj h
 exact qcross (a := (a0_0, a0_1)) (b := (a1_0, a1_1)) (c := (a2_0, a2_1)) (d := (a3_0, a3_1)) ⟨hg.1, hg.2.1⟩ ⟨hg.2.2.1, hg.2.2.2.1⟩ ⟨hg.2.2.2.2.1, hg.2.2.2.2.2.1⟩ ⟨hg.2.2.2.2.2.2.1, hg.2.2.2.2.2.2.2⟩ w
end Go.Proofs.Ytgnhcdchpeeoaaa.PW


import Derived.Test.YtgnhcdchpeeoaaaQWW0
import Derived.Test.YtgnhcdchpeeoaaaVWk
import Derived.Test.YtgnhcdchpeeoaaaQWW3
import Derived.Lib.Hide
import Derived.Shelf.GgSortFunc.Tiny
import Derived.StillTailTactics
import Derived.Test.YtgnhcdchpeeoaaaQWPurePlane
import Derived.Test.YtgnhcdchpeeoaaaQWSort
import Derived.Test.YtgnhcdchpeeoaaaQWSortGrow
namespace Go.Proofs.Ytgnhcdchpeeoaaa.PW
open Go.RowKit Go.Proofs.YtgnhcdchpeeoaaaW.PrintWords Go.Proofs.YtgnhcdchpeeoaaaW.PrintLast Go.Proofs.YtgnhcdchpeeoaaaW.PrintMore
attribute [local go_sem] max2_int min2_int max_two min_two max_three min_three max_four min_four
set_option linter.unusedVariables false
set_option linter.unusedSimpArgs false
def impl_crossing.f (a0_0 : Int) (a0_1 : Int) (a1_0 : Int) (a1_1 : Int) (a2_0 : Int) (a2_1 : Int) (a3_0 : Int) (a3_1 : Int) : Option (Int × List S41) :=
 if Plane.InAt a0_0 ∧ Plane.InAt a0_1 ∧ Plane.InAt a1_0 ∧ Plane.InAt a1_1 ∧ Plane.InAt a2_0 ∧ Plane.InAt a2_1 ∧ Plane.InAt a3_0 ∧ Plane.InAt a3_1 then
  some (((Plane.crossP a0_0 a0_1 a1_0 a1_1 a2_0 a2_1 a3_0 a3_1).length : Int), (Plane.crossP a0_0 a0_1 a1_0 a1_1 a2_0 a2_1 a3_0 a3_1).map fun t => ⟨t.1, t.2.1, t.2.2⟩)
 else none
def ptS (p : Int × Int) : S34 := ⟨p.1, p.2⟩
def encP (p : Int × Int) : List Value := [.int .i64 p.1, .int .i64 p.2]
theorem flat_get : ∀ (l : List (Int × Int)) (j : Nat), j < l.length * 2 → (l.flatMap encP)[j]? = some (encP (l.getD (j / 2) (0, 0)))[j % 2]!
 | [], j, h => by simp at h
 | p :: l, j, h => by
  rw [List.flatMap_cons]
  by_cases hj : j < 2
  ·have : j = 0 ∨ j = 1 := by omega
   rcases this with rfl | rfl <;> simp [encP]
  obtain ⟨i, rfl⟩ : ∃ i, j = i + 2 := ⟨j - 2, by omega⟩
  rw [List.getElem?_append_right (by simp [encP])]
  have hi : i < l.length * 2 := by simp at h; omega
  have := flat_get l i hi
  rw [show i + 2 - (encP p).length = i by simp [encP], this]
  rw [show (i + 2) / 2 = i / 2 + 1 by omega, show (i + 2) % 2 = i % 2 by omega]
  rfl
theorem flat_len : ∀ (l : List (Int × Int)), (l.flatMap encP).length = l.length * 2
 | [] => rfl
 | p :: l => by rw [List.flatMap_cons, List.length_append, flat_len l]; simp [encP]; omega
theorem flat_reps (R : S34 → List Value → Prop) (hR : ∀ p, R (ptS p) (encP p)) (l : List (Int × Int)) : Reps R 2 (l.map ptS) (l.flatMap encP) := by
 rw [← List.reverse_reverse l]
 induction l.reverse with
 | nil => exact Reps.none _ _
 | cons p r ih =>
  rw [List.reverse_cons, List.map_append, List.flatMap_append]
  have := Reps.snoc ih (hR p) (by simp [encP])
  simpa using this
theorem holds_of_R {W : World} {base : Nat} {ok : Nat → Prop} {blk c : Nat} {l : List (Int × Int)} (ho : Kd.R k34 34 W base ok (.slice (some ⟨blk, 0, none⟩) l.length c) (l.map ptS)) (hl : 0 < l.length) :
  Sort.HoldsK encP 2 W blk 0 l.toArray ∧ blk < W.heap.size := by
 have hblk : blk < W.heap.size := Kd.R_lt ho blk rfl
 refine ⟨?_, hblk⟩
 obtain ⟨h0, inner, ⟨hlen, hown⟩, hr⟩ := ho
 rw [List.length_map] at hlen hown
 rcases hown with ⟨h1, h2⟩ | ⟨g, cap, cur, hv, hb, hh, hc1, hc2, hc3, hc4⟩
 ·simp at h1
 injection hv with hv1 hv2 hv3
 injection hv1 with hv1
 injection hv1 with hv1
 subst hv1 hv3
 intro j hj
 rw [Sort.size_flatK] at hj
 have hj' : j < l.length * 2 := by simpa using hj
 have hi : j / 2 < l.length := by omega
 have hM := hr.2 (j / 2) (ptS (l.getD (j / 2) (0, 0))) (by rw [List.getElem?_map, List.getElem?_eq_getElem hi]; simp [List.getElem?_eq_getElem hi])
 have e1 := k34_openM hM
 have hsz : k34.sz = 2 := rfl
 rw [hsz] at hc3 hc4 hlen hM e1
 refine ⟨?_, ?_⟩
 ·rw [show (0 + j) = j by omega, blk_cell hh j]
  have e2 : cur[j]? = inner[j]? := by
   rw [← hc4, List.getElem?_take_of_lt (by omega)]; simp
  rw [e2]
  have e3 : inner[j]? = ((inner.drop (j / 2 * 2)).take 2)[j % 2]? := by
   rw [List.getElem?_take_of_lt (by omega), List.getElem?_drop]
   congr 1; omega
  rw [e3, e1, Sort.get_flatK _ _ _ _ (by simpa using hj')]
  have e4 : (l.toArray)[j / 2]! = l.getD (j / 2) (0, 0) := by simp [hi]
  rw [e4]
  have : j % 2 = 0 ∨ j % 2 = 1 := by omega
  rcases this with h | h <;> rw [h] <;> simp [encP, ptS]
 exact blk_frozen hh _
theorem SW_block {W : World} {blk m : Nat} {dk : Array (Int × Int)} {os : Array Obj} {cur : Array Value} {e : TypeId} {fr : Nat × Nat} (h : W.heap[blk]? = some (.cells cur e fr)) :
  (SG.SW encP 2 W blk 0 m dk os).heap[blk]? = some (.cells (Sort.putCells id 0 (Sort.flatK encP 2 dk) cur) e fr) := by
 have hb := blk_lt h
 have h2 : (Sort.ahead (Sort.grow W os) m).heap[blk]? = some (.cells cur e fr) := (Sort.heap_grow_old W os hb).trans h
 unfold SG.SW Sort.putRowK Sort.putRow Sort.mapBlock
 simp only [Array.getElem?_modify, if_true, h2, Option.map_some, Sort.onCells]
theorem SW_other {W : World} {blk m : Nat} {dk : Array (Int × Int)} {os : Array Obj} {k : Nat} (hk : k < W.heap.size) (hne : k ≠ blk) : (SG.SW encP 2 W blk 0 m dk os).heap[k]? = W.heap[k]? := by
 have h2 : (Sort.ahead (Sort.grow W os) m).heap[k]? = W.heap[k]? := Sort.heap_grow_old W os hk
 unfold SG.SW Sort.putRowK Sort.putRow Sort.mapBlock
 simp only [Array.getElem?_modify, if_neg (Ne.symm hne), h2]
theorem SW_size {W : World} {blk m : Nat} {dk : Array (Int × Int)} {os : Array Obj} : W.heap.size ≤ (SG.SW encP 2 W blk 0 m dk os).heap.size := by
 unfold SG.SW Sort.putRowK Sort.putRow Sort.mapBlock
 simp [Sort.ahead, Sort.grow]
theorem SW_grown {W : World} {blk m : Nat} {dk : Array (Int × Int)} {os : Array Obj} : W.grownBy (SG.SW encP 2 W blk 0 m dk os) (some blk) :=
 ⟨rfl, rfl, rfl, SW_size, fun k hk hne => SW_other hk (fun h => hne (by rw [h]))⟩
theorem R_sorted {W : World} {base : Nat} {ok : Nat → Prop} {blk c m : Nat} {l : List (Int × Int)} {os : Array Obj} (ho : Kd.R k34 34 W base ok (.slice (some ⟨blk, 0, none⟩) l.length c) (l.map ptS)) (hl : 0 < l.length) (d' : Array (Int × Int)) (hd : d'.size = l.length) :
  Kd.R k34 34 (SG.SW encP 2 W blk 0 m d' os) base ok (.slice (some ⟨blk, 0, none⟩) l.length c) (d'.toList.map ptS) := by
 obtain ⟨hH, hblk⟩ := holds_of_R ho hl
 have hh' := SG.SW_holds encP 2 W blk 0 m l.toArray d' os hH hblk (by simpa using hd)
 obtain ⟨h0, inner, ⟨hlen, hown⟩, hr⟩ := ho
 rw [List.length_map] at hlen hown
 rcases hown with ⟨h1, h2⟩ | ⟨g, cap, cur, hv, hb, hh, hc1, hc2, hc3, hc4⟩
 ·simp at h1
 injection hv with hv1 hv2 hv3
 injection hv1 with hv1
 injection hv1 with hv1
 subst hv1 hv3
 have hsz : k34.sz = 2 := rfl
 rw [hsz] at hc3 hc4 hlen
 have hb2 := SW_block (m := m) (dk := d') (os := os) hh
 have hdl : d'.toList.length = l.length := by simpa using hd
 refine ⟨h0, d'.toList.flatMap encP, ⟨?_, .inr ⟨blk, c, _, ?_, hb, hb2, ?_, hc2, ?_, ?_⟩⟩, flat_reps _ (fun p => k34_mkM _ _ _ (ptS p)) _⟩
 ·rw [flat_len, hsz, List.length_map]
 ·rw [List.length_map, hdl]
 ·rw [List.length_map, hdl]; exact hc1
 ·rw [hsz]; simp [Sort.putCells, hc3]
 rw [hsz, List.length_map, hdl]
 apply List.ext_getElem?
 intro j
 by_cases hj : j < l.length * 2
 rotate_left
 ·rw [List.getElem?_eq_none (by rw [List.length_take]; omega), List.getElem?_eq_none (by rw [flat_len, hdl]; omega)]
 rw [List.getElem?_take_of_lt hj, flat_get _ _ (by rw [hdl]; exact hj)]
 have h3 := (hh' j (by rw [Sort.size_flatK, hd]; exact hj)).1
 rw [show 0 + j = j by omega, blk_cell hb2 j, Sort.get_flatK _ _ _ _ (by rw [hd]; exact hj)] at h3
 rw [Array.getElem?_toList, h3]
 have h4 : j / 2 < d'.size := by omega
 simp [h4]
set_option maxHeartbeats 1000000 in
set_option maxRecDepth 100000 in
theorem put_calls (x0 x1 : Int) (B : Nat) (v : Value) (l : List (Int × Int)) (base : Nat) (ok : Nat → Prop) (w0 W : World) (hB : Below base w0 W) (hsz : base ≤ B)
  (hb : W.heap[B]? = some (.cells #[v] 24 (0, 0))) (ho : Kd.R k34 34 W base ok v (l.map ptS)) (hok : ∀ k, ok k → k ≠ B) (hfr : ∀ k, W.heap.size ≤ k → ok k) (hl : l.length ≤ 10) :
  Calls Try.prog 105 #[.agg #[.int .i64 x0, .int .i64 x1], .pointer (some ⟨B, 0, none⟩)] W fun e w' =>
   e = .returned (.tuple #[]) ∧ ∃ v', w'.heap[B]? = some (.cells #[v'] 24 (0, 0)) ∧ Kd.R k34 34 w' base ok v' ((Plane.putP l (x0, x1)).map ptS) ∧ Below base w0 w' ∧ KeepBut W w' B v.ownBlock := by
 obtain ⟨A, c, rfl, hc, hC⟩ := Kd.R_reads ho
 rw [show (l.map ptS).length = l.length from List.length_map ..] at hc hC ho hb
 rw [show (l.map ptS).length = l.length from List.length_map ..]
 have qB : W.cell? ⟨B, 0, none⟩ = some (.slice A l.length c) := blk_cell hb 0
 have qB' : ∀ o, (W.alloc o).cell? ⟨B, 0, none⟩ = some (.slice A l.length c) := fun o => blk_cell (blk_alloc hb o) 0
 go_enter Try.func105, Try.ntmps105
 go_wp2
 go_loopw [7] (fun vi wr => ∃ k : Nat, vi = .int .i64 k ∧ k ≤ l.length ∧ Below (W.heap.size + 1) (W.alloc (.cells #[.int .i64 x0, .int .i64 x1] 34)) wr ∧ (∀ j, j < k → l.getD j (0, 0) ≠ (x0, x1))) (fun vi _ => l.length - (intOf vi).toNat)
 case atStart => exact ⟨0, rfl, Nat.zero_le _, Below.refl _ _, fun j hj => absurd hj (by omega)⟩
 case round =>
  obtain ⟨k, rfl, hk, hbw, hne⟩ := hrel
  have HNE := Lib.hid hne
  have HBW := Lib.hid hbw
  have p0 : wr.cell? ⟨W.heap.size, 0, none⟩ = some (.int .i64 x0) := (hbw.cell (p := ⟨W.heap.size, 0, none⟩) (by simp)).trans (by simp)
  have p1 : wr.cell? ⟨W.heap.size, 1, none⟩ = some (.int .i64 x1) := (hbw.cell (p := ⟨W.heap.size, 1, none⟩) (by simp)).trans (by simp)
  have hs1 : W.heap.size < wr.heap.size := by have := HBW.out.size; simp at this; omega
  have hold : ∀ p : Addr, p.block < W.heap.size → wr.cell? p = W.cell? p := fun p hp => (hbw.cell (p := p) (by omega)).trans (World.cell?_alloc_lt _ _ _ hp)
  have hBl : B < W.heap.size := blk_lt hb
  have qBw : wr.cell? ⟨B, 0, none⟩ = some (.slice A l.length c) := (hold _ hBl).trans qB
  have hbr : wr.heap[B]? = some (.cells #[.slice A l.length c] 24 (0, 0)) := (hbw.block B (by omega)).trans (blk_alloc hb _)
  have HBR := Lib.hid hbr
  have zB : wr.frozen? ⟨B, 0, none⟩ = false := blk_frozen hbr 0
  have HOLD := Lib.hid hold
  have hBb : base ≤ W.heap.size := Nat.le_trans hsz (Nat.le_of_lt hBl)
  have HB2 := Lib.hid (show Below base w0 wr from (hB.alloc hBb _).trans (hbw.mono (by omega)))
  have HO2 := Lib.hid (show Kd.R k34 34 wr base ok (.slice A l.length c) (l.map ptS) from Kd.R_below (Kd.R_alloc ho _) (by rw [show (W.alloc (.cells #[.int .i64 x0, .int .i64 x1] 34)).heap.size = W.heap.size + 1 by simp]; exact hbw))
  have HK2 := Lib.hid (show Below W.heap.size W wr from ((Below.refl W.heap.size W).alloc (Nat.le_refl _) _).trans (hbw.mono (by omega)))
  clear hne hbw qB qB' hold hbr
  by_cases hlt : k < l.length
  rotate_left
  ·have hnot : (x0, x1) ∉ l := by
    intro hm
    obtain ⟨j, hj, e⟩ := List.mem_iff_getElem.1 hm
    have := HNE.out j (by omega)
    rw [← List.getElem_eq_getD (h := hj)] at this
    exact this e
   have HNOT := Lib.hid hnot
   clear hnot hC ho hb
   go_wp2_with (first | ((with_reducible refine gate_builtin (b := .append) (xs := #[.tmp 15, .tmp 17]) rfl ?_); at_builtin; refine Kd.R_append k34 (w0 := w0) base rfl (.tmp 15) (.tmp 17) 24 34 (.agg #[(.int .i64 0), (.int .i64 0)]) 16 rfl Try.underlying24 info34 rfl (by decide) (by omega) (.slice A l.length c) (l.map ptS) (⟨x0, x1⟩ : S34) [.int .i64 x0, .int .i64 x1] ok (fun _ => False) rfl rfl ?aP (fun _ hk => hk.elim) ?aF ?aO ?aB ?aS ?aL ?_; (case aP => exact k34_mkM _ _ _ (⟨x0, x1⟩ : S34)); (case aF => exact fun k_ hk => hfr k_ (by omega)); (case aO => exact HO2.out); (case aB => exact HB2.out); (case aS => omega); (case aL => rw [List.length_map]; omega); intro v1 w1 ho1 hb1 hg1 hat1; obtain ⟨A1, c1, e1, _, _⟩ := Kd.R_reads ho1; subst e1; have zB1 : w1.cell? ⟨B, 0, none⟩ = some (.slice A l.length c) := blk_cell (blk_grown HBR.out hg1 (fun h => hok B (HO2.out.1 B h.symm) rfl)) 0; have zB2 : w1.frozen? ⟨B, 0, none⟩ = false := blk_frozen (blk_grown HBR.out hg1 (fun h => hok B (HO2.out.1 B h.symm) rfl)) 0; have HG := Lib.hid hg1; have HAT := Lib.hid hat1; have HO3 := Lib.hid ho1; have HB3 := Lib.hid hb1; clear hg1 hat1 ho1 hb1))
   go_end0
   have hp : Plane.putP l (x0, x1) = l ++ [(x0, x1)] := if_neg HNOT.out
   rw [hp, List.map_append]
   have e1 : (List.map ptS l ++ [({ f0 := x0, f1 := x1 } : S34)]).length = l.length + 1 := by simp
   have ho3 := HO3.out
   rw [e1] at ho3
   exact ⟨rfl, _, blk_put (blk_grown HBR.out HG.out (fun h => hok B (HO2.out.1 B h.symm) rfl)) 0 _ rfl, Kd.R_far ho3 (p := ⟨B, 0, none⟩) hok _, HB3.out.setCell hsz _,
    ((KeepBut.of_below HK2.out B _).trans (KeepBut.of_grown HG.out B) (.inl rfl)).set_ 0 _⟩
  obtain ⟨ad, e, c0, c1⟩ := at_T34 hC k (by omega) (by omega)
  obtain rfl := e
  simp only [Int.toNat_natCast] at c0 c1
  have hel : rd_T34 (l.map ptS) k = ptS (l.getD k (0, 0)) := by
   unfold rd_T34; simp [List.getElem?_eq_getElem hlt]
  rw [hel] at c0 c1
  obtain ⟨y, hy⟩ : ∃ y, y = l.getD k (0, 0) := ⟨_, rfl⟩
  rw [← hy] at c0 c1
  have HY := Lib.hid hy
  obtain ⟨y0, y1⟩ := y
  have d0 : wr.cell? (ad.add (k * 2)) = some (.int .i64 y0) := (HOLD.out _ (World.block_lt_of_cell? _ _ c0)).trans c0
  have d1 : wr.cell? ⟨(ad.add (k * 2)).block, (ad.add (k * 2)).off + 1, none⟩ = some (.int .i64 y1) := (HOLD.out ⟨(ad.add (k * 2)).block, (ad.add (k * 2)).off + 1, none⟩ (show (ad.add (k * 2)).block < _ from World.block_lt_of_cell? _ _ c0)).trans c1
  clear c0 c1 hel hy hC ho hb
  have hin : y0 = x0 → y1 = x1 → (x0, x1) ∈ l := by
   rintro rfl rfl
   rw [HY.out, ← List.getElem_eq_getD (h := hlt)]
   exact List.getElem_mem hlt
  have HIN := Lib.hid hin
  clear hin
  by_cases he0 : x0 = y0
  rotate_left
  ·go_wp2
   go_roundw
   case rel =>
    refine ⟨k + 1, by go_num, by omega, ?_, ?_⟩
    ·exact HBW.out.alloc (by omega) _
    intro j hj
    by_cases e : j = k
    ·subst e; rw [← HY.out]; intro h; simp only [Prod.mk.injEq] at h; omega
    exact HNE.out j (by omega)
   case measure => simp [intOf]; omega
  by_cases he1 : x1 = y1
  ·obtain rfl := he0
   obtain rfl := he1
   have HP := Lib.hid (show Plane.putP l (x0, x1) = l from if_pos (HIN.out rfl rfl))
   clear HIN
   go_wp2
   refine bodyPost_ret (results_none rfl _ _ _) rfl ?_
   rw [HP.out]
   exact ⟨rfl, _, blk_alloc HBR.out _, Kd.R_alloc HO2.out _, (HB2.out).alloc (Nat.le_trans hBb (Nat.le_of_lt hs1)) _, KeepBut.of_below (HK2.out.alloc (Nat.le_of_lt hs1) _) _ _⟩
  obtain rfl := he0
  go_wp2
  go_roundw
  case rel =>
   refine ⟨k + 1, by go_num, by omega, ?_, ?_⟩
   ·exact HBW.out.alloc (by omega) _
   intro j hj
   by_cases e : j = k
   ·subst e; rw [← HY.out]; intro h; simp only [Prod.mk.injEq] at h; omega
   exact HNE.out j (by omega)
  case measure => simp [intOf]; omega
set_option maxHeartbeats 1000000 in
set_option maxRecDepth 100000 in
theorem lessPoint_exact (p0 p1 q0 q1 : Int) (W : World) :
  Calls Try.prog 102 #[.agg #[.int .i64 p0, .int .i64 p1], .agg #[.int .i64 q0, .int .i64 q1]] W fun e w' => e = .returned (.bool (Plane.lessP (p0, p1) (q0, q1))) ∧ ∃ q os, w' = Sort.ahead (Sort.grow W os) q := by
 have hg : ∀ o1 o2, (W.alloc o1).alloc o2 = Sort.ahead (Sort.grow W #[o1, o2]) 0 := fun o1 o2 => by
  rw [Sort.alloc_eq_grow, Sort.alloc_eq_grow, Sort.grow_grow]; rfl
 have HG := Lib.hid hg
 clear hg
 by_cases h1 : p0 < q0
 ·have e : Plane.lessP (p0, p1) (q0, q1) = true := by unfold Plane.lessP; simp; omega
  have E := Lib.hid e
  clear e
  go_enter Try.func102, Try.ntmps102
  go_wp2
  go_ret
  exact ⟨by rw [E.out]; rfl, 0, _, HG.out _ _⟩
 by_cases h2 : p0 = q0
 rotate_left
 ·have e : Plane.lessP (p0, p1) (q0, q1) = false := by unfold Plane.lessP; simp; omega
  have E := Lib.hid e
  clear e
  go_enter Try.func102, Try.ntmps102
  go_wp2
  go_ret
  exact ⟨by rw [E.out]; rfl, 0, _, HG.out _ _⟩
 subst h2
 by_cases h3 : p1 < q1
 ·have e : Plane.lessP (p0, p1) (p0, q1) = true := by unfold Plane.lessP; simp; omega
  have E := Lib.hid e
  clear e
  go_enter Try.func102, Try.ntmps102
  go_wp2
  go_ret
  exact ⟨by rw [E.out]; rfl, 0, _, HG.out _ _⟩
 have e : Plane.lessP (p0, p1) (p0, q1) = false := by unfold Plane.lessP; simp; omega
 have E := Lib.hid e
 clear e
 go_enter Try.func102, Try.ntmps102
 go_wp2
 go_ret
 exact ⟨by rw [E.out]; rfl, 0, _, HG.out _ _⟩
set_option maxHeartbeats 1000000 in
set_option maxRecDepth 100000 in
theorem less_calls (B blk n c : Nat) (G : Nat → Int × Int) (W : World) (hs : W.cell? ⟨B, 0, none⟩ = some (.slice (some ⟨blk, 0, none⟩) n c))
  (hc0 : ∀ t, t < n → W.cell? ⟨blk, t * 2, none⟩ = some (.int .i64 (G t).1)) (hc1 : ∀ t, t < n → W.cell? ⟨blk, t * 2 + 1, none⟩ = some (.int .i64 (G t).2)) (i j : Nat) (hi : i < n) (hj : j < n) (hn : n < 4611686018427387904) :
  Calls Try.prog 106 #[.int .i64 i, .int .i64 j, .pointer (some ⟨B, 0, none⟩)] W fun e w' => e = .returned (.bool (Plane.lessP (G i) (G j))) ∧ ∃ q os, w' = Sort.ahead (Sort.grow W os) q := by
 have ci := hc0 i hi
 have di := hc1 i hi
 have cj := hc0 j hj
 have dj := hc1 j hj
 clear hc0 hc1
 go_enter Try.func106, Try.ntmps106
 go_wp2
 refine wp_region_still_tail 8 (by kernel_rfl) (by kernel_rfl) ?_
 change wpStill _ _ (World.drew _) (fun a' => wpList _ _ _ _ a' (World.drew _)) _ _
 simp only [List.take_succ_cons, List.take_zero, List.drop_succ_cons, List.drop_zero]
 repeat still_step
 refine wpStill_nil ?_
 go_wp2_with (go_at_call 102; refine (lessPoint_exact _ _ _ _ _).mono ?_; rintro e w' ⟨rfl, q, os, hw'⟩; have HW := Lib.hid hw'; clear hw')
 go_ret
 exact ⟨rfl, q + 1, os, by rw [HW.out]; exact congrArg (fun n => ({ W with heap := W.heap ++ os, drawn := n } : World)) (show W.drawn + 1 + q = W.drawn + (q + 1) by omega)⟩
theorem lessG (B blk n c : Nat) (w : World) (d : Array (Int × Int)) (hd : d.size = n) (hH : Sort.HoldsK encP 2 w blk 0 d) (hblk : blk < w.heap.size) (hs : w.cell? ⟨B, 0, none⟩ = some (.slice (some ⟨blk, 0, none⟩) n c)) (hBl : B < w.heap.size) (hne : B ≠ blk)
  (hn : n < 4611686018427387904) (f : Nat) (lb : Array Value) (hf : f = 106) (hlb : lb = #[.pointer (some ⟨B, 0, none⟩)]) : SG.LessG Try.prog f lb encP 2 Plane.lessP blk 0 n w := by
 subst hf hlb
 intro m os dk hk i j hi hj
 have hh := SG.SW_holds encP 2 w blk 0 m d dk os hH hblk (by omega)
 refine (less_calls B blk n c (fun t => dk[t]!) (SG.SW encP 2 w blk 0 m dk os) ?_ ?_ ?_ i j hi hj hn).mono ?_
 ·rw [SG.SW_cell encP 2 w blk 0 m dk os _ hne hBl]; exact hs
 ·intro t ht
  have := (hh.cell (i := t) (c := 0) (by omega) (by omega)).1
  simpa [encP] using this
 ·intro t ht
  have := (hh.cell (i := t) (c := 1) (by omega) (by omega)).1
  simpa [encP] using this
 rintro e w' ⟨rfl, q, os', rfl⟩
 refine ⟨rfl, m + q, os', ?_⟩
 unfold SG.SW
 rw [← Sort.grow_grow]
 show Sort.grow ((Sort.putRowK encP 2 (Sort.ahead (Sort.grow w os) m) blk 0 dk).drewN q) os' = _
 rw [Sort.putRowK_drewN, Sort.ahead_grow _ os' (m + q), Sort.putRowK_grow _ _ _ _ _ _ _ (by show blk < (Sort.grow w os).heap.size; rw [Sort.size_grow]; omega)]
noncomputable def svT : TypeInfo := (Try.prog.info? 24).get (by kernel_rfl)
noncomputable def svE : TypeInfo := (Try.prog.info? 34).get (by kernel_rfl)
theorem svK (n : Nat) (h2 : 2 ≤ n) : Lib.swapperK n svE 25 = 9 := by
 have a : svE.hasPointers = false := by kernel_rfl
 have b : svE.bytes = 16 := by kernel_rfl
 have c : (n == 0) = false := by simp; omega
 have d : (n == 1) = false := by simp; omega
 simp [Lib.swapperK, a, b, c, d]
theorem swo_lessP : Sort.SWO Plane.lessP where
 irrefl x := by simp [Plane.lessP]
 trans x y z h1 h2 := by simp [Plane.lessP] at h1 h2 ⊢; omega
 ntrans x y z h1 h2 := by simp [Plane.lessP] at h1 h2 ⊢; omega
theorem sort_calls (B blk c : Nat) (l : List (Int × Int)) (h2 : 2 ≤ l.length) (h12 : l.length ≤ 12) (base : Nat) (ok : Nat → Prop) (w0 W : World) (hB : Below base w0 W) (hb : W.heap[B]? = some (.cells #[.slice (some ⟨blk, 0, none⟩) l.length c] 24 (0, 0)))
  (ho : Kd.R k34 34 W base ok (.slice (some ⟨blk, 0, none⟩) l.length c) (l.map ptS)) (hok : ∀ k, ok k → k ≠ B) (hbase : base ≤ W.heap.size) (F : Nat) (hF : F = 100) (f : Nat) (hf : f = 106) :
  Calls Try.prog F #[.iface 24 (.slice (some ⟨blk, 0, none⟩) l.length c), .func (.func f) #[] #[.pointer (some ⟨B, 0, none⟩)]] W fun e w' =>
   e = .returned (.tuple #[]) ∧ ∃ l' : List (Int × Int), l'.length = l.length ∧ l'.Perm l ∧ (∀ i j, i < j → j < l'.length → Plane.lessP (l'.getD j (0, 0)) (l'.getD i (0, 0)) = false) ∧
    Kd.R k34 34 w' base ok (.slice (some ⟨blk, 0, none⟩) l.length c) (l'.map ptS) ∧ Below base w0 w' ∧ W.grownBy w' (some blk) := by
 obtain ⟨hH, hblk⟩ := holds_of_R ho (by omega)
 have hne : B ≠ blk := fun h => hok blk (ho.1 blk rfl) h.symm
 have hbb : base ≤ blk := Kd.R_base ho blk rfl
 subst hf
 have hsz : l.toArray.size = l.length := by simp
 have hl := lessG B blk l.length c W l.toArray hsz hH hblk (blk_cell hb 0) (blk_lt hb) hne (by omega) 106 _ rfl rfl
 have hs := SG.slice_small Try.sv6 24 34 svT svE (by kernel_rfl) (by kernel_rfl) (by kernel_rfl) (by kernel_rfl) 25 (fun _ => by kernel_rfl) encP 2 (fun _ => rfl) (by kernel_rfl) (fun _ => by kernel_rfl)
  (fun x v hv => by simp [encP] at hv; rcases hv with rfl | rfl <;> rfl) Plane.lessP 106 #[.pointer (some ⟨B, 0, none⟩)]
  (enters_of Try.func106 (by kernel_rfl) rfl) blk 0 c l.toArray (by omega) (by omega) 129 (by rw [svK _ (by omega)]; kernel_rfl) false
  (fun args W => run_callFunc_extern Try.func129 (by kernel_rfl) (by kernel_rfl) (by kernel_rfl) (e := Extern.ReflectliteSwapper.swap false) (by kernel_rfl) args W) W hl hH hblk
 subst hF
 have hs' : Calls Try.prog 100 #[.iface 24 (.slice (some ⟨blk, 0, none⟩) l.length c), .func (.func 106) #[] #[.pointer (some ⟨B, 0, none⟩)]] W _ := hs
 refine hs'.mono ?_
 rintro e w' ⟨rfl, m, os, rfl⟩
 have hi := Sort.insertionSort_holds (lt := Plane.lessP) swo_lessP l.toArray 0 l.toArray.size (Nat.zero_le _) (Nat.le_refl _)
 obtain ⟨⟨hp1, _, hp3⟩, hsorted⟩ := hi
 generalize Sort.insertionSort Plane.lessP l.toArray 0 l.toArray.size = d' at *
 rw [hsz] at hp1 hp3 hsorted
 have hdl : d'.toList.length = l.length := by simpa using hp1
 refine ⟨rfl, d'.toList, hdl, ?_, ?_, R_sorted ho (by omega) d' hp1, ?_, SW_grown⟩
 ·simpa [hp1, List.take_of_length_le (Nat.le_of_eq hdl)] using hp3
 ·intro i j hij hj
  have := hsorted i j (Nat.zero_le _) hij (by omega)
  have hi' : i < d'.size := by omega
  have hj' : j < d'.size := by omega
  simpa [hi', hj'] using this
 exact hB.grown SW_grown hbase (fun k hk => by injection hk with hk; omega)
theorem w64 {x : Int} (h1 : -9223372036854775808 ≤ x) (h2 : x ≤ 9223372036854775807) : wrap64 x = x := by unfold wrap64; omega
theorem mulb {x y A B : Int} (h1 : -A ≤ x) (h2 : x ≤ A) (h3 : -B ≤ y) (h4 : y ≤ B) : -(A * B) ≤ x * y ∧ x * y ≤ A * B := by
 have p1 := Int.mul_nonneg (show 0 ≤ A - x by omega) (show 0 ≤ B - y by omega)
 have p2 := Int.mul_nonneg (show 0 ≤ A + x by omega) (show 0 ≤ B + y by omega)
 have p3 := Int.mul_nonneg (show 0 ≤ A - x by omega) (show 0 ≤ B + y by omega)
 have p4 := Int.mul_nonneg (show 0 ≤ A + x by omega) (show 0 ≤ B - y by omega)
 simp only [Int.add_mul, Int.mul_add, Int.sub_mul, Int.mul_sub] at p1 p2 p3 p4
 omega
theorem cross3_f {ax ay bx by' cx cy : Int} (h : Plane.InAt ax ∧ Plane.InAt ay ∧ Plane.InAt bx ∧ Plane.InAt by' ∧ Plane.InAt cx ∧ Plane.InAt cy) : impl_cross3.f ax ay bx by' cx cy = some (Plane.side ax ay bx by' cx cy) ∧ -80000000000 ≤ Plane.side ax ay bx by' cx cy ∧ Plane.side ax ay bx by' cx cy ≤ 80000000000 := by
 unfold Plane.InAt at h
 obtain ⟨⟨_, _⟩, ⟨_, _⟩, ⟨_, _⟩, ⟨_, _⟩, ⟨_, _⟩, ⟨_, _⟩⟩ := h
 obtain ⟨m1, m2⟩ := mulb (A := 200000) (B := 200000) (x := bx - ax) (y := cy - ay) (by omega) (by omega) (by omega) (by omega)
 obtain ⟨m3, m4⟩ := mulb (A := 200000) (B := 200000) (x := by' - ay) (y := cx - ax) (by omega) (by omega) (by omega) (by omega)
 unfold impl_cross3.f Plane.side
 rw [w64 (x := bx - ax) (by omega) (by omega), w64 (x := cy - ay) (by omega) (by omega), w64 (x := by' - ay) (by omega) (by omega), w64 (x := cx - ax) (by omega) (by omega),
  w64 (x := (bx - ax) * (cy - ay)) (by omega) (by omega), w64 (x := (by' - ay) * (cx - ax)) (by omega) (by omega), w64 (by omega) (by omega)]
 exact ⟨rfl, by omega, by omega⟩
theorem on_f {ax ay bx by' cx cy : Int} (h : Plane.InAt ax ∧ Plane.InAt ay ∧ Plane.InAt bx ∧ Plane.InAt by' ∧ Plane.InAt cx ∧ Plane.InAt cy) : impl_on.f ax ay bx by' cx cy = some (Plane.onB ax ay bx by' cx cy) := by
 unfold impl_on.f Plane.onB
 rw [(cross3_f h).1]
 simp only [Option.bind_some, mn, mx]
 by_cases h0 : Plane.side ax ay bx by' cx cy = 0
 rotate_left
 ·rw [if_neg h0]; simp [h0]
 rw [if_pos h0]
 simp only [h0, true_and]
 repeat' split
 all_goals first | (congr 1; rw [eq_comm, decide_eq_false_iff_not]; omega) | (congr 1; rw [decide_eq_decide]; omega)
theorem on_calls {ax ay bx by' cx cy : Int} (W : World) (b : Bool) (hb : Plane.onB ax ay bx by' cx cy = b) (h : Plane.InAt ax ∧ Plane.InAt ay ∧ Plane.InAt bx ∧ Plane.InAt by' ∧ Plane.InAt cx ∧ Plane.InAt cy) :
  Calls Try.prog 85 #[.agg #[.int .i64 ax, .int .i64 ay], .agg #[.int .i64 bx, .int .i64 by'], .agg #[.int .i64 cx, .int .i64 cy]] W fun e w' => e = .returned (.bool b) ∧ Below W.heap.size W w' :=
 impl_on.calls ax ay bx by' cx cy b W (by rw [on_f h, hb])
structure CR (w wr : World) (S N M : Nat) (ax ay bx by' cx cy dx dy : Int) (arr : Array Value) (l : List (Int × Int)) : Prop where
 bel : Below S w wr
 nle : N ≤ wr.heap.size
 ba : wr.heap[S]? = some (.cells #[.int .i64 ax, .int .i64 ay] 34 (0, 0))
 bb : wr.heap[S + 1]? = some (.cells #[.int .i64 bx, .int .i64 by'] 34 (0, 0))
 bc : wr.heap[S + 1 + 1]? = some (.cells #[.int .i64 cx, .int .i64 cy] 34 (0, 0))
 bd : wr.heap[S + 1 + 1 + 1]? = some (.cells #[.int .i64 dx, .int .i64 dy] 34 (0, 0))
 bm : wr.heap[M]? = some (.cells arr 34 (0, 0))
 row : ∃ v, wr.heap[S + 1 + 1 + 1 + 1]? = some (.cells #[v] 24 (0, 0)) ∧ Kd.R k34 34 wr S (fun k => N ≤ k ∧ k ≠ M) v (l.map ptS)
theorem CR.below {w wr w2 : World} {S N M : Nat} {ax ay bx by' cx cy dx dy : Int} {arr : Array Value} {l : List (Int × Int)} (h : CR w wr S N M ax ay bx by' cx cy dx dy arr l) (hS : S ≤ wr.heap.size) (hb : Below wr.heap.size wr w2) : CR w w2 S N M ax ay bx by' cx cy dx dy arr l where
 bel := h.bel.trans (hb.mono hS)
 nle := Nat.le_trans h.nle hb.size
 ba := blk_below h.ba hb
 bb := blk_below h.bb hb
 bc := blk_below h.bc hb
 bd := blk_below h.bd hb
 bm := blk_below h.bm hb
 row := by
  obtain ⟨v, h1, h2⟩ := h.row
  exact ⟨v, blk_below h1 hb, Kd.R_below h2 hb⟩
theorem CR.put {w W : World} {S N M : Nat} {ax ay bx by' cx cy dx dy : Int} {arr : Array Value} {l : List (Int × Int)} (h : CR w W S N M ax ay bx by' cx cy dx dy arr l) (hN : S + 4 < N) (hM : S + 4 < M) (hML : M < W.heap.size) (x0 x1 : Int) (hl : l.length ≤ 10) :
  Calls Try.prog 105 #[.agg #[.int .i64 x0, .int .i64 x1], .pointer (some ⟨S + 1 + 1 + 1 + 1, 0, none⟩)] W fun e w' => e = .returned (.tuple #[]) ∧ CR w w' S N M ax ay bx by' cx cy dx dy arr (Plane.putP l (x0, x1)) ∧ W.heap.size ≤ w'.heap.size := by
 obtain ⟨v, h1, h2⟩ := h.row
 have hnle := h.nle
 refine (put_calls x0 x1 (S + 1 + 1 + 1 + 1) v l S (fun k => N ≤ k ∧ k ≠ M) w W h.bel (by omega) h1 h2 (fun k hk => by omega) (fun k hk => by omega) hl).mono ?_
 rintro e w' ⟨rfl, v', hv', hR, hB, hK⟩
 have ne : ∀ k, k < N → (k ≠ M ∨ True) → some k ≠ v.ownBlock ∨ k = M := fun k hk _ => by
  by_cases e : k = M
  ·exact .inr e
  exact .inl (fun he => by have := (h2.1 k he.symm).1; omega)
 have keep : ∀ {k : Nat} {o : Obj}, W.heap[k]? = some o → k ≠ S + 1 + 1 + 1 + 1 → (k < N ∨ k = M) → w'.heap[k]? = some o := by
  intro k o ho h3 h4
  refine hK.blk ho h3 ?_
  intro he
  have := h2.1 k he.symm
  omega
 exact ⟨rfl, ⟨hB, Nat.le_trans hnle hK.1, keep h.ba (by omega) (.inl (by omega)), keep h.bb (by omega) (.inl (by omega)), keep h.bc (by omega) (.inl (by omega)), keep h.bd (by omega) (.inl (by omega)), keep h.bm (by omega) (.inr rfl), v', hv', hR⟩, hK.1⟩
def step1 (ax ay bx by' cx cy dx dy : Int) (k : Nat) : List (Int × Int) :=
 match k with
 | 0 => []
 | 1 => if Plane.onB cx cy dx dy ax ay then Plane.putP [] (ax, ay) else []
 | _ => let l1 := if Plane.onB cx cy dx dy ax ay then Plane.putP [] (ax, ay) else []; if Plane.onB cx cy dx dy bx by' then Plane.putP l1 (bx, by') else l1
theorem putP_len (l : List (Int × Int)) (p : Int × Int) : (Plane.putP l p).length ≤ l.length + 1 := by
 unfold Plane.putP
 split <;> simp
theorem step1_len (ax ay bx by' cx cy dx dy : Int) (k : Nat) : (step1 ax ay bx by' cx cy dx dy k).length ≤ 2 := by
 unfold step1
 have h1 := putP_len [] (ax, ay)
 have h2 := putP_len (Plane.putP [] (ax, ay)) (bx, by')
 have h3 := putP_len [] (bx, by')
 simp only [List.length_nil] at h1 h3
 split <;> (try split) <;> (try split) <;> first | omega | (simp only [List.length_nil]; omega)
def step2 (ax ay bx by' cx cy dx dy : Int) (k : Nat) : List (Int × Int) :=
 match k with
 | 0 => step1 ax ay bx by' cx cy dx dy 2
 | 1 => if Plane.onB ax ay bx by' cx cy then Plane.putP (step1 ax ay bx by' cx cy dx dy 2) (cx, cy) else step1 ax ay bx by' cx cy dx dy 2
 | _ => let l1 := if Plane.onB ax ay bx by' cx cy then Plane.putP (step1 ax ay bx by' cx cy dx dy 2) (cx, cy) else step1 ax ay bx by' cx cy dx dy 2; if Plane.onB ax ay bx by' dx dy then Plane.putP l1 (dx, dy) else l1
theorem step2_len (ax ay bx by' cx cy dx dy : Int) (k : Nat) : (step2 ax ay bx by' cx cy dx dy k).length ≤ 4 := by
 unfold step2
 have h0 := step1_len ax ay bx by' cx cy dx dy 2
 have h1 := putP_len (step1 ax ay bx by' cx cy dx dy 2) (cx, cy)
 have h2 := putP_len (Plane.putP (step1 ax ay bx by' cx cy dx dy 2) (cx, cy)) (dx, dy)
 have h3 := putP_len (step1 ax ay bx by' cx cy dx dy 2) (dx, dy)
 split <;> (try split) <;> (try split) <;> first | omega | (dsimp only; omega)
theorem step2_ends (ax ay bx by' cx cy dx dy : Int) : step2 ax ay bx by' cx cy dx dy 2 = Plane.endsL ax ay bx by' cx cy dx dy := rfl
theorem CR.next {w wr : World} {S N M : Nat} {ax ay bx by' cx cy dx dy : Int} {arr : Array Value} {l : List (Int × Int)} (h : CR w wr S N M ax ay bx by' cx cy dx dy arr l) (hS : S ≤ wr.heap.size) (arr2 : Array Value) :
  CR w (wr.alloc (.cells arr2 34)) S N wr.heap.size ax ay bx by' cx cy dx dy arr2 l where
 bel := h.bel.alloc hS _
 nle := by have := h.nle; simp; omega
 ba := blk_alloc h.ba _
 bb := blk_alloc h.bb _
 bc := blk_alloc h.bc _
 bd := blk_alloc h.bd _
 bm := heap_alloc_new wr _
 row := by
  obtain ⟨v, h1, h2⟩ := h.row
  exact ⟨v, blk_alloc h1 _, Kd.R_alloc (Kd.R_mono (Kd.R_bound h2) (fun k hk => ⟨hk.1.1, by omega⟩)) _⟩
theorem foldl_mono {f : Int × Int → Int × Int → Int × Int} (hf : ∀ m q, f m q = m ∨ f m q = q) : ∀ (l : List (Int × Int)) (p : Int × Int), l.foldl f p ∈ p :: l
 | [], p => by simp
 | q :: l, p => by
  have := foldl_mono hf l (f p q)
  simp only [List.foldl_cons, List.mem_cons] at this ⊢
  rcases this with h | h
  ·rcases hf p q with e | e <;> rw [h, e] <;> simp
  exact .inr (.inr h)
theorem lo_least : ∀ (l : List (Int × Int)) (p q : Int × Int), q ∈ p :: l → Plane.lessP q (Plane.loP p l) = false
 | [], p, q, h => by simp at h; subst h; exact swo_lessP.irrefl _
 | r :: l, p, q, h => by
  show Plane.lessP q (Plane.loP (if Plane.lessP r p then r else p) l) = false
  have key : ∀ z, Plane.lessP z (if Plane.lessP r p then r else p) = false → Plane.lessP z (Plane.loP (if Plane.lessP r p then r else p) l) = false := fun z hz =>
   swo_lessP.ntrans _ _ _ hz (lo_least l _ _ (by simp))
  rcases List.mem_cons.1 h with rfl | h
  ·apply key; split
   ·rename_i h1; simp [Plane.lessP] at h1 ⊢; omega
   exact swo_lessP.irrefl _
  rcases List.mem_cons.1 h with rfl | h
  ·apply key; split
   ·exact swo_lessP.irrefl _
   rename_i h1; simpa using h1
  exact lo_least l _ _ (List.mem_cons_of_mem _ h)
theorem hi_most : ∀ (l : List (Int × Int)) (p q : Int × Int), q ∈ p :: l → Plane.lessP (Plane.hiP p l) q = false
 | [], p, q, h => by simp at h; subst h; exact swo_lessP.irrefl _
 | r :: l, p, q, h => by
  show Plane.lessP (Plane.hiP (if Plane.lessP p r then r else p) l) q = false
  have key : ∀ z, Plane.lessP (if Plane.lessP p r then r else p) z = false → Plane.lessP (Plane.hiP (if Plane.lessP p r then r else p) l) z = false := fun z hz =>
   swo_lessP.ntrans _ _ _ (hi_most l _ _ (by simp)) hz
  rcases List.mem_cons.1 h with rfl | h
  ·apply key; split
   ·rename_i h1; simp [Plane.lessP] at h1 ⊢; omega
   exact swo_lessP.irrefl _
  rcases List.mem_cons.1 h with rfl | h
  ·apply key; split
   ·exact swo_lessP.irrefl _
   rename_i h1; simpa using h1
  exact hi_most l _ _ (List.mem_cons_of_mem _ h)
theorem less_anti {p q : Int × Int} (h1 : Plane.lessP p q = false) (h2 : Plane.lessP q p = false) : p = q := by
 simp [Plane.lessP] at h1 h2
 apply Prod.ext <;> omega
theorem first_lo {p : Int × Int} {l l' : List (Int × Int)} (hp : l'.Perm (p :: l)) (hs : ∀ i j, i < j → j < l'.length → Plane.lessP (l'.getD j (0, 0)) (l'.getD i (0, 0)) = false) : l'.getD 0 (0, 0) = Plane.loP p l := by
 have hlen : 0 < l'.length := by rw [hp.length_eq]; simp
 have m1 : Plane.loP p l ∈ l' := hp.mem_iff.2 (foldl_mono (fun m q => by by_cases h : Plane.lessP q m <;> simp [h]) l p)
 have m2 : l'.getD 0 (0, 0) ∈ p :: l := hp.mem_iff.1 (by rw [← List.getElem_eq_getD (h := hlen)]; exact List.getElem_mem hlen)
 refine less_anti (lo_least l p _ m2) ?_
 obtain ⟨j, hj, e⟩ := List.mem_iff_getElem.1 m1
 rw [← e, List.getElem_eq_getD (0, 0)]
 by_cases h : j = 0
 ·subst h; exact swo_lessP.irrefl _
 exact hs 0 j (by omega) hj
theorem last_hi {p : Int × Int} {l l' : List (Int × Int)} (hp : l'.Perm (p :: l)) (hs : ∀ i j, i < j → j < l'.length → Plane.lessP (l'.getD j (0, 0)) (l'.getD i (0, 0)) = false) : l'.getD (l'.length - 1) (0, 0) = Plane.hiP p l := by
 have hlen : 0 < l'.length := by rw [hp.length_eq]; simp
 have hl1 : l'.length - 1 < l'.length := by omega
 have m1 : Plane.hiP p l ∈ l' := hp.mem_iff.2 (foldl_mono (fun m q => by by_cases h : Plane.lessP m q <;> simp [h]) l p)
 have m2 : l'.getD (l'.length - 1) (0, 0) ∈ p :: l := hp.mem_iff.1 (by rw [← List.getElem_eq_getD (h := hl1)]; exact List.getElem_mem hl1)
 refine less_anti ?_ (hi_most l p _ m2)
 obtain ⟨j, hj, e⟩ := List.mem_iff_getElem.1 m1
 rw [← e, List.getElem_eq_getD (0, 0)]
 by_cases h : j = l'.length - 1
 ·subst h; exact swo_lessP.irrefl _
 exact hs j _ (by omega) hl1
theorem R_some {W : World} {base : Nat} {ok : Nat → Prop} {v : Value} {l : List (Int × Int)} (ho : Kd.R k34 34 W base ok v (l.map ptS)) (hl : 0 < l.length) : ∃ g c, v = .slice (some ⟨g, 0, none⟩) l.length c := by
 obtain ⟨h0, inner, ⟨hlen, hown⟩, hr⟩ := ho
 rw [List.length_map] at hlen hown
 rcases hown with ⟨h1, h2⟩ | ⟨g, cap, cur, hv, _⟩
 ·omega
 exact ⟨g, cap, hv⟩
theorem sort_any (B blk c : Nat) (l : List (Int × Int)) (h2 : 1 ≤ l.length) (h12 : l.length ≤ 12) (base : Nat) (ok : Nat → Prop) (w0 W : World) (hB : Below base w0 W) (hb : W.heap[B]? = some (.cells #[.slice (some ⟨blk, 0, none⟩) l.length c] 24 (0, 0)))
  (ho : Kd.R k34 34 W base ok (.slice (some ⟨blk, 0, none⟩) l.length c) (l.map ptS)) (hok : ∀ k, ok k → k ≠ B) (hbase : base ≤ W.heap.size) :
  Calls Try.prog 100 #[.iface 24 (.slice (some ⟨blk, 0, none⟩) l.length c), .func (.func 106) #[] #[.pointer (some ⟨B, 0, none⟩)]] W fun e w' =>
   e = .returned (.tuple #[]) ∧ ∃ l' : List (Int × Int), l'.length = l.length ∧ l'.Perm l ∧ (∀ i j, i < j → j < l'.length → Plane.lessP (l'.getD j (0, 0)) (l'.getD i (0, 0)) = false) ∧
    Kd.R k34 34 w' base ok (.slice (some ⟨blk, 0, none⟩) l.length c) (l'.map ptS) ∧ Below base w0 w' ∧ W.grownBy w' (some blk) := by
 by_cases h1 : l.length = 1
 rotate_left
 ·exact sort_calls B blk c l (by omega) h12 base ok w0 W hB hb ho hok hbase 100 rfl 106 rfl
 have hc : Calls Try.prog 100 #[.iface 24 (.slice (some ⟨blk, 0, none⟩) 1 c), .func (.func 106) #[] #[.pointer (some ⟨B, 0, none⟩)]] W _ := Any.sort_Slice_tiny Try.sv6 24 34 svT svE (by kernel_rfl) (by kernel_rfl) (by kernel_rfl) (by kernel_rfl) 25 (fun _ => by kernel_rfl) (some ⟨blk, 0, none⟩) 1 c (by omega) 122 (by kernel_rfl) (.func 106) #[] #[.pointer (some ⟨B, 0, none⟩)] W
 rw [h1] at ho ⊢
 refine hc.mono ?_
 rintro e w' ⟨rfl, os, rfl⟩
 have hbel : Below W.heap.size W (Sort.grow W os) := ⟨rfl, rfl, rfl, by rw [Sort.size_grow]; omega, fun k hk => Sort.heap_grow_old W os hk⟩
 exact ⟨rfl, l, h1, .refl _, fun i j hij hj => by omega, Kd.R_below ho hbel, hB.trans (hbel.mono hbase), grown_of_below hbel _⟩
theorem row_at {W : World} {base : Nat} {ok : Nat → Prop} {blk c n : Nat} {l : List (Int × Int)} (ho : Kd.R k34 34 W base ok (.slice (some ⟨blk, 0, none⟩) n c) (l.map ptS)) (i : Nat) (hi : i < l.length) :
  W.cell? ⟨blk, i * 2, none⟩ = some (.int .i64 (l.getD i (0, 0)).1) ∧ W.cell? ⟨blk, i * 2 + 1, none⟩ = some (.int .i64 (l.getD i (0, 0)).2) := by
 obtain ⟨A, c', e, _, hC⟩ := Kd.R_reads ho
 injection e with e1 e2 e3
 subst e1
 obtain ⟨ad, e, c0, c1⟩ := at_T34 hC i (by omega) (by rw [List.length_map]; omega)
 injection e with e
 subst e
 have hel : rd_T34 (l.map ptS) i = ptS (l.getD i (0, 0)) := by
  unfold rd_T34; simp [List.getElem?_eq_getElem hi]
 rw [hel] at c0 c1
 simp only [Int.toNat_natCast, add_plain] at c0 c1
 exact ⟨c0, c1⟩
theorem sort_fin (B blk c : Nat) (p : Int × Int) (L2 : List (Int × Int)) (n : Nat) (hn : n = (p :: L2).length) (h12 : n ≤ 12) (base : Nat) (ok : Nat → Prop) (w0 W : World) (hB : Below base w0 W) (hb : W.heap[B]? = some (.cells #[.slice (some ⟨blk, 0, none⟩) (p :: L2).length c] 24 (0, 0)))
  (ho : Kd.R k34 34 W base ok (.slice (some ⟨blk, 0, none⟩) (p :: L2).length c) ((p :: L2).map ptS)) (hok : ∀ k, ok k → k ≠ B) (hbase : base ≤ W.heap.size) :
  Calls Try.prog 100 #[.iface 24 (.slice (some ⟨blk, 0, none⟩) n c), .func (.func 106) #[] #[.pointer (some ⟨B, 0, none⟩)]] W fun e w' => e = .returned (.tuple #[]) ∧
   w'.cell? ⟨B, 0, none⟩ = some (.slice (some ⟨blk, 0, none⟩) n c) ∧ w'.cell? ⟨blk, 0, none⟩ = some (.int .i64 (Plane.loP p L2).1) ∧ w'.cell? ⟨blk, 1, none⟩ = some (.int .i64 (Plane.loP p L2).2) ∧
   w'.cell? ⟨blk, (n - 1) * 2, none⟩ = some (.int .i64 (Plane.hiP p L2).1) ∧ w'.cell? ⟨blk, (n - 1) * 2 + 1, none⟩ = some (.int .i64 (Plane.hiP p L2).2) ∧ Below base w0 w' ∧ blk < w'.heap.size := by
 subst hn
 refine (sort_any B blk c (p :: L2) (by simp) h12 base ok w0 W hB hb ho hok hbase).mono ?_
 rintro e w' ⟨rfl, l', hl, hp, hs, hR, hB', hg⟩
 have hlen : 0 < l'.length := by rw [hl]; simp
 have hne : some B ≠ some blk := fun h => hok blk (ho.1 blk rfl) (by injection h with h; exact h.symm)
 obtain ⟨z0, z1⟩ := row_at hR 0 hlen
 obtain ⟨z2, z3⟩ := row_at hR (l'.length - 1) (by omega)
 rw [first_lo hp hs] at z0 z1
 rw [last_hi hp hs] at z2 z3
 rw [← hl]
 rw [← hl] at hb
 exact ⟨rfl, blk_cell (blk_grown hb hg hne) 0, z0, z1, z2, z3, hB', Kd.R_lt hR blk rfl⟩
theorem R_one (W : World) (base : Nat) (hb : base ≤ W.heap.size) (s1 s2 s3 : Int) : Kd.R k41 41 (W.alloc (.cells #[.int .i64 s1, .int .i64 s2, .int .i64 s3] 41)) base (fun _ => True) (.slice (some ⟨W.heap.size, 0, none⟩) 1 1) [⟨s1, s2, s3⟩] :=
 ⟨fun _ _ => trivial, [.int .i64 s1, .int .i64 s2, .int .i64 s3], ⟨rfl, .inr ⟨W.heap.size, 1, _, rfl, hb, heap_alloc_new W _, Nat.le_refl _, by unfold maxLen; omega, rfl, rfl⟩⟩, Reps.snoc (Reps.none _ _) (k41_mkM _ _ _ ⟨s1, s2, s3⟩) rfl⟩
theorem below4 (w : World) (o1 o2 o3 o4 : Obj) : Below w.heap.size w ((((w.alloc o1).alloc o2).alloc o3).alloc o4) :=
 below_alloc (below_alloc (below_alloc (below_alloc (Below.refl _ _) _) _) _) _
theorem gcd_tmod (a b : Int) : Int.gcd b (a.tmod b) = Int.gcd a b := by
 rw [Int.gcd_comm a b]
 have h : a.tmod b = a - b * a.tdiv b := by have := Int.mul_tdiv_add_tmod a b; omega
 rw [h, Int.gcd_sub_mul_left_right]
theorem gcd_l0 : ∀ (n k : Nat) (a b : Int), b.natAbs ≤ n → n < k → -9223372036854775807 ≤ a → a ≤ 9223372036854775807 → -9223372036854775807 ≤ b → b ≤ 9223372036854775807 → impl_gcd.l0 k a b = some (Int.gcd a b : Int)
 | n, k, a, b, hb, hk, ha1, ha2, hb1, hb2 => by
  obtain ⟨k, rfl⟩ : ∃ m, k = m + 1 := ⟨k - 1, by omega⟩
  simp only [impl_gcd.l0]
  by_cases h : b = 0
  ·subst h
   rw [Int.gcd_zero_right, if_pos rfl]
   by_cases h0 : a < 0
   ·rw [if_pos h0, w64 (by omega) (by omega)]; congr 1; omega
   rw [if_neg h0]; congr 1; omega
  rw [if_neg h]
  have hlt : (a.tmod b).natAbs < b.natAbs := by
   have h1 := Int.tmod_lt_of_pos a (b := (b.natAbs : Int)) (by omega)
   have h2 := Int.lt_tmod_of_pos a (b := (b.natAbs : Int)) (by omega)
   have e : a.tmod (b.natAbs : Int) = a.tmod b := by
    rcases Int.natAbs_eq b with h | h
    ·rw [← h]
    conv => rhs; rw [h]
    rw [Int.tmod_neg]
   rw [e] at h1 h2
   omega
  match n, hb with
  | 0, hb => exact absurd hb (by omega)
  | n + 1, hb =>
   rw [gcd_l0 n k b (a.tmod b) (by omega) (by omega) hb1 hb2 (by omega) (by omega), gcd_tmod]
theorem spot_ok (x y d : Int) (hx : -100000000000000000 ≤ x ∧ x ≤ 100000000000000000) (hy : -100000000000000000 ≤ y ∧ y ≤ 100000000000000000) (hd : 0 < d) (hd2 : d ≤ 100000000000000000) : ∃ k, impl_spotOf.f k x y d = some (Plane.spot3 x y d) := by
 refine ⟨y.natAbs + d.natAbs + 1, ?_⟩
 have hg1 : (Int.gcd x y : Int) ≤ 100000000000000000 := by
  by_cases h : y = 0
  ·subst h; rw [Int.gcd_zero_right]; omega
  have := Int.gcd_le_natAbs_right (a := x) h; omega
 have hgd : (Int.gcd (Int.gcd x y) d : Int) ≤ d := by
  have := Int.gcd_le_natAbs_right (a := (Int.gcd x y : Int)) (show d ≠ 0 by omega); omega
 have hgp : (Int.gcd (Int.gcd x y) d : Int) ≠ 0 := by
  intro h
  have := (Int.gcd_eq_zero_iff.1 (by omega : Int.gcd (Int.gcd x y) d = 0)).2
  omega
 unfold impl_spotOf.f impl_gcd.f
 rw [if_neg (by omega), gcd_l0 y.natAbs _ x y (Nat.le_refl _) (by omega) (by omega) (by omega) (by omega) (by omega)]
 simp only [Option.bind_some]
 rw [gcd_l0 d.natAbs _ (Int.gcd x y : Int) d (Nat.le_refl _) (by omega) (by omega) (by omega) (by omega) (by omega)]
 simp only [Option.bind_some]
 rw [if_neg hgp]
 have hq : ∀ z : Int, -100000000000000000 ≤ z ∧ z ≤ 100000000000000000 → wrap64 (z.tdiv (Int.gcd (Int.gcd x y) d)) = z.tdiv (Int.gcd (Int.gcd x y) d) := by
  intro z hz
  have := Int.natAbs_tdiv_le_natAbs z (Int.gcd (Int.gcd x y) d : Int)
  exact w64 (by omega) (by omega)
 rw [hq x hx, hq y hy, hq d ⟨by omega, hd2⟩]
 rfl
theorem heap_alloc_new' (W : World) (o : Obj) (k : Nat) (h : k = W.heap.size) : (W.alloc o).heap[k]? = some o := by subst h; exact heap_alloc_new W o
set_option maxHeartbeats 8000000 in
set_option maxRecDepth 100000 in
theorem crossing_par (a0_0 : Int) (a0_1 : Int) (a1_0 : Int) (a1_1 : Int) (a2_0 : Int) (a2_1 : Int) (a3_0 : Int) (a3_1 : Int) (r1 : Int) (r2 : List (S41)) (w : World) (hd : (a1_0 - a0_0) * (a3_1 - a2_1) - (a1_1 - a0_1) * (a3_0 - a2_0) = 0) (h : impl_crossing.f a0_0 a0_1 a1_0 a1_1 a2_0 a2_1 a3_0 a3_1 = some (r1, r2)) :
  Calls Try.prog 69 #[.agg #[.int .i64 a0_0, .int .i64 a0_1], .agg #[.int .i64 a1_0, .int .i64 a1_1], .agg #[.int .i64 a2_0, .int .i64 a2_1], .agg #[.int .i64 a3_0, .int .i64 a3_1]] w fun e w' => ∃ v1_ : Value, e = .returned (.tuple #[.int .i64 r1, v1_]) ∧ Kd.R k41 41 w' w.heap.size (fun _ => True) v1_ r2 ∧ Below w.heap.size w w' := by
 unfold impl_crossing.f at h
 by_cases hg : Plane.InAt a0_0 ∧ Plane.InAt a0_1 ∧ Plane.InAt a1_0 ∧ Plane.InAt a1_1 ∧ Plane.InAt a2_0 ∧ Plane.InAt a2_1 ∧ Plane.InAt a3_0 ∧ Plane.InAt a3_1
 case neg => rw [if_neg hg] at h; exact absurd h (by simp)
 rw [if_pos hg] at h
 unfold Plane.InAt at hg
 obtain ⟨⟨g1, g2⟩, ⟨g3, g4⟩, ⟨g5, g6⟩, ⟨g7, g8⟩, ⟨g9, g10⟩, ⟨g11, g12⟩, ⟨g13, g14⟩, ⟨g15, g16⟩⟩ := hg
 have HU := Kp.a (Below.refl w.heap.size w)
 obtain ⟨m1, m2⟩ := mulb (A := 200000) (B := 200000) (x := a1_0 - a0_0) (y := a3_1 - a2_1) (by omega) (by omega) (by omega) (by omega)
 obtain ⟨m3, m4⟩ := mulb (A := 200000) (B := 200000) (x := a1_1 - a0_1) (y := a3_0 - a2_0) (by omega) (by omega) (by omega) (by omega)
 have hu34 := Try.underlying34
 have e1 : IntKind.i64.wrap (a1_0 - a0_0) = a1_0 - a0_0 := IntWalk.i64_in _ (by omega)
 have e2 : IntKind.i64.wrap (a1_1 - a0_1) = a1_1 - a0_1 := IntWalk.i64_in _ (by omega)
 have e3 : IntKind.i64.wrap (a3_0 - a2_0) = a3_0 - a2_0 := IntWalk.i64_in _ (by omega)
 have e4 : IntKind.i64.wrap (a3_1 - a2_1) = a3_1 - a2_1 := IntWalk.i64_in _ (by omega)
 obtain ⟨p1, P1⟩ : ∃ p, (a1_0 - a0_0) * (a3_1 - a2_1) = p := ⟨_, rfl⟩
 obtain ⟨p2, P2⟩ : ∃ p, (a1_1 - a0_1) * (a3_0 - a2_0) = p := ⟨_, rfl⟩
 rw [P1] at m1 m2
 rw [P2] at m3 m4
 rw [P1, P2] at hd
 have hcr : Plane.crossP a0_0 a0_1 a1_0 a1_1 a2_0 a2_1 a3_0 a3_1 = Plane.endsP (Plane.endsL a0_0 a0_1 a1_0 a1_1 a2_0 a2_1 a3_0 a3_1) := by
  unfold Plane.crossP
  simp only [P1, P2]
  rw [if_neg (by omega), if_neg (by omega)]
 rw [hcr] at h
 have H := Kp.a h
 clear h hcr
 have hdb : (p1 - p2 != 0) = false := by simp [hd]
 have hmf : ∀ (fn : Fn) (first cap : Array Value) (w : World), (Instr.makeFunc fn first cap).run Try.prog w = .ok (.func fn first cap) w := fun _ _ _ _ => rfl
 go_enter Try.func69, Try.ntmps69
 go_wp2
 go_quiet (fail)
 go_wp2
 go_quiet (fail)
 go_wp2
 go_loopw [132] (fun vi wr => ∃ k : Nat, vi = .int .i64 k ∧ k ≤ 2 ∧ CR w wr w.heap.size (w.heap.size + 6) (w.heap.size + 1 + 1 + 1 + 1 + 1) a0_0 a0_1 a1_0 a1_1 a2_0 a2_1 a3_0 a3_1 #[.int .i64 a0_0, .int .i64 a0_1, .int .i64 a1_0, .int .i64 a1_1] (step1 a0_0 a0_1 a1_0 a1_1 a2_0 a2_1 a3_0 a3_1 k)) (fun vi _ => 2 - (intOf vi).toNat)
 case atStart =>
  refine ⟨0, rfl, by omega, ⟨?_, ?_, ?_, ?_, ?_, ?_, ?_, ?_⟩⟩
  ·exact below_alloc (below_alloc (pw_below_drewN (below4 w _ _ _ _) _) _) _
  ·simp
  ·repeat (first | exact heap_alloc_new _ _ | refine blk_alloc ?_ _ | refine blk_drewN ?_ _)
  ·repeat (first | exact heap_alloc_new' _ _ _ (by simp) | refine blk_alloc ?_ _ | refine blk_drewN ?_ _)
  ·repeat (first | exact heap_alloc_new' _ _ _ (by simp) | refine blk_alloc ?_ _ | refine blk_drewN ?_ _)
  ·repeat (first | exact heap_alloc_new' _ _ _ (by simp) | refine blk_alloc ?_ _ | refine blk_drewN ?_ _)
  ·repeat (first | exact heap_alloc_new' _ _ _ (by simp) | refine blk_alloc ?_ _ | refine blk_drewN ?_ _)
  exact ⟨_, by repeat (first | exact heap_alloc_new' _ _ _ (by simp) | refine blk_alloc ?_ _ | refine blk_drewN ?_ _), Kd.R_nil _ _ _ _ _⟩
 case round =>
  obtain ⟨k, rfl, hk, hC⟩ := hrel
  have hsz : w.heap.size + 6 ≤ wr.heap.size := hC.nle
  have hk3 : k = 0 ∨ k = 1 ∨ k = 2 := by omega
  rcases hk3 with rfl | rfl | rfl
  ·have q0 : wr.cell? ⟨w.heap.size + 1 + 1 + 1 + 1 + 1, 0, none⟩ = some (.int .i64 a0_0) := blk_cell hC.bm 0
   have q1 : wr.cell? ⟨w.heap.size + 1 + 1 + 1 + 1 + 1, 1, none⟩ = some (.int .i64 a0_1) := blk_cell hC.bm 1
   have c0 : wr.cell? ⟨w.heap.size + 1 + 1, 0, none⟩ = some (.int .i64 a2_0) := blk_cell hC.bc 0
   have c1 : wr.cell? ⟨w.heap.size + 1 + 1, 1, none⟩ = some (.int .i64 a2_1) := blk_cell hC.bc 1
   have cl : w.heap.size + 1 + 1 < wr.heap.size := blk_lt hC.bc
   have d0 : wr.cell? ⟨w.heap.size + 1 + 1 + 1, 0, none⟩ = some (.int .i64 a3_0) := blk_cell hC.bd 0
   have d1 : wr.cell? ⟨w.heap.size + 1 + 1 + 1, 1, none⟩ = some (.int .i64 a3_1) := blk_cell hC.bd 1
   have dl : w.heap.size + 1 + 1 + 1 < wr.heap.size := blk_lt hC.bd
   have HIN := Lib.hid (show Plane.InAt a2_0 ∧ Plane.InAt a2_1 ∧ Plane.InAt a3_0 ∧ Plane.InAt a3_1 ∧ Plane.InAt a0_0 ∧ Plane.InAt a0_1 from ⟨⟨g9, g10⟩, ⟨g11, g12⟩, ⟨g13, g14⟩, ⟨g15, g16⟩, ⟨g1, g2⟩, ⟨g3, g4⟩⟩)
   have hMl : w.heap.size + 1 + 1 + 1 + 1 + 1 < wr.heap.size := blk_lt hC.bm
   have HC := Lib.hid hC
   clear hC
   by_cases ho : Plane.onB a2_0 a2_1 a3_0 a3_1 a0_0 a0_1 = true
   ·have HO := Lib.hid ho
    have HS := Lib.hid (show step1 a0_0 a0_1 a1_0 a1_1 a2_0 a2_1 a3_0 a3_1 1 = Plane.putP (step1 a0_0 a0_1 a1_0 a1_1 a2_0 a2_1 a3_0 a3_1 0) (a0_0, a0_1) by simp only [step1, ho, if_true])
    clear ho
    go_wp2_with (first | (go_at_call 85; refine (on_calls _ true HO.out HIN.out).mono ?_; rintro e w2 ⟨rfl, hb2⟩; have z0 : w2.cell? ⟨wr.heap.size, 0, none⟩ = some (.int .i64 a0_0) := (hb2.cell (p := ⟨wr.heap.size, 0, none⟩) (by simp)).trans (by simp); have z1 : w2.cell? ⟨wr.heap.size, 1, none⟩ = some (.int .i64 a0_1) := (hb2.cell (p := ⟨wr.heap.size, 1, none⟩) (by simp)).trans (by simp); have HC2 := Lib.hid ((HC.out.below (by omega) ((Below.refl wr.heap.size wr).alloc (Nat.le_refl _) _)).below (by simp; omega) hb2); have hs2 : wr.heap.size < w2.heap.size := (by have := hb2.size; simp at this; omega); clear hb2) | (go_at_call 105; refine (HC2.out.put (by omega) (by omega) (by omega) a0_0 a0_1 (by have := step1_len a0_0 a0_1 a1_0 a1_1 a2_0 a2_1 a3_0 a3_1 0; omega)).mono ?_; rintro e w3 ⟨rfl, hC3, hs3⟩; have HC3 := Lib.hid hC3; clear hC3))
    go_roundw
    case rel => first | exact ⟨1, by go_num, by omega, by rw [HS.out]; exact HC3.out⟩ | ((repeat apply Exists.intro); exact ⟨⟨1, by go_num, by omega, by rw [HS.out]; exact HC3.out⟩, rfl⟩)
    case measure => simp [intOf]
   have ho := Bool.eq_false_iff.2 ho
   have HO := Lib.hid ho
   have HS := Lib.hid (show step1 a0_0 a0_1 a1_0 a1_1 a2_0 a2_1 a3_0 a3_1 1 = step1 a0_0 a0_1 a1_0 a1_1 a2_0 a2_1 a3_0 a3_1 0 by simp only [step1, ho, Bool.false_eq_true, if_false])
   clear ho
   go_wp2_with (first | (go_at_call 85; refine (on_calls _ false HO.out HIN.out).mono ?_; rintro e w2 ⟨rfl, hb2⟩; have z0 : w2.cell? ⟨wr.heap.size, 0, none⟩ = some (.int .i64 a0_0) := (hb2.cell (p := ⟨wr.heap.size, 0, none⟩) (by simp)).trans (by simp); have z1 : w2.cell? ⟨wr.heap.size, 1, none⟩ = some (.int .i64 a0_1) := (hb2.cell (p := ⟨wr.heap.size, 1, none⟩) (by simp)).trans (by simp); have HC2 := Lib.hid ((HC.out.below (by omega) ((Below.refl wr.heap.size wr).alloc (Nat.le_refl _) _)).below (by simp; omega) hb2); have hs2 : wr.heap.size < w2.heap.size := (by have := hb2.size; simp at this; omega); clear hb2))
   go_roundw
   case rel => first | exact ⟨1, by go_num, by omega, by rw [HS.out]; exact HC2.out⟩ | ((repeat apply Exists.intro); exact ⟨⟨1, by go_num, by omega, by rw [HS.out]; exact HC2.out⟩, rfl⟩)
   case measure => simp [intOf]
  ·have q0 : wr.cell? ⟨w.heap.size + 1 + 1 + 1 + 1 + 1, 2, none⟩ = some (.int .i64 a1_0) := blk_cell hC.bm 2
   have q1 : wr.cell? ⟨w.heap.size + 1 + 1 + 1 + 1 + 1, 3, none⟩ = some (.int .i64 a1_1) := blk_cell hC.bm 3
   have c0 : wr.cell? ⟨w.heap.size + 1 + 1, 0, none⟩ = some (.int .i64 a2_0) := blk_cell hC.bc 0
   have c1 : wr.cell? ⟨w.heap.size + 1 + 1, 1, none⟩ = some (.int .i64 a2_1) := blk_cell hC.bc 1
   have cl : w.heap.size + 1 + 1 < wr.heap.size := blk_lt hC.bc
   have d0 : wr.cell? ⟨w.heap.size + 1 + 1 + 1, 0, none⟩ = some (.int .i64 a3_0) := blk_cell hC.bd 0
   have d1 : wr.cell? ⟨w.heap.size + 1 + 1 + 1, 1, none⟩ = some (.int .i64 a3_1) := blk_cell hC.bd 1
   have dl : w.heap.size + 1 + 1 + 1 < wr.heap.size := blk_lt hC.bd
   have HIN := Lib.hid (show Plane.InAt a2_0 ∧ Plane.InAt a2_1 ∧ Plane.InAt a3_0 ∧ Plane.InAt a3_1 ∧ Plane.InAt a1_0 ∧ Plane.InAt a1_1 from ⟨⟨g9, g10⟩, ⟨g11, g12⟩, ⟨g13, g14⟩, ⟨g15, g16⟩, ⟨g5, g6⟩, ⟨g7, g8⟩⟩)
   have hMl : w.heap.size + 1 + 1 + 1 + 1 + 1 < wr.heap.size := blk_lt hC.bm
   have HC := Lib.hid hC
   clear hC
   by_cases ho : Plane.onB a2_0 a2_1 a3_0 a3_1 a1_0 a1_1 = true
   ·have HO := Lib.hid ho
    have HS := Lib.hid (show step1 a0_0 a0_1 a1_0 a1_1 a2_0 a2_1 a3_0 a3_1 2 = Plane.putP (step1 a0_0 a0_1 a1_0 a1_1 a2_0 a2_1 a3_0 a3_1 1) (a1_0, a1_1) by simp only [step1, ho, if_true])
    clear ho
    go_wp2_with (first | (go_at_call 85; refine (on_calls _ true HO.out HIN.out).mono ?_; rintro e w2 ⟨rfl, hb2⟩; have z0 : w2.cell? ⟨wr.heap.size, 0, none⟩ = some (.int .i64 a1_0) := (hb2.cell (p := ⟨wr.heap.size, 0, none⟩) (by simp)).trans (by simp); have z1 : w2.cell? ⟨wr.heap.size, 1, none⟩ = some (.int .i64 a1_1) := (hb2.cell (p := ⟨wr.heap.size, 1, none⟩) (by simp)).trans (by simp); have HC2 := Lib.hid ((HC.out.below (by omega) ((Below.refl wr.heap.size wr).alloc (Nat.le_refl _) _)).below (by simp; omega) hb2); have hs2 : wr.heap.size < w2.heap.size := (by have := hb2.size; simp at this; omega); clear hb2) | (go_at_call 105; refine (HC2.out.put (by omega) (by omega) (by omega) a1_0 a1_1 (by have := step1_len a0_0 a0_1 a1_0 a1_1 a2_0 a2_1 a3_0 a3_1 1; omega)).mono ?_; rintro e w3 ⟨rfl, hC3, hs3⟩; have HC3 := Lib.hid hC3; clear hC3))
    go_roundw
    case rel => first | exact ⟨2, by go_num, by omega, by rw [HS.out]; exact HC3.out⟩ | ((repeat apply Exists.intro); exact ⟨⟨2, by go_num, by omega, by rw [HS.out]; exact HC3.out⟩, rfl⟩)
    case measure => simp [intOf]
   have ho := Bool.eq_false_iff.2 ho
   have HO := Lib.hid ho
   have HS := Lib.hid (show step1 a0_0 a0_1 a1_0 a1_1 a2_0 a2_1 a3_0 a3_1 2 = step1 a0_0 a0_1 a1_0 a1_1 a2_0 a2_1 a3_0 a3_1 1 by simp only [step1, ho, Bool.false_eq_true, if_false])
   clear ho
   go_wp2_with (first | (go_at_call 85; refine (on_calls _ false HO.out HIN.out).mono ?_; rintro e w2 ⟨rfl, hb2⟩; have z0 : w2.cell? ⟨wr.heap.size, 0, none⟩ = some (.int .i64 a1_0) := (hb2.cell (p := ⟨wr.heap.size, 0, none⟩) (by simp)).trans (by simp); have z1 : w2.cell? ⟨wr.heap.size, 1, none⟩ = some (.int .i64 a1_1) := (hb2.cell (p := ⟨wr.heap.size, 1, none⟩) (by simp)).trans (by simp); have HC2 := Lib.hid ((HC.out.below (by omega) ((Below.refl wr.heap.size wr).alloc (Nat.le_refl _) _)).below (by simp; omega) hb2); have hs2 : wr.heap.size < w2.heap.size := (by have := hb2.size; simp at this; omega); clear hb2))
   go_roundw
   case rel => first | exact ⟨2, by go_num, by omega, by rw [HS.out]; exact HC2.out⟩ | ((repeat apply Exists.intro); exact ⟨⟨2, by go_num, by omega, by rw [HS.out]; exact HC2.out⟩, rfl⟩)
   case measure => simp [intOf]
  have HC := Lib.hid hC
  have c0 : wr.cell? ⟨w.heap.size + 1 + 1, 0, none⟩ = some (.int .i64 a2_0) := blk_cell hC.bc 0
  have c1 : wr.cell? ⟨w.heap.size + 1 + 1, 1, none⟩ = some (.int .i64 a2_1) := blk_cell hC.bc 1
  have cl : w.heap.size + 1 + 1 < wr.heap.size := blk_lt hC.bc
  have d0 : wr.cell? ⟨w.heap.size + 1 + 1 + 1, 0, none⟩ = some (.int .i64 a3_0) := blk_cell hC.bd 0
  have d1 : wr.cell? ⟨w.heap.size + 1 + 1 + 1, 1, none⟩ = some (.int .i64 a3_1) := blk_cell hC.bd 1
  have dl : w.heap.size + 1 + 1 + 1 < wr.heap.size := blk_lt hC.bd
  have a0 : wr.cell? ⟨w.heap.size, 0, none⟩ = some (.int .i64 a0_0) := blk_cell hC.ba 0
  have a1 : wr.cell? ⟨w.heap.size, 1, none⟩ = some (.int .i64 a0_1) := blk_cell hC.ba 1
  have al : w.heap.size < wr.heap.size := blk_lt hC.ba
  have b0 : wr.cell? ⟨w.heap.size + 1, 0, none⟩ = some (.int .i64 a1_0) := blk_cell hC.bb 0
  have b1 : wr.cell? ⟨w.heap.size + 1, 1, none⟩ = some (.int .i64 a1_1) := blk_cell hC.bb 1
  have bl : w.heap.size + 1 < wr.heap.size := blk_lt hC.bb
  clear hC
  go_wp2
  obtain ⟨wo, rfl⟩ : ∃ wo : World, wo = wr := ⟨_, rfl⟩
  go_loopw [148] (fun vi wr => ∃ k : Nat, vi = .int .i64 k ∧ k ≤ 2 ∧ CR w wr w.heap.size (w.heap.size + 6) wo.heap.size a0_0 a0_1 a1_0 a1_1 a2_0 a2_1 a3_0 a3_1 #[.int .i64 a2_0, .int .i64 a2_1, .int .i64 a3_0, .int .i64 a3_1] (step2 a0_0 a0_1 a1_0 a1_1 a2_0 a2_1 a3_0 a3_1 k)) (fun vi _ => 2 - (intOf vi).toNat)
  case atStart => exact ⟨0, rfl, by omega, HC.out.next (by omega) _⟩
  case round =>
   clear a0 a1 b0 b1 c0 c1 d0 d1 al bl cl dl HC
   have hso : w.heap.size + 6 ≤ wo.heap.size := hsz
   clear hsz
   obtain ⟨k, rfl, hk, hC⟩ := hrel
   have hsz : w.heap.size + 6 ≤ wr.heap.size := hC.nle
   have hk3 : k = 0 ∨ k = 1 ∨ k = 2 := by omega
   rcases hk3 with rfl | rfl | rfl
   ·have q0 : wr.cell? ⟨wo.heap.size, 0, none⟩ = some (.int .i64 a2_0) := blk_cell hC.bm 0
    have q1 : wr.cell? ⟨wo.heap.size, 1, none⟩ = some (.int .i64 a2_1) := blk_cell hC.bm 1
    have a0 : wr.cell? ⟨w.heap.size, 0, none⟩ = some (.int .i64 a0_0) := blk_cell hC.ba 0
    have a1 : wr.cell? ⟨w.heap.size, 1, none⟩ = some (.int .i64 a0_1) := blk_cell hC.ba 1
    have al : w.heap.size < wr.heap.size := blk_lt hC.ba
    have b0 : wr.cell? ⟨w.heap.size + 1, 0, none⟩ = some (.int .i64 a1_0) := blk_cell hC.bb 0
    have b1 : wr.cell? ⟨w.heap.size + 1, 1, none⟩ = some (.int .i64 a1_1) := blk_cell hC.bb 1
    have bl : w.heap.size + 1 < wr.heap.size := blk_lt hC.bb
    have HIN := Lib.hid (show Plane.InAt a0_0 ∧ Plane.InAt a0_1 ∧ Plane.InAt a1_0 ∧ Plane.InAt a1_1 ∧ Plane.InAt a2_0 ∧ Plane.InAt a2_1 from ⟨⟨g1, g2⟩, ⟨g3, g4⟩, ⟨g5, g6⟩, ⟨g7, g8⟩, ⟨g9, g10⟩, ⟨g11, g12⟩⟩)
    have hMl : wo.heap.size < wr.heap.size := blk_lt hC.bm
    have HC := Lib.hid hC
    clear hC
    by_cases ho : Plane.onB a0_0 a0_1 a1_0 a1_1 a2_0 a2_1 = true
    ·have HO := Lib.hid ho
     have HS := Lib.hid (show step2 a0_0 a0_1 a1_0 a1_1 a2_0 a2_1 a3_0 a3_1 1 = Plane.putP (step2 a0_0 a0_1 a1_0 a1_1 a2_0 a2_1 a3_0 a3_1 0) (a2_0, a2_1) by simp only [step2, ho, if_true])
     clear ho
     go_wp2_with (first | (go_at_call 85; refine (on_calls _ true HO.out HIN.out).mono ?_; rintro e w2 ⟨rfl, hb2⟩; have z0 : w2.cell? ⟨wr.heap.size, 0, none⟩ = some (.int .i64 a2_0) := (hb2.cell (p := ⟨wr.heap.size, 0, none⟩) (by simp)).trans (by simp); have z1 : w2.cell? ⟨wr.heap.size, 1, none⟩ = some (.int .i64 a2_1) := (hb2.cell (p := ⟨wr.heap.size, 1, none⟩) (by simp)).trans (by simp); have HC2 := Lib.hid ((HC.out.below (by omega) ((Below.refl wr.heap.size wr).alloc (Nat.le_refl _) _)).below (by simp; omega) hb2); have hs2 : wr.heap.size < w2.heap.size := (by have := hb2.size; simp at this; omega); clear hb2) | (go_at_call 105; refine (HC2.out.put (by omega) (by omega) (by omega) a2_0 a2_1 (by have := step2_len a0_0 a0_1 a1_0 a1_1 a2_0 a2_1 a3_0 a3_1 0; omega)).mono ?_; rintro e w3 ⟨rfl, hC3, hs3⟩; have HC3 := Lib.hid hC3; clear hC3))
     go_roundw
     case rel => first | exact ⟨1, by go_num, by omega, by rw [HS.out]; exact HC3.out⟩ | ((repeat apply Exists.intro); exact ⟨⟨1, by go_num, by omega, by rw [HS.out]; exact HC3.out⟩, rfl⟩)
     case measure => simp [intOf]
    have ho := Bool.eq_false_iff.2 ho
    have HO := Lib.hid ho
    have HS := Lib.hid (show step2 a0_0 a0_1 a1_0 a1_1 a2_0 a2_1 a3_0 a3_1 1 = step2 a0_0 a0_1 a1_0 a1_1 a2_0 a2_1 a3_0 a3_1 0 by simp only [step2, ho, Bool.false_eq_true, if_false])
    clear ho
    go_wp2_with (first | (go_at_call 85; refine (on_calls _ false HO.out HIN.out).mono ?_; rintro e w2 ⟨rfl, hb2⟩; have z0 : w2.cell? ⟨wr.heap.size, 0, none⟩ = some (.int .i64 a2_0) := (hb2.cell (p := ⟨wr.heap.size, 0, none⟩) (by simp)).trans (by simp); have z1 : w2.cell? ⟨wr.heap.size, 1, none⟩ = some (.int .i64 a2_1) := (hb2.cell (p := ⟨wr.heap.size, 1, none⟩) (by simp)).trans (by simp); have HC2 := Lib.hid ((HC.out.below (by omega) ((Below.refl wr.heap.size wr).alloc (Nat.le_refl _) _)).below (by simp; omega) hb2); have hs2 : wr.heap.size < w2.heap.size := (by have := hb2.size; simp at this; omega); clear hb2))
    go_roundw
    case rel => first | exact ⟨1, by go_num, by omega, by rw [HS.out]; exact HC2.out⟩ | ((repeat apply Exists.intro); exact ⟨⟨1, by go_num, by omega, by rw [HS.out]; exact HC2.out⟩, rfl⟩)
    case measure => simp [intOf]
   ·have q0 : wr.cell? ⟨wo.heap.size, 2, none⟩ = some (.int .i64 a3_0) := blk_cell hC.bm 2
    have q1 : wr.cell? ⟨wo.heap.size, 3, none⟩ = some (.int .i64 a3_1) := blk_cell hC.bm 3
    have a0 : wr.cell? ⟨w.heap.size, 0, none⟩ = some (.int .i64 a0_0) := blk_cell hC.ba 0
    have a1 : wr.cell? ⟨w.heap.size, 1, none⟩ = some (.int .i64 a0_1) := blk_cell hC.ba 1
    have al : w.heap.size < wr.heap.size := blk_lt hC.ba
    have b0 : wr.cell? ⟨w.heap.size + 1, 0, none⟩ = some (.int .i64 a1_0) := blk_cell hC.bb 0
    have b1 : wr.cell? ⟨w.heap.size + 1, 1, none⟩ = some (.int .i64 a1_1) := blk_cell hC.bb 1
    have bl : w.heap.size + 1 < wr.heap.size := blk_lt hC.bb
    have HIN := Lib.hid (show Plane.InAt a0_0 ∧ Plane.InAt a0_1 ∧ Plane.InAt a1_0 ∧ Plane.InAt a1_1 ∧ Plane.InAt a3_0 ∧ Plane.InAt a3_1 from ⟨⟨g1, g2⟩, ⟨g3, g4⟩, ⟨g5, g6⟩, ⟨g7, g8⟩, ⟨g13, g14⟩, ⟨g15, g16⟩⟩)
    have hMl : wo.heap.size < wr.heap.size := blk_lt hC.bm
    have HC := Lib.hid hC
    clear hC
    by_cases ho : Plane.onB a0_0 a0_1 a1_0 a1_1 a3_0 a3_1 = true
    ·have HO := Lib.hid ho
     have HS := Lib.hid (show step2 a0_0 a0_1 a1_0 a1_1 a2_0 a2_1 a3_0 a3_1 2 = Plane.putP (step2 a0_0 a0_1 a1_0 a1_1 a2_0 a2_1 a3_0 a3_1 1) (a3_0, a3_1) by simp only [step2, ho, if_true])
     clear ho
     go_wp2_with (first | (go_at_call 85; refine (on_calls _ true HO.out HIN.out).mono ?_; rintro e w2 ⟨rfl, hb2⟩; have z0 : w2.cell? ⟨wr.heap.size, 0, none⟩ = some (.int .i64 a3_0) := (hb2.cell (p := ⟨wr.heap.size, 0, none⟩) (by simp)).trans (by simp); have z1 : w2.cell? ⟨wr.heap.size, 1, none⟩ = some (.int .i64 a3_1) := (hb2.cell (p := ⟨wr.heap.size, 1, none⟩) (by simp)).trans (by simp); have HC2 := Lib.hid ((HC.out.below (by omega) ((Below.refl wr.heap.size wr).alloc (Nat.le_refl _) _)).below (by simp; omega) hb2); have hs2 : wr.heap.size < w2.heap.size := (by have := hb2.size; simp at this; omega); clear hb2) | (go_at_call 105; refine (HC2.out.put (by omega) (by omega) (by omega) a3_0 a3_1 (by have := step2_len a0_0 a0_1 a1_0 a1_1 a2_0 a2_1 a3_0 a3_1 1; omega)).mono ?_; rintro e w3 ⟨rfl, hC3, hs3⟩; have HC3 := Lib.hid hC3; clear hC3))
     go_roundw
     case rel => first | exact ⟨2, by go_num, by omega, by rw [HS.out]; exact HC3.out⟩ | ((repeat apply Exists.intro); exact ⟨⟨2, by go_num, by omega, by rw [HS.out]; exact HC3.out⟩, rfl⟩)
     case measure => simp [intOf]
    have ho := Bool.eq_false_iff.2 ho
    have HO := Lib.hid ho
    have HS := Lib.hid (show step2 a0_0 a0_1 a1_0 a1_1 a2_0 a2_1 a3_0 a3_1 2 = step2 a0_0 a0_1 a1_0 a1_1 a2_0 a2_1 a3_0 a3_1 1 by simp only [step2, ho, Bool.false_eq_true, if_false])
    clear ho
    go_wp2_with (first | (go_at_call 85; refine (on_calls _ false HO.out HIN.out).mono ?_; rintro e w2 ⟨rfl, hb2⟩; have z0 : w2.cell? ⟨wr.heap.size, 0, none⟩ = some (.int .i64 a3_0) := (hb2.cell (p := ⟨wr.heap.size, 0, none⟩) (by simp)).trans (by simp); have z1 : w2.cell? ⟨wr.heap.size, 1, none⟩ = some (.int .i64 a3_1) := (hb2.cell (p := ⟨wr.heap.size, 1, none⟩) (by simp)).trans (by simp); have HC2 := Lib.hid ((HC.out.below (by omega) ((Below.refl wr.heap.size wr).alloc (Nat.le_refl _) _)).below (by simp; omega) hb2); have hs2 : wr.heap.size < w2.heap.size := (by have := hb2.size; simp at this; omega); clear hb2))
    go_roundw
    case rel => first | exact ⟨2, by go_num, by omega, by rw [HS.out]; exact HC2.out⟩ | ((repeat apply Exists.intro); exact ⟨⟨2, by go_num, by omega, by rw [HS.out]; exact HC2.out⟩, rfl⟩)
    case measure => simp [intOf]
   rw [step2_ends] at hC
   obtain ⟨L, hL⟩ : ∃ L, L = Plane.endsL a0_0 a0_1 a1_0 a1_1 a2_0 a2_1 a3_0 a3_1 := ⟨_, rfl⟩
   have hLl : L.length ≤ 4 := by rw [hL, ← step2_ends]; exact step2_len _ _ _ _ _ _ _ _ _
   rw [← hL] at hC
   have H := H.out
   rw [← hL] at H
   simp only [Option.some.injEq, Prod.mk.injEq] at H
   obtain ⟨hr1, hr2⟩ := H
   obtain ⟨v, hbv, hR⟩ := hC.row
   obtain ⟨A, c, rfl, hc, hCC⟩ := Kd.R_reads hR
   rw [show (L.map ptS).length = L.length from List.length_map ..] at hbv hR hc hCC
   have qB : wr.cell? ⟨w.heap.size + 1 + 1 + 1 + 1, 0, none⟩ = some (.slice A L.length c) := blk_cell hbv 0
   have HBV := Lib.hid hbv
   have HBEL := Lib.hid hC.bel
   have HR1 := Lib.hid hr1
   have HR2 := Lib.hid hr2
   clear hr1 hr2 hL hC hbv
   cases L with
   | nil =>
    clear hR hCC
    go_wp2
    go_ret2
    exact ⟨_, by rw [← HR1.out]; rfl, by rw [← HR2.out]; exact Kd.R_nil _ _ _ _ _, HBEL.out⟩
   | cons p L2 =>
    obtain ⟨blk, c', hv⟩ := R_some hR (by simp)
    injection hv with hv1 hv2 hv3
    subst hv1 hv3
    obtain ⟨n, hn⟩ : ∃ n, n = (p :: L2).length := ⟨_, rfl⟩
    have hn1 : 1 ≤ n := by rw [hn]; simp
    have hn4 : n ≤ 4 := by omega
    have HSRT := Lib.hid (sort_fin (w.heap.size + 1 + 1 + 1 + 1) blk c p L2 n hn (by omega) w.heap.size (fun k => w.heap.size + 6 ≤ k ∧ k ≠ wo.heap.size) w wr HBEL.out HBV.out hR (fun k hk => by omega) HBEL.out.size)
    rw [← hn] at qB
    have hbb : w.heap.size ≤ blk := Kd.R_base hR blk rfl
    have HN := Lib.hid hn
    have hn0 : ((n : Int) == 0) = false := by simp; omega
    have hn6 : 0 < n := by omega
    have hn5 : (((n : Int) - 1)).toNat = n - 1 := by omega
    obtain ⟨⟨lo0, lo1⟩, hlo⟩ : ∃ z, Plane.loP p L2 = z := ⟨_, rfl⟩
    obtain ⟨⟨hi0, hi1⟩, hhi⟩ : ∃ z, Plane.hiP p L2 = z := ⟨_, rfl⟩
    rw [hlo, hhi] at HSRT
    clear hR hCC hc hn hLl
    by_cases hn2 : 1 < n
    rotate_left
    ·have hn3 : n = 1 := by omega
     have HE := Lib.hid (show Plane.endsP (p :: L2) = [(lo0, lo1, 1)] by cases L2 with | nil => (simp only [Plane.endsP]; have : p = (lo0, lo1) := hlo; rw [this]) | cons q L3 => (have := HN.out; simp at this; omega))
     have HN3 := Lib.hid hn3
     clear hn3 hlo hhi
     go_wp2_with (go_at_call 100; refine HSRT.out.mono ?_; rintro e w2 ⟨rfl, q2, z0, z1, z2, z3, hB2, hb2⟩; have hb4 : w.heap.size + 1 + 1 + 1 + 1 < w2.heap.size := World.block_lt_of_cell? _ _ q2; have HB3 := Lib.hid hB2; clear hB2)
     refine wp_region_still_tail 9 (by kernel_rfl) (by kernel_rfl) ?_
     change wpStill _ _ (World.drew _) (fun a' => wpList _ _ _ _ a' (World.drew _)) _ _
     simp only [List.take_succ_cons, List.take_zero, List.drop_succ_cons, List.drop_zero]
     repeat still_step
     refine wpStill_nil ?_
     go_wp2
     go_ret2
     refine ⟨_, by rw [← HR1.out, HE.out]; rfl, ?_, ?_⟩
     ·rw [← HR2.out, HE.out]
      exact R_one _ _ HB3.out.size lo0 lo1 1
     exact below_drew (below_alloc HB3.out _)
    have HE := Lib.hid (show Plane.endsP (p :: L2) = [(lo0, lo1, 1), (hi0, hi1, 1)] by cases L2 with | nil => (have := HN.out; simp at this; omega) | cons q L3 => (simp only [Plane.endsP, hlo, hhi]))
    clear hlo hhi
    go_wp2_with (go_at_call 100; refine HSRT.out.mono ?_; rintro e w2 ⟨rfl, q2, z0, z1, z2, z3, hB2, hb2⟩; have hb4 : w.heap.size + 1 + 1 + 1 + 1 < w2.heap.size := World.block_lt_of_cell? _ _ q2; have HB3 := Lib.hid hB2; clear hB2)
    refine wp_region_still_tail 9 (by kernel_rfl) (by kernel_rfl) ?_
    change wpStill _ _ (World.drew _) (fun a' => wpList _ _ _ _ a' (World.drew _)) _ _
    simp only [List.take_succ_cons, List.take_zero, List.drop_succ_cons, List.drop_zero]
    repeat still_step
    refine wpStill_nil ?_
    obtain ⟨w3, hw3⟩ : ∃ w3 : World, w3 = w2.drew := ⟨_, rfl⟩
    rw [← hw3]
    have q2' : w3.cell? ⟨w.heap.size + 1 + 1 + 1 + 1, 0, none⟩ = some (.slice (some ⟨blk, 0, none⟩) n c) := by rw [hw3]; exact q2
    have z0' : w3.cell? ⟨blk, 0, none⟩ = some (.int .i64 lo0) := by rw [hw3]; exact z0
    have z1' : w3.cell? ⟨blk, 1, none⟩ = some (.int .i64 lo1) := by rw [hw3]; exact z1
    have z2' : w3.cell? ⟨blk, (n - 1) * 2, none⟩ = some (.int .i64 hi0) := by rw [hw3]; exact z2
    have z3' : w3.cell? ⟨blk, (n - 1) * 2 + 1, none⟩ = some (.int .i64 hi1) := by rw [hw3]; exact z3
    have hb4' : w.heap.size + 1 + 1 + 1 + 1 < w3.heap.size := by rw [hw3]; exact hb4
    have hb2' : blk < w3.heap.size := by rw [hw3]; exact hb2
    have HB4 := Lib.hid (show Below w.heap.size w w3 by rw [hw3]; exact below_drew HB3.out)
    have hs3 : w.heap.size ≤ w3.heap.size := HB4.out.size
    clear q2 z0 z1 z2 z3 hb4 hb2 HB3 hw3 HSRT
    go_wp2_with (first | ((with_reducible refine gate_builtin (b := .append) (xs := #[.tmp 186, .tmp 192]) rfl ?_); at_builtin; refine Kd.R_append k41 (w0 := w) w.heap.size rfl (.tmp 186) (.tmp 192) 37 41 (.agg #[(.int .i64 0), (.int .i64 0), (.int .i64 0)]) 24 rfl Try.underlying37 info41 rfl (by decide) (by omega) (.slice (some ⟨w3.heap.size, 0, none⟩) 1 1) [(⟨lo0, lo1, 1⟩ : S41)] (⟨hi0, hi1, 1⟩ : S41) [.int .i64 hi0, .int .i64 hi1, .int .i64 1] (fun _ => True) (fun _ => False) rfl (by first | (go_simp; done) | (go_simp; rfl)) ?aP (fun _ hk => hk.elim) ?aF ?aO ?aB ?aS ?aL ?_; (case aP => exact k41_mkM _ _ _ (⟨hi0, hi1, 1⟩ : S41)); (case aF => exact fun _ _ => trivial); (case aO => exact Kd.R_alloc (R_one w3 _ hs3 lo0 lo1 1) _); (case aB => exact below_alloc (below_alloc HB4.out _) _); (case aS => simp; omega); (case aL => simp); intro v1 w4 ho1 hb1 hg1 hat1; obtain ⟨A1, c1, e1, _, _⟩ := Kd.R_reads ho1; subst e1; have HO1 := Lib.hid ho1; have HB5 := Lib.hid hb1; clear ho1 hb1 hg1 hat1))
    go_ret2
    refine ⟨_, by rw [← HR1.out, HE.out]; rfl, ?_, HB5.out⟩
    rw [← HR2.out, HE.out]
    exact HO1.out
set_option maxHeartbeats 8000000 in
set_option maxRecDepth 100000 in
theorem impl_crossing.calls (a0_0 : Int) (a0_1 : Int) (a1_0 : Int) (a1_1 : Int) (a2_0 : Int) (a2_1 : Int) (a3_0 : Int) (a3_1 : Int) (r1 : Int) (r2 : List (S41)) (w : World) (h : impl_crossing.f a0_0 a0_1 a1_0 a1_1 a2_0 a2_1 a3_0 a3_1 = some (r1, r2)) :
  Calls Try.prog 69 #[.agg #[.int .i64 a0_0, .int .i64 a0_1], .agg #[.int .i64 a1_0, .int .i64 a1_1], .agg #[.int .i64 a2_0, .int .i64 a2_1], .agg #[.int .i64 a3_0, .int .i64 a3_1]] w fun e w' => ∃ v1_ : Value, e = .returned (.tuple #[.int .i64 r1, v1_]) ∧ Kd.R k41 41 w' w.heap.size (fun _ => True) v1_ r2 ∧ Below w.heap.size w w' := by
 by_cases hd0' : (a1_0 - a0_0) * (a3_1 - a2_1) - (a1_1 - a0_1) * (a3_0 - a2_0) = 0
 ·exact crossing_par a0_0 a0_1 a1_0 a1_1 a2_0 a2_1 a3_0 a3_1 r1 r2 w hd0' h
 unfold impl_crossing.f at h
 by_cases hg : Plane.InAt a0_0 ∧ Plane.InAt a0_1 ∧ Plane.InAt a1_0 ∧ Plane.InAt a1_1 ∧ Plane.InAt a2_0 ∧ Plane.InAt a2_1 ∧ Plane.InAt a3_0 ∧ Plane.InAt a3_1
 case neg => rw [if_neg hg] at h; exact absurd h (by simp)
 rw [if_pos hg] at h
 unfold Plane.InAt at hg
 obtain ⟨⟨g1, g2⟩, ⟨g3, g4⟩, ⟨g5, g6⟩, ⟨g7, g8⟩, ⟨g9, g10⟩, ⟨g11, g12⟩, ⟨g13, g14⟩, ⟨g15, g16⟩⟩ := hg
 have HU := Kp.a (Below.refl w.heap.size w)
 obtain ⟨m1, m2⟩ := mulb (A := 200000) (B := 200000) (x := a1_0 - a0_0) (y := a3_1 - a2_1) (by omega) (by omega) (by omega) (by omega)
 obtain ⟨m3, m4⟩ := mulb (A := 200000) (B := 200000) (x := a1_1 - a0_1) (y := a3_0 - a2_0) (by omega) (by omega) (by omega) (by omega)
 obtain ⟨m5, m6⟩ := mulb (A := 200000) (B := 200000) (x := a2_0 - a0_0) (y := a3_1 - a2_1) (by omega) (by omega) (by omega) (by omega)
 obtain ⟨m7, m8⟩ := mulb (A := 200000) (B := 200000) (x := a2_1 - a0_1) (y := a3_0 - a2_0) (by omega) (by omega) (by omega) (by omega)
 obtain ⟨m9, m10⟩ := mulb (A := 200000) (B := 200000) (x := a2_0 - a0_0) (y := a1_1 - a0_1) (by omega) (by omega) (by omega) (by omega)
 obtain ⟨m11, m12⟩ := mulb (A := 200000) (B := 200000) (x := a2_1 - a0_1) (y := a1_0 - a0_0) (by omega) (by omega) (by omega) (by omega)
 have hu34 := Try.underlying34
 have e1 : IntKind.i64.wrap (a1_0 - a0_0) = a1_0 - a0_0 := IntWalk.i64_in _ (by omega)
 have e2 : IntKind.i64.wrap (a1_1 - a0_1) = a1_1 - a0_1 := IntWalk.i64_in _ (by omega)
 have e3 : IntKind.i64.wrap (a3_0 - a2_0) = a3_0 - a2_0 := IntWalk.i64_in _ (by omega)
 have e4 : IntKind.i64.wrap (a3_1 - a2_1) = a3_1 - a2_1 := IntWalk.i64_in _ (by omega)
 obtain ⟨p1, P1⟩ : ∃ p, (a1_0 - a0_0) * (a3_1 - a2_1) = p := ⟨_, rfl⟩
 obtain ⟨p2, P2⟩ : ∃ p, (a1_1 - a0_1) * (a3_0 - a2_0) = p := ⟨_, rfl⟩
 obtain ⟨p3, P3⟩ : ∃ p, (a2_0 - a0_0) * (a3_1 - a2_1) = p := ⟨_, rfl⟩
 obtain ⟨p4, P4⟩ : ∃ p, (a2_1 - a0_1) * (a3_0 - a2_0) = p := ⟨_, rfl⟩
 obtain ⟨p5, P5⟩ : ∃ p, (a2_0 - a0_0) * (a1_1 - a0_1) = p := ⟨_, rfl⟩
 obtain ⟨p6, P6⟩ : ∃ p, (a2_1 - a0_1) * (a1_0 - a0_0) = p := ⟨_, rfl⟩
 rw [P1] at m1 m2
 rw [P2] at m3 m4
 rw [P3] at m5 m6
 rw [P4] at m7 m8
 rw [P5] at m9 m10
 rw [P6] at m11 m12
 rw [P1, P2] at hd0'
 have hd : ¬ p1 - p2 = 0 := hd0'
 clear hd0'
 unfold Plane.crossP at h
 simp only [P1, P2, P3, P4, P5, P6] at h
 have H := Kp.a h
 clear h
 have hdb : (p1 - p2 != 0) = true := bne_iff_ne.2 hd
 by_cases hd0 : p1 - p2 < 0
 ·by_cases hout : -(p3 - p4) < 0 ∨ -(p3 - p4) > -(p1 - p2) ∨ -(p5 - p6) < 0 ∨ -(p5 - p6) > -(p1 - p2)
  ·have H2 := H.out
   rw [if_pos hd0] at H2
   unfold Plane.crossN at H2
   rw [if_pos hout] at H2
   simp only [List.map_nil, List.length_nil, Option.some.injEq, Prod.mk.injEq] at H2
   obtain ⟨hr1, hr2⟩ := H2
   have HR1 := Lib.hid hr1
   have HR2 := Lib.hid hr2
   clear hr1 hr2 H
   have cs : -(p3 - p4) < 0 ∨ (¬ -(p3 - p4) < 0 ∧ -(p1 - p2) < -(p3 - p4)) ∨ (¬ -(p3 - p4) < 0 ∧ ¬ -(p1 - p2) < -(p3 - p4) ∧ -(p5 - p6) < 0) ∨ (¬ -(p3 - p4) < 0 ∧ ¬ -(p1 - p2) < -(p3 - p4) ∧ ¬ -(p5 - p6) < 0 ∧ -(p1 - p2) < -(p5 - p6)) := by omega
   clear hout
   rcases cs with o1 | ⟨o1, o2⟩ | ⟨o1, o2, o3⟩ | ⟨o1, o2, o3, o4⟩
   all_goals
    go_enter Try.func69, Try.ntmps69
    go_wp2
    go_quiet (fail)
    go_wp2
    go_quiet (fail)
    go_wp2
    go_ret2
    exact ⟨_, by rw [← HR1.out]; rfl, by rw [← HR2.out]; exact Kd.R_nil _ _ _ _ _, pw_below_drewN (below4 w _ _ _ _) _⟩
  have o1 : ¬ -(p3 - p4) < 0 := by omega
  have o2 : ¬ -(p1 - p2) < -(p3 - p4) := by omega
  have o3 : ¬ -(p5 - p6) < 0 := by omega
  have o4 : ¬ -(p1 - p2) < -(p5 - p6) := by omega
  obtain ⟨n1, n2⟩ := mulb (A := 100000) (B := 80000000000) (x := a0_0) (y := -(p1 - p2)) (by omega) (by omega) (by omega) (by omega)
  obtain ⟨n3, n4⟩ := mulb (A := 80000000000) (B := 200000) (x := -(p3 - p4)) (y := a1_0 - a0_0) (by omega) (by omega) (by omega) (by omega)
  obtain ⟨n5, n6⟩ := mulb (A := 100000) (B := 80000000000) (x := a0_1) (y := -(p1 - p2)) (by omega) (by omega) (by omega) (by omega)
  obtain ⟨n7, n8⟩ := mulb (A := 80000000000) (B := 200000) (x := -(p3 - p4)) (y := a1_1 - a0_1) (by omega) (by omega) (by omega) (by omega)
  obtain ⟨k, hk⟩ := spot_ok (a0_0 * (-(p1 - p2)) + (-(p3 - p4)) * (a1_0 - a0_0)) (a0_1 * (-(p1 - p2)) + (-(p3 - p4)) * (a1_1 - a0_1)) (-(p1 - p2)) (by omega) (by omega) (by omega) (by omega)
  have H2 := H.out
  rw [if_pos hd0] at H2
  unfold Plane.crossN at H2
  rw [if_neg hout] at H2
  obtain ⟨⟨s1, s2, s3⟩, hs⟩ : ∃ s, Plane.spot3 (a0_0 * (-(p1 - p2)) + (-(p3 - p4)) * (a1_0 - a0_0)) (a0_1 * (-(p1 - p2)) + (-(p3 - p4)) * (a1_1 - a0_1)) (-(p1 - p2)) = s := ⟨_, rfl⟩
  rw [hs] at H2 hk
  simp only [List.map_cons, List.map_nil, List.length_cons, List.length_nil, Option.some.injEq, Prod.mk.injEq] at H2
  obtain ⟨hr1, hr2⟩ := H2
  have HR1 := Lib.hid hr1
  have HR2 := Lib.hid hr2
  have HK := Lib.hid hk
  clear hr1 hr2 hk hs H
  go_enter Try.func69, Try.ntmps69
  go_wp2
  go_quiet (fail)
  go_wp2
  go_quiet (fail)
  go_wp2_with (go_at_call 92; refine (impl_spotOf.calls k _ _ _ _ _ _ _ HK.out).mono ?_; rintro e w' ⟨rfl, hw'⟩; have HW := Lib.hid hw'; clear hw')
  go_ret2
  have hw' := HW.out
  have hb1 : Below w.heap.size w w' := (pw_below_drewN (below4 w _ _ _ _) _).trans (hw'.mono (by simp; omega))
  refine ⟨_, by rw [← HR1.out]; rfl, by rw [← HR2.out]; exact R_one w' _ hb1.size s1 s2 s3, below_alloc hb1 _⟩
 by_cases hout : p3 - p4 < 0 ∨ p3 - p4 > p1 - p2 ∨ p5 - p6 < 0 ∨ p5 - p6 > p1 - p2
 ·have H2 := H.out
  rw [if_neg hd0, if_pos (show 0 < p1 - p2 by omega)] at H2
  unfold Plane.crossN at H2
  rw [if_pos hout] at H2
  simp only [List.map_nil, List.length_nil, Option.some.injEq, Prod.mk.injEq] at H2
  obtain ⟨hr1, hr2⟩ := H2
  have HR1 := Lib.hid hr1
  have HR2 := Lib.hid hr2
  clear hr1 hr2 H
  have cs : p3 - p4 < 0 ∨ (¬ p3 - p4 < 0 ∧ p1 - p2 < p3 - p4) ∨ (¬ p3 - p4 < 0 ∧ ¬ p1 - p2 < p3 - p4 ∧ p5 - p6 < 0) ∨ (¬ p3 - p4 < 0 ∧ ¬ p1 - p2 < p3 - p4 ∧ ¬ p5 - p6 < 0 ∧ p1 - p2 < p5 - p6) := by omega
  clear hout
  rcases cs with o1 | ⟨o1, o2⟩ | ⟨o1, o2, o3⟩ | ⟨o1, o2, o3, o4⟩
  all_goals
   go_enter Try.func69, Try.ntmps69
   go_wp2
   go_quiet (fail)
   go_wp2
   go_quiet (fail)
   go_wp2
   go_ret2
   exact ⟨_, by rw [← HR1.out]; rfl, by rw [← HR2.out]; exact Kd.R_nil _ _ _ _ _, pw_below_drewN (below4 w _ _ _ _) _⟩
 have o1 : ¬ p3 - p4 < 0 := by omega
 have o2 : ¬ p1 - p2 < p3 - p4 := by omega
 have o3 : ¬ p5 - p6 < 0 := by omega
 have o4 : ¬ p1 - p2 < p5 - p6 := by omega
 obtain ⟨n1, n2⟩ := mulb (A := 100000) (B := 80000000000) (x := a0_0) (y := p1 - p2) (by omega) (by omega) (by omega) (by omega)
 obtain ⟨n3, n4⟩ := mulb (A := 80000000000) (B := 200000) (x := p3 - p4) (y := a1_0 - a0_0) (by omega) (by omega) (by omega) (by omega)
 obtain ⟨n5, n6⟩ := mulb (A := 100000) (B := 80000000000) (x := a0_1) (y := p1 - p2) (by omega) (by omega) (by omega) (by omega)
 obtain ⟨n7, n8⟩ := mulb (A := 80000000000) (B := 200000) (x := p3 - p4) (y := a1_1 - a0_1) (by omega) (by omega) (by omega) (by omega)
 obtain ⟨k, hk⟩ := spot_ok (a0_0 * (p1 - p2) + (p3 - p4) * (a1_0 - a0_0)) (a0_1 * (p1 - p2) + (p3 - p4) * (a1_1 - a0_1)) (p1 - p2) (by omega) (by omega) (by omega) (by omega)
 have H2 := H.out
 rw [if_neg hd0, if_pos (show 0 < p1 - p2 by omega)] at H2
 unfold Plane.crossN at H2
 rw [if_neg hout] at H2
 obtain ⟨⟨s1, s2, s3⟩, hs⟩ : ∃ s, Plane.spot3 (a0_0 * (p1 - p2) + (p3 - p4) * (a1_0 - a0_0)) (a0_1 * (p1 - p2) + (p3 - p4) * (a1_1 - a0_1)) (p1 - p2) = s := ⟨_, rfl⟩
 rw [hs] at H2 hk
 simp only [List.map_cons, List.map_nil, List.length_cons, List.length_nil, Option.some.injEq, Prod.mk.injEq] at H2
 obtain ⟨hr1, hr2⟩ := H2
 have HR1 := Lib.hid hr1
 have HR2 := Lib.hid hr2
 have HK := Lib.hid hk
 clear hr1 hr2 hk hs H
 go_enter Try.func69, Try.ntmps69
 go_wp2
 go_quiet (fail)
 go_wp2
 go_quiet (fail)
 go_wp2_with (go_at_call 92; refine (impl_spotOf.calls k _ _ _ _ _ _ _ HK.out).mono ?_; rintro e w' ⟨rfl, hw'⟩; have HW := Lib.hid hw'; clear hw')
 go_ret2
 have hw' := HW.out
 have hb1 : Below w.heap.size w w' := (pw_below_drewN (below4 w _ _ _ _) _).trans (hw'.mono (by simp; omega))
 refine ⟨_, by rw [← HR1.out]; rfl, by rw [← HR2.out]; exact R_one w' _ hb1.size s1 s2 s3, below_alloc hb1 _⟩
end Go.Proofs.Ytgnhcdchpeeoaaa.PW


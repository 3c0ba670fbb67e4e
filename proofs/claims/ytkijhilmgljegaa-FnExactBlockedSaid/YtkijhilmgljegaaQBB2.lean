import Derived.Test.YtkijhilmgljegaaQBB0
import Derived.Test.YtkijhilmgljegaaVBk
import Derived.Test.YtkijhilmgljegaaQBB1
import Derived.Lib.Hide
import Derived.Shelf.GgSortFunc.Tiny
import Derived.StillTailTactics
import Derived.Test.YtkijhilmgljegaaQBBySize
import Derived.Test.YtkijhilmgljegaaQBSort
import Derived.Test.YtkijhilmgljegaaQBSymW
namespace Go.Proofs.Ytkijhilmgljegaa.PB
open Go.RowKit Go.Proofs.YtkijhilmgljegaaW.PrintWords Go.Proofs.YtkijhilmgljegaaW.PrintLast Go.Proofs.YtkijhilmgljegaaW.PrintMore
attribute [local go_sem] max2_int min2_int max_two min_two max_three min_three max_four min_four
set_option linter.unusedVariables false
set_option linter.unusedSimpArgs false
def impl_bySize.f (l0 : List Int) : Option (List Int) := if l0.length ≤ 1048576 then some (BySize.bySizeP l0) else none
structure BS (w wr : World) (S B : Nat) (A0 : Option Addr) (n c0 : Nat) (v : Value) (xs : List Int) : Prop where
 eS : S = w.heap.size
 bel : Below w.heap.size w wr
 bl : wr.heap[S]? = some (.cells #[.slice A0 n c0] 22 (0, 0))
 ba : wr.heap[B]? = some (.cells #[v] 22 (0, 0))
 row : Kd.R (Kd.int .i64) 3 wr S (fun k => k ≠ S ∧ k ≠ B) v xs
theorem BS.put {w wr : World} {S B : Nat} {A0 : Option Addr} {n c0 g cap : Nat} {xs : List Int} (h : BS w wr S B A0 n c0 (.slice (some ⟨g, 0, none⟩) n cap) xs) (i : Nat) (x : Int) :
  BS w (wr.setCell ⟨g, i, none⟩ (.int .i64 x)) S B A0 n c0 (.slice (some ⟨g, 0, none⟩) n cap) (xs.set i x) := by
 have hg := h.row.1 g rfl
 have hb := Kd.R_base h.row g rfl
 have hp := (Kd.R_putg h.row (i : Int) x).1
 rw [Int.toNat_natCast] at hp
 exact ⟨h.eS, below_set h.bel (h.eS ▸ hb), (Below.heap_setCell wr ⟨g, i, none⟩ _ S (fun e => hg.1 e.symm)).trans h.bl, (Below.heap_setCell wr ⟨g, i, none⟩ _ B (fun e => hg.2 e.symm)).trans h.ba, hp⟩
def encN (n x : Nat) : Value := .int .i64 ((x % n : Nat) : Int)
theorem holds_of_N {W : World} {base : Nat} {ok : Nat → Prop} {g c n : Nat} {l : List Int} (hl : l.length = n) (ho : Kd.R (Kd.int .i64) 3 W base ok (.slice (some ⟨g, 0, none⟩) n c) ((Array.range n).toList.map (BySize.num l))) :
  Sort.Holds (encN n) W g 0 (Array.range n) ∧ (0 < n → g < W.heap.size) := by
 subst hl
 refine ⟨fun j hj => ?_, fun _ => Kd.R_lt ho g rfl⟩
 have hj' : j < l.length := by simpa using hj
 obtain ⟨h1, h2⟩ := Kd.R_celln 0 ho (j : Int) (by omega) (by omega)
 rw [Int.toNat_natCast] at h1 h2
 rw [Nat.zero_add]
 refine ⟨h1.trans ?_, h2⟩
 simp [rdOf, encN, BySize.num, hj', Nat.mod_eq_of_lt hj']
theorem sw_block {n : Nat} {W : World} {g m : Nat} {dk : Array Nat} {os : Array Obj} {cur : Array Value} {e : TypeId} {fr : Nat × Nat} (h : W.heap[g]? = some (.cells cur e fr)) :
  (Sort.grow (Sort.putRow (encN n) (Sort.ahead W m) g 0 dk) os).heap[g]? = some (.cells (Sort.putCells (encN n) 0 dk cur) e fr) := by
 have hb := blk_lt h
 rw [Sort.heap_grow_old _ _ (by rw [Sort.size_putRow]; exact hb)]
 unfold Sort.putRow Sort.mapBlock
 simp only [Array.getElem?_modify, if_true, Sort.heap_ahead, h, Option.map_some, Sort.onCells]
theorem sw_other {n : Nat} {W : World} {g m : Nat} {dk : Array Nat} {os : Array Obj} {k : Nat} (hk : k < W.heap.size) (hne : k ≠ g) : (Sort.grow (Sort.putRow (encN n) (Sort.ahead W m) g 0 dk) os).heap[k]? = W.heap[k]? := by
 rw [Sort.heap_grow_old _ _ (by rw [Sort.size_putRow]; exact hk)]
 unfold Sort.putRow Sort.mapBlock
 simp only [Array.getElem?_modify, if_neg (Ne.symm hne), Sort.heap_ahead]
theorem sw_grown {n : Nat} {W : World} {g m : Nat} {dk : Array Nat} {os : Array Obj} : W.grownBy (Sort.grow (Sort.putRow (encN n) (Sort.ahead W m) g 0 dk) os) (some g) :=
 ⟨rfl, rfl, rfl, by rw [Sort.size_grow, Sort.size_putRow]; exact Nat.le_add_right _ _, fun k hk hne => sw_other hk (fun h => hne (by rw [h]))⟩
theorem R_sortedN {W : World} {base : Nat} {ok : Nat → Prop} {g c n m : Nat} {l : List Int} {os : Array Obj} (hl : l.length = n) (hn : 0 < n) (ho : Kd.R (Kd.int .i64) 3 W base ok (.slice (some ⟨g, 0, none⟩) n c) ((Array.range n).toList.map (BySize.num l)))
  (d' : Array Nat) (hd : d'.size = n) : Kd.R (Kd.int .i64) 3 (Sort.grow (Sort.putRow (encN n) (Sort.ahead W m) g 0 d') os) base ok (.slice (some ⟨g, 0, none⟩) n c) (d'.toList.map (BySize.num l)) := by
 obtain ⟨h0, inner, ⟨hlen, hown⟩, hr⟩ := ho
 have hlen0 : ((Array.range n).toList.map (BySize.num l)).length = n := by simp
 rw [hlen0] at hlen hown
 rcases hown with ⟨h1, h2⟩ | ⟨g', cap, cur, hv, hb, hh, hc1, hc2, hc3, hc4⟩
 ·simp at h1
 injection hv with hv1 hv2 hv3
 injection hv1 with hv1
 injection hv1 with hv1
 subst hv1 hv3
 have hsz : (Kd.int .i64).sz = 1 := rfl
 rw [hsz] at hc3 hc4 hlen
 have hb2 := sw_block (n := n) (m := m) (dk := d') (os := os) hh
 have hdl : (d'.toList.map (BySize.num l)).length = n := by simpa using hd
 have hcl : (d'.toList.map (encN n)).length = n := by simpa using hd
 refine ⟨h0, d'.toList.map (encN n), ⟨?_, .inr ⟨g, c, _, ?_, hb, hb2, ?_, hc2, ?_, ?_⟩⟩, ?_⟩
 ·rw [hcl, hdl, hsz, Nat.mul_one]
 ·rw [hdl]
 ·rw [hdl]; exact hc1
 ·rw [hsz]; simp [Sort.putCells, hc3]
 ·rw [hsz, hdl]
  apply List.ext_getElem?
  intro j
  by_cases hj : j < n
  rotate_left
  ·rw [List.getElem?_eq_none (by rw [List.length_take]; omega), List.getElem?_eq_none (by omega)]
  have hcs : n ≤ cur.size := by rw [hc3]; omega
  rw [List.getElem?_take_of_lt (by omega)]
  have e1 : j < d'.size := by omega
  simp [Sort.putCells, e1, show j < cur.size by omega]
 refine ⟨by rw [hcl, hdl]; show n = n * 1; omega, fun j p hj => ?_⟩
 have hj' : j < n := by rw [← hdl]; exact (List.getElem?_eq_some_iff.1 hj).1
 rw [List.getElem?_map] at hj
 have e1 : j < d'.size := by omega
 simp only [Array.getElem?_toList, Array.getElem?_eq_getElem e1, Option.map_some, Option.some.injEq] at hj
 show (((d'.toList.map (encN n)).drop (j * 1)).take 1) = [Value.int .i64 p]
 rw [Nat.mul_one, List.drop_eq_getElem_cons (by omega), List.take_succ_cons, List.take_zero]
 simp [encN, ← hj, BySize.num, hl]
set_option maxHeartbeats 2000000 in
set_option maxRecDepth 100000 in
theorem bs_less (W : World) (S B g n c c0 : Nat) (A0 : Option Addr) (ad : Addr) (hA : A0 = some ad) (G : Nat → Nat) (L : Nat → Int) (hS : W.cell? ⟨S, 0, none⟩ = some (.slice A0 n c0)) (hB : W.cell? ⟨B, 0, none⟩ = some (.slice (some ⟨g, 0, none⟩) n c))
  (hG : ∀ t, t < n → G t < n) (hrow : ∀ t, t < n → W.cell? ⟨g, t, none⟩ = some (.int .i64 (G t : Nat))) (hL : ∀ t, t < n → W.cell? (ad.add t) = some (.int .i64 (L t))) (i j : Nat) (hi : i < n) (hj : j < n) (hn : n ≤ 1048576) :
  Calls Try.prog 29 #[.int .i64 i, .int .i64 j, .pointer (some ⟨S, 0, none⟩), .pointer (some ⟨B, 0, none⟩)] W fun e w' => e = .returned (.bool (decide (L (G i) < L (G j)))) ∧ ∃ q, w' = W.drewN q := by
 subst hA
 have ri := hrow i hi
 have rj := hrow j hj
 have gi := hG i hi
 have gj := hG j hj
 have li := hL (G i) gi
 have lj := hL (G j) gj
 generalize hx : L (G i) = x at *
 generalize hy : L (G j) = y at *
 generalize G i = p at *
 generalize G j = q at *
 clear hrow hG hL hx hy
 go_enter Try.func29, Try.ntmps29
 go_wp2
 go_quiet (fail)
 go_wp2
 go_ret
 exact ⟨rfl, nq, rfl⟩
noncomputable def bsT : TypeInfo := (Try.prog.info? 22).get (by kernel_rfl)
noncomputable def bsE : TypeInfo := (Try.prog.info? 3).get (by kernel_rfl)
theorem bsK (n : Nat) (h2 : 2 ≤ n) : Lib.swapperK n bsE 2 = 5 := by
 have a : bsE.hasPointers = false := by kernel_rfl
 have b : bsE.bytes = 8 := by kernel_rfl
 have c : (n == 0) = false := by simp; omega
 have d : (n == 1) = false := by simp; omega
 simp [Lib.swapperK, a, b, c, d]
theorem bs_sort (w W : World) (S B g c c0 : Nat) (A0 : Option Addr) (l : List Int) (n : Nat) (hl : l.length = n) (h2 : 2 ≤ n) (hn : n ≤ 1048576) (hC : Kd.C (Kd.int .i64) w A0 n l) (H : BS w W S B A0 n c0 (.slice (some ⟨g, 0, none⟩) n c) ((Array.range n).toList.map (BySize.num l))) :
  Calls Try.prog 28 #[.iface 22 (.slice (some ⟨g, 0, none⟩) n c), .func (.func 29) #[] #[.pointer (some ⟨S, 0, none⟩), .pointer (some ⟨B, 0, none⟩)]] W fun e w' =>
   e = .returned (.tuple #[]) ∧ BS w w' S B A0 n c0 (.slice (some ⟨g, 0, none⟩) n c) (BySize.bySizeP l) := by
 obtain ⟨hH, hg'⟩ := holds_of_N hl H.row
 have hg := hg' (by omega)
 obtain ⟨gS, gB⟩ := H.row.1 g rfl
 have hgb := Kd.R_base H.row g rfl
 obtain ⟨ad, eA, _⟩ := Kd.at_int hC 0 (by omega) (by omega)
 have hL : ∀ t, t < n → w.cell? (ad.add t) = some (.int .i64 (l.getD t 0)) := fun t ht => by
  obtain ⟨ad', e', hc⟩ := Kd.at_int hC (t : Int) (by omega) (by omega)
  rw [eA] at e'; injection e' with e'; subst e'
  rw [Int.toNat_natCast] at hc
  rw [hc]; simp [rd]
 have hz : (Array.range n).size = n := by simp
 have hless : LessReads Try.prog 29 #[.pointer (some ⟨S, 0, none⟩), .pointer (some ⟨B, 0, none⟩)] (encN n) (BySize.ltK l) g 0 (Array.range n).size W := by
  rw [hz]
  intro m os dk hk i j hi hj
  have ec : ∀ a : Addr, a.block ≠ g → a.block < W.heap.size → (sortWorld (encN n) W g 0 m dk os).cell? a = W.cell? a := fun a h1 h3 => Sym.cell_sw (encN n) W g 0 m dk os a h1 h3
  have hh : Sort.Holds (encN n) (sortWorld (encN n) W g 0 m dk os) g 0 dk := holds_sortWorld (encN n) W g 0 m (Array.range n) dk os hg hH (by rw [hk, hz])
  refine (bs_less (sortWorld (encN n) W g 0 m dk os) S B g n c c0 A0 ad eA (fun t => dk[t]! % n) (fun t => l.getD t 0) ?_ ?_ ?_ ?_ ?_ i j hi hj hn).mono ?_
  ·rw [ec _ (fun e => gS e.symm) (blk_lt H.bl)]; exact blk_cell H.bl 0
  ·rw [ec _ (fun e => gB e.symm) (blk_lt H.ba)]; exact blk_cell H.ba 0
  ·intro t ht; exact Nat.mod_lt _ (by omega)
  ·intro t ht
   have := (hh t (by omega)).1
   rw [Nat.zero_add] at this
   exact this
  ·intro t ht
   have h1 := hL t ht
   have hb := World.block_lt_of_cell? w _ h1
   have hbS : (ad.add t).block < S := by rw [H.eS]; exact hb
   rw [ec _ (by omega) (by have := blk_lt H.bl; omega), H.bel.cell hb]
   exact h1
  rintro e w' ⟨rfl, q, rfl⟩
  refine ⟨?_, q, rfl⟩
  simp only [BySize.ltK, BySize.key, hl]
 have hs := Sym.SliceStable_w Try.sv8 22 3 bsT bsE (by kernel_rfl) (by kernel_rfl) (by kernel_rfl) (by kernel_rfl) 2 (fun _ => by kernel_rfl) (by kernel_rfl) (fun _ => by kernel_rfl) (encN n) (fun _ => rfl) (BySize.ltK l) 29 #[.pointer (some ⟨S, 0, none⟩), .pointer (some ⟨B, 0, none⟩)]
  (enters_of Try.func29 (by kernel_rfl) rfl) g 0 c (Array.range n) (by omega) (by omega) 44 (by rw [hz, bsK _ h2]; kernel_rfl) true
  (fun args W => run_callFunc_extern Try.func44 (by kernel_rfl) (by kernel_rfl) (by kernel_rfl) (e := Extern.ReflectliteSwapper.swap true) (by kernel_rfl) args W) W hless hH hg
 rw [hz] at hs
 have hs' : Calls Try.prog 28 #[.iface 22 (.slice (some ⟨g, 0, none⟩) n c), .func (.func 29) #[] #[.pointer (some ⟨S, 0, none⟩), .pointer (some ⟨B, 0, none⟩)]] W _ := hs
 refine hs'.mono ?_
 rintro e w' ⟨rfl, m, os, rfl⟩
 refine ⟨rfl, H.eS, H.bel.grown sw_grown (by have := blk_lt H.bl; have := H.eS; omega) (fun k hk => by injection hk with hk; have := H.eS; omega), (sw_other (blk_lt H.bl) (fun e => gS e.symm)).trans H.bl, (sw_other (blk_lt H.ba) (fun e => gB e.symm)).trans H.ba, ?_⟩
 have hd : (Sym.stable (BySize.ltK l) (Array.range n)).size = n := by rw [Sym.size_stable, hz]
 have := R_sortedN (m := m) (os := os) hl (by omega) H.row (Sym.stable (BySize.ltK l) (Array.range n)) hd
 rw [BySize.bySizeP, hl]
 exact this
theorem bs_tiny (w W : World) (S B c0 : Nat) (A0 : Option Addr) (l : List Int) (n : Nat) (hl : l.length = n) (h2 : n ≤ 1) (Aq : Option Addr) (cq : Nat) (H : BS w W S B A0 n c0 (.slice Aq n cq) ((Array.range n).toList.map (BySize.num l))) :
  Calls Try.prog 28 #[.iface 22 (.slice Aq n cq), .func (.func 29) #[] #[.pointer (some ⟨S, 0, none⟩), .pointer (some ⟨B, 0, none⟩)]] W fun e w' =>
   e = .returned (.tuple #[]) ∧ BS w w' S B A0 n c0 (.slice Aq n cq) (BySize.bySizeP l) := by
 have hk : Lib.swapperK n bsE 2 = 1 ∨ Lib.swapperK n bsE 2 = 2 := by
  have : n = 0 ∨ n = 1 := by omega
  rcases this with rfl | rfl
  ·left; simp [Lib.swapperK]
  right; simp [Lib.swapperK]
 obtain ⟨f, hf⟩ : ∃ f, Try.prog.funcs.findIdx? (·.name == "internal/reflectlite" ++ ".Swapper$" ++ toString (Lib.swapperK n bsE 2)) = some f := by
  rcases hk with h | h
  ·exact ⟨40, by rw [h]; kernel_rfl⟩
  exact ⟨41, by rw [h]; kernel_rfl⟩
 have hs := Any.sort_SliceStable_tiny Try.sv8 22 3 bsT bsE (by kernel_rfl) (by kernel_rfl) (by kernel_rfl) (by kernel_rfl) 2 (fun _ => by kernel_rfl) Aq n cq h2 f hf (.func 29) #[] #[.pointer (some ⟨S, 0, none⟩), .pointer (some ⟨B, 0, none⟩)] W
 have hs' : Calls Try.prog 28 #[.iface 22 (.slice Aq n cq), .func (.func 29) #[] #[.pointer (some ⟨S, 0, none⟩), .pointer (some ⟨B, 0, none⟩)]] W _ := hs
 refine hs'.mono ?_
 rintro e w' ⟨rfl, os, rfl⟩
 have hb : Below W.heap.size W (Sort.grow W os) := ⟨rfl, rfl, rfl, by rw [Sort.size_grow]; omega, fun k hk => Sort.heap_grow_old W os hk⟩
 have he : Sym.stable (BySize.ltK l) (Array.range n) = Array.range n := Sym.stable_tiny _ _ (by simpa using h2)
 refine ⟨rfl, H.eS, H.bel.trans (hb.mono (by have := blk_lt H.bl; have := H.eS; omega)), (Sort.heap_grow_old W os (blk_lt H.bl)).trans H.bl, (Sort.heap_grow_old W os (blk_lt H.ba)).trans H.ba, ?_⟩
 rw [BySize.bySizeP, hl, he]
 exact Kd.R_below H.row hb
theorem bs_new (w : World) (o : Obj) : (w.alloc o).heap[w.heap.size]? = some o := by
 show (w.heap.push o)[w.heap.size]? = some o
 simp
set_option maxHeartbeats 8000000 in
set_option maxRecDepth 100000 in
theorem impl_bySize.calls (A0 : Option Addr) (c0 : Nat) (l0 : List Int) (r : List Int) (w : World) (hr0 : Kd.C (Kd.int .i64) w A0 l0.length l0) (hc0 : l0.length ≤ c0) (h : impl_bySize.f l0 = some r) :
  Calls Try.prog 21 #[.slice A0 l0.length c0] w fun e w' => ∃ v0_ : Value, e = .returned (v0_) ∧ Kd.R (Kd.int .i64) 3 w' w.heap.size (fun _ => True) v0_ r ∧ Below w.heap.size w w' := by
 have hl : l0.length ≤ 1048576 := by
  unfold impl_bySize.f at h; split at h
  ·assumption
  exact absurd h (by simp)
 have hr : r = BySize.bySizeP l0 := by
  unfold impl_bySize.f at h; rw [if_pos hl] at h; exact (Option.some.inj h).symm
 obtain ⟨n, hn⟩ : ∃ n, l0.length = n := ⟨_, rfl⟩
 rw [hn] at hr0 hc0 hl ⊢
 have HR := Lib.hid hr
 have HC := Lib.hid hr0
 have HN := Lib.hid hn
 clear hr h hr0 hn
 go_enter Try.func21, Try.ntmps21
 have h00 : (0 : Int) ≤ (n : Int) := by omega
 go_wp2_with (first | ((with_reducible refine gate_dst (N := 7) rfl ?_); refine Kd.R_make (Kd.int .i64) _ 3 rfl (N := 7) rfl 22 _ _ rfl (n : Int) rfl rfl Try.underlying22 (.int .i64 0) 8 info3 rfl (by decide) (by omega) 0 (ok := fun k => k ≠ w.heap.size) (okp := fun _ => False) rfl (fun _ hk => hk.elim) (by simp) h00 (by omega) (Below.refl _ _) (Nat.le_refl _) ?_; intro v4 w4 ho5 hb5 hg5 hn5; obtain ⟨Aq, cq, e4⟩ : ∃ Aq cq, v4 = .slice Aq n cq := (by obtain ⟨Aq, cq, e⟩ := Kd.R_slice ho5; exact ⟨Aq, cq, by simpa using e⟩); subst e4; have HO := Lib.hid ho5; have HB := Lib.hid hb5; clear ho5 hb5 hg5 hn5))
 have hB0 : Below w.heap.size w w4 := ((Below.refl _ _).alloc (Nat.le_refl _) _).trans (HB.out.mono (by simp))
 have hsz4 : w.heap.size < w4.heap.size := by have := HB.out.size; simp at this; omega
 have hS4 : w4.heap[w.heap.size]? = some (.cells #[.slice A0 n c0] 22 (0, 0)) := by
  rw [HB.out.block w.heap.size (by simp)]; exact bs_new _ _
 have hbs : BS w (w4.alloc (.cells #[.slice Aq n cq] 22)) w.heap.size w4.heap.size A0 n c0 (.slice Aq n cq) (BySize.initL n 0) := by
  refine ⟨rfl, hB0.alloc (by omega) _, blk_alloc hS4 _, bs_new _ _, ?_⟩
  have h1 := HO.out
  rw [Int.toNat_natCast, ← BySize.initL_zero] at h1
  have h2 := Kd.R_lower (base' := w.heap.size) h1 (by simp)
  have h3 : Kd.R (Kd.int .i64) 3 w4 w.heap.size (fun k => k ≠ w.heap.size ∧ k ≠ w4.heap.size) (.slice Aq n cq) (BySize.initL n 0) :=
   Kd.R_mono (Kd.R_bound h2) (fun k hk => ⟨hk.1, by have := hk.2.2.1; omega⟩)
  exact Kd.R_below h3 ((Below.refl _ _).alloc (Nat.le_refl _) _)
 obtain ⟨B, hBe⟩ : ∃ B, B = w4.heap.size := ⟨_, rfl⟩
 obtain ⟨W1, hW1⟩ : ∃ W1, W1 = w4.alloc (.cells #[.slice Aq n cq] 22) := ⟨_, rfl⟩
 rw [← hW1] at hbs ⊢
 rw [← hBe] at hbs ⊢
 clear hW1 hBe hsz4 hS4 hB0 HO HB
 go_loopg [10] n (fun k s10 wr => ∃ i : Nat, s10 = .int .i64 i ∧ i ≤ n ∧ n - i ≤ k ∧ BS w wr w.heap.size B A0 n c0 (.slice Aq n cq) (BySize.initL n i))
 case atStart => exact ⟨0, rfl, by omega, by omega, hbs⟩
 clear hbs
 obtain ⟨i, rfl, hi, hk, H⟩ := hrel
 have qB := blk_cell H.ba 0
 by_cases hlt : i < n
 ·obtain ⟨g, cap, e, hb, hgl, _⟩ := Kd.R_form H.row (by rw [BySize.initL_len]; omega)
  rw [BySize.initL_len] at e
  injection e with e1 _ e3
  subst e1 e3
  obtain ⟨x1, x2⟩ := Kd.R_celln 0 H.row (i : Int) (by omega) (by omega)
  rw [Int.toNat_natCast] at x1 x2
  have H2 := H.put i (i : Int)
  rw [BySize.initL_set n i hlt] at H2
  have hlt2 : (i : Int) < (n : Int) := by omega
  have hnn : n ≤ 1048576 := hl
  clear H hb hgl
  go_wp2
  go_roundg (n - (i + 1))
  case measure => omega
  case rel => exact ⟨i + 1, by go_num, hlt, Nat.le_refl _, H2⟩
 obtain rfl : i = n := by omega
 have H1 : BS w wr w.heap.size B A0 i c0 (.slice Aq i cq) ((Array.range i).toList.map (BySize.num l0)) := by
  have := H; rw [← HN.out, BySize.initL_all] at this; rw [← HN.out]; exact this
 have hs : Calls Try.prog 28 #[.iface 22 (.slice Aq i cq), .func (.func 29) #[] #[.pointer (some ⟨w.heap.size, 0, none⟩), .pointer (some ⟨B, 0, none⟩)]] wr fun e w' =>
   e = .returned (.tuple #[]) ∧ BS w w' w.heap.size B A0 i c0 (.slice Aq i cq) (BySize.bySizeP l0) := by
  by_cases h2 : 2 ≤ i
  rotate_left
  ·exact bs_tiny w wr w.heap.size B c0 A0 l0 i HN.out (by omega) Aq cq H1
  obtain ⟨g, cap, e, _⟩ := Kd.R_form H.row (by rw [BySize.initL_len]; omega)
  rw [BySize.initL_len] at e
  injection e with e1 _ e3
  subst e1 e3
  exact bs_sort w wr w.heap.size B g cq c0 A0 l0 i HN.out h2 hl HC.out H1
 clear H H1
 go_wp2_with (go_at_call 28; refine hs.mono ?_; rintro e w2 ⟨rfl, H3⟩; have q3 := blk_cell H3.ba 0)
 go_ret
 refine ⟨_, rfl, ?_, H3.bel⟩
 rw [HR.out]
 exact Kd.R_mono H3.row (fun _ _ => trivial)
mutual
def impl_Matched.l0 : Nat → List Int → List Int → Int → Int → List Bool → List (S37) → List Int → List Int → Int → Int → Option ((List (S37)) × Int)
 | 0, _, _, _, _, _, _, _, _, _, _ => none
 | k + 1, x0, x1, x2, x3, x11, x12, x13, x33, x34, x35 => if x35 < x34 then (if 0 ≤ x35 then (if x35 < (x33.length : Int) then (impl_Matched.l1 k x0 x1 x2 x3 x11 x12 x13 (rd x33 x35) x33 x34 x35 x13 (x13.length : Int) 0) else (none)) else (none)) else (some (x12, 0))
def impl_Matched.l1 : Nat → List Int → List Int → Int → Int → List Bool → List (S37) → List Int → Int → List Int → Int → Int → List Int → Int → Int → Option ((List (S37)) × Int)
 | 0, _, _, _, _, _, _, _, _, _, _, _, _, _, _ => none
 | k + 1, x0, x1, x2, x3, x11, x12, x13, x15, x33, x34, x35, x39, x40, x41 => if x41 < x40 then (if 0 ≤ x41 then (if x41 < (x39.length : Int) then (if 0 ≤ x15 then (if x15 < (x0.length : Int) then (if 0 ≤ (rd x39 x41) then (if (rd x39 x41) < (x1.length : Int) then (if (rd x39 x41) < (x11.length : Int) then (if (rdOf false x11 (rd x39 x41) = true) then (impl_Matched.l1 k x0 x1 x2 x3 x11 x12 x13 x15 x33 x34 x35 x39 x40 (wrap64 (x41 + 1))) else (if (wrap64 ((rd x0 x15) - (rd x1 (rd x39 x41)))) ≥ x2 then (if (wrap64 ((rd x0 x15) - (rd x1 (rd x39 x41)))) ≤ x3 then (if x12.length < 8796093022208 then (impl_Matched.l0 k x0 x1 x2 x3 (x11.set ((rd x39 x41) : Int).toNat true) (x12 ++ [(⟨x15, rd x39 x41⟩ : S37)]) x13 x33 x34 (wrap64 (x35 + 1))) else (none)) else (impl_Matched.l1 k x0 x1 x2 x3 x11 x12 x13 x15 x33 x34 x35 x39 x40 (wrap64 (x41 + 1)))) else (impl_Matched.l1 k x0 x1 x2 x3 x11 x12 x13 x15 x33 x34 x35 x39 x40 (wrap64 (x41 + 1))))) else (none)) else (none)) else (none)) else (none)) else (none)) else (none)) else (none)) else (impl_Matched.l0 k x0 x1 x2 x3 x11 x12 x13 x33 x34 (wrap64 (x35 + 1)))
end
def impl_Matched.f (k : Nat) (l0 : List Int) (l1 : List Int) (a2 : Int) (a3 : Int) : Option ((List (S37)) × Int) := (impl_matesCode.f k l0 l1 a2 a3).bind fun t116 => (if t116 = 0 then (if 0 ≤ (l1.length : Int) then (if ((l1.length : Int) : Int).toNat ≤ 281474976710656 then ((impl_bySize.f l1).bind fun t120 => ((impl_bySize.f l0).bind fun t123 => (impl_Matched.l0 k l0 l1 a2 a3 (List.replicate ((l1.length : Int) : Int).toNat false) ([] : List (S37)) t120 t123 (t123.length : Int) 0))) else (none)) else (none)) else (some (([] : List (S37)), t116)))
set_option maxHeartbeats 8000000 in
set_option maxRecDepth 100000 in
theorem impl_Matched.calls (k : Nat) (A0 : Option Addr) (c0 : Nat) (l0 : List Int) (A1 : Option Addr) (c1 : Nat) (l1 : List Int) (a2 : Int) (a3 : Int) (r1 : List (S37)) (r2 : Int) (w : World) (hr0 : Kd.C (Kd.int .i64) w A0 l0.length l0) (hc0 : l0.length ≤ c0) (hr1 : Kd.C (Kd.int .i64) w A1 l1.length l1) (hc1 : l1.length ≤ c1) (h : impl_Matched.f k l0 l1 a2 a3 = some (r1, r2)) :
  Calls Try.prog 8 #[.slice A0 l0.length c0, .slice A1 l1.length c1, .int .i64 a2, .int .i64 a3] w fun e w' => ∃ v0_ : Value, e = .returned (.tuple #[v0_, .int .i64 r2]) ∧ Kd.R k37 37 w' w.heap.size (fun _ => True) v0_ r1 ∧ Below w.heap.size w w' := by
 have hu37 := Try.underlying37
 have HR0 := Kp.a hr0
 have HC0 := Kp.a hc0
 clear hr0 hc0
 have HR1 := Kp.a hr1
 have HC1 := Kp.a hc1
 clear hr1 hc1
 have HB := Kp.a (Below.refl w.heap.size w)
 have H : ((impl_matesCode.f k l0 l1 a2 a3).bind fun t116 => (if t116 = 0 then (if 0 ≤ (l1.length : Int) then (if ((l1.length : Int) : Int).toNat ≤ 281474976710656 then ((impl_bySize.f l1).bind fun t120 => ((impl_bySize.f l0).bind fun t123 => (impl_Matched.l0 k l0 l1 a2 a3 (List.replicate ((l1.length : Int) : Int).toNat false) ([] : List (S37)) t120 t123 (t123.length : Int) 0))) else (none)) else (none)) else (some (([] : List (S37)), t116)))) = some (r1, r2) := h
 clear h
 replace H := Option.bind_eq_some_iff.mp H
 obtain ⟨t116, A50, H⟩ := H
 replace H : (if t116 = 0 then (if 0 ≤ (l1.length : Int) then (if ((l1.length : Int) : Int).toNat ≤ 281474976710656 then ((impl_bySize.f l1).bind fun t120 => ((impl_bySize.f l0).bind fun t123 => (impl_Matched.l0 k l0 l1 a2 a3 (List.replicate ((l1.length : Int) : Int).toNat false) ([] : List (S37)) t120 t123 (t123.length : Int) 0))) else (none)) else (none)) else (some (([] : List (S37)), t116))) = some (r1, r2) := H
 have A5 := Kp.a A50
 clear A50
 by_cases c6 : t116 = 0
 rotate_left
 ·rw [if_neg c6] at H
  have c6b0 : (t116 == 0) = false := beq_eq_false_iff_ne.mpr c6
  have c6b1 : (t116 != 0) = true := bne_iff_ne.mpr c6
  simp only [Option.some.injEq, Prod.mk.injEq] at H
  obtain ⟨rfl, rfl⟩ := H
  go_enter Try.func8, Try.ntmps8
  go_wp2_with (first | (go_at_call 20; (with_reducible refine (impl_matesCode.calls k _ _ l0 _ _ l1 a2 a3 t116 _ ?side1 ?side2 ?side3 ?side4 A5.out).mono ?_); (case side1 => repeat (first | exact HR0.out | (with_reducible refine Kd.C_alloc ?_ _) | (with_reducible refine Kd.C_drewN ?_ _) | (with_reducible refine Kd.C_drew ?_))); (case side2 => exact HC0.out); (case side3 => repeat (first | exact HR1.out | (with_reducible refine Kd.C_alloc ?_ _) | (with_reducible refine Kd.C_drewN ?_ _) | (with_reducible refine Kd.C_drew ?_))); (case side4 => exact HC1.out); rintro e w42 ⟨rfl, hb⟩; have n0_ := Kp.a (below_step (Kp.kpL HB.out) hb); clear HB; have HB := n0_; clear n0_; (try clear hb); (try clear hb2); (try clear hk); (try clear hi)))
  repeat (go_quiet (first | (go_at_call 20; (with_reducible refine (impl_matesCode.calls k _ _ l0 _ _ l1 a2 a3 t116 _ ?side1 ?side2 ?side3 ?side4 A5.out).mono ?_); (case side1 => repeat (first | exact HR0.out | (with_reducible refine Kd.C_alloc ?_ _) | (with_reducible refine Kd.C_drewN ?_ _) | (with_reducible refine Kd.C_drew ?_))); (case side2 => exact HC0.out); (case side3 => repeat (first | exact HR1.out | (with_reducible refine Kd.C_alloc ?_ _) | (with_reducible refine Kd.C_drewN ?_ _) | (with_reducible refine Kd.C_drew ?_))); (case side4 => exact HC1.out); rintro e w42 ⟨rfl, hb⟩; have n0_ := Kp.a (below_step (Kp.kpL HB.out) hb); clear HB; have HB := n0_; clear n0_; (try clear hb); (try clear hb2); (try clear hk); (try clear hi))); try go_wp2_with (first | (go_at_call 20; (with_reducible refine (impl_matesCode.calls k _ _ l0 _ _ l1 a2 a3 t116 _ ?side1 ?side2 ?side3 ?side4 A5.out).mono ?_); (case side1 => repeat (first | exact HR0.out | (with_reducible refine Kd.C_alloc ?_ _) | (with_reducible refine Kd.C_drewN ?_ _) | (with_reducible refine Kd.C_drew ?_))); (case side2 => exact HC0.out); (case side3 => repeat (first | exact HR1.out | (with_reducible refine Kd.C_alloc ?_ _) | (with_reducible refine Kd.C_drewN ?_ _) | (with_reducible refine Kd.C_drew ?_))); (case side4 => exact HC1.out); rintro e w42 ⟨rfl, hb⟩; have n0_ := Kp.a (below_step (Kp.kpL HB.out) hb); clear HB; have HB := n0_; clear n0_; (try clear hb); (try clear hb2); (try clear hk); (try clear hi))))
  go_ret2
  exact ⟨_, by first | rfl | (simp [errW_none, errW_some] <;> rfl) | (simp [*, errW_none, errW_some] <;> rfl), by first | exact Kd.R_nil _ _ _ _ _ | exact Kd.N_nil _ _ _ _ _ | exact Kd.V_nil _ _ _ _ _ | exact Kd.Q_nil _ _ _ _ _ | exact Kd.S_nil _ _ _ _ _, Kp.kpL HB.out⟩
 rw [if_pos c6] at H
 have c6b0 : (t116 == 0) = true := beq_iff_eq.mpr c6
 have c6b1 : (t116 != 0) = false := bne_eq_false_iff_eq.mpr c6
 clear c6
 by_cases c7 : 0 ≤ (l1.length : Int)
 rotate_left
 ·rw [if_neg c7] at H
  exact absurd H (by simp)
 rw [if_pos c7] at H
 have c7b0 := eq_true c7
 have c7b1 : decide (0 ≤ (l1.length : Int)) = true := decide_eq_true c7
 clear c7
 by_cases c8 : ((l1.length : Int) : Int).toNat ≤ 281474976710656
 rotate_left
 ·rw [if_neg c8] at H
  exact absurd H (by simp)
 rw [if_pos c8] at H
 have c8b0 := eq_true c8
 have c8b1 : decide (((l1.length : Int) : Int).toNat ≤ 281474976710656) = true := decide_eq_true c8
 clear c8
 obtain ⟨y117, hy117⟩ : ∃ y_ : List Bool, y_ = (List.replicate ((l1.length : Int) : Int).toNat false) := ⟨_, rfl⟩
 replace H : ((impl_bySize.f l1).bind fun t120 => ((impl_bySize.f l0).bind fun t123 => (impl_Matched.l0 k l0 l1 a2 a3 y117 ([] : List (S37)) t120 t123 (t123.length : Int) 0))) = some (r1, r2) := by first | (rw [hy117]; with_reducible exact H) | (have H2_ := (Option.bind_some _ _).symm.trans H; rw [hy117]; with_reducible exact H2_) | (have H2_ := (Option.bind_some _ _).symm.trans H; with_reducible exact H2_) | with_reducible exact H | (rw [hy117]; exact H) | exact H
 have Ny117 := Kp.a hy117
 clear hy117
 replace H := Option.bind_eq_some_iff.mp H
 obtain ⟨t120, A90, H⟩ := H
 replace H : ((impl_bySize.f l0).bind fun t123 => (impl_Matched.l0 k l0 l1 a2 a3 y117 ([] : List (S37)) t120 t123 (t123.length : Int) 0)) = some (r1, r2) := H
 have A9 := Kp.a A90
 clear A90
 replace H := Option.bind_eq_some_iff.mp H
 obtain ⟨t123, A100, H⟩ := H
 replace H : (impl_Matched.l0 k l0 l1 a2 a3 y117 ([] : List (S37)) t120 t123 (t123.length : Int) 0) = some (r1, r2) := H
 have A10 := Kp.a A100
 clear A100
 have H' := Kp.a H
 clear H
 go_enter Try.func8, Try.ntmps8
 go_wp2_with (first | (go_at_call 20; (with_reducible refine (impl_matesCode.calls k _ _ l0 _ _ l1 a2 a3 t116 _ ?side1 ?side2 ?side3 ?side4 A5.out).mono ?_); (case side1 => repeat (first | exact HR0.out | (with_reducible refine Kd.C_alloc ?_ _) | (with_reducible refine Kd.C_drewN ?_ _) | (with_reducible refine Kd.C_drew ?_))); (case side2 => exact HC0.out); (case side3 => repeat (first | exact HR1.out | (with_reducible refine Kd.C_alloc ?_ _) | (with_reducible refine Kd.C_drewN ?_ _) | (with_reducible refine Kd.C_drew ?_))); (case side4 => exact HC1.out); rintro e w11 ⟨rfl, hb⟩; have n0_ := Kp.a (below_step (Kp.kpL HB.out) hb); clear HB; have HB := n0_; clear n0_; (try clear hb); (try clear hb2); (try clear hk); (try clear hi)) | ((with_reducible refine gate_dst (N := 29) rfl ?_); refine Kd.R_make Kd.bool _ 4 rfl (N := 29) rfl 35 _ _ rfl (l1.length : Int) rfl rfl Try.underlying35 (.bool false) 1 info4 rfl (by decide) (by omega) false (ok := fun _ => True) (okp := fun _ => True) rfl (fun _ hk => hk) trivial (Kp.d) (Nat.le_trans (Nat.mul_le_mul_right _ (Kp.d : (l1.length : Int).toNat ≤ 281474976710656)) (by omega)) (Below.refl _ _) (Nat.le_refl _) ?_; intro v118 w12 ho13 hb hg_ hnew_; clear hg_ hnew_; (first | rw [← Ny117.out] at ho13 | (simp only [Int.reduceToNat] at ho13; rw [← Ny117.out] at ho13)); have n0_ := Kp.a (Kd.R_lower ho13 (below_size (Kp.kpL HB.out))); have n1_ := Kp.a (below_step (Kp.kpL HB.out) hb); clear HB; have HO119 := n0_; have HB := n1_; clear n0_ n1_; clear hb ho13) | (go_at_call 21; (with_reducible refine (impl_bySize.calls _ _ l1 t120 _ ?side1 ?side2 A9.out).mono ?_); (case side1 => repeat (first | exact (Kd.C_below HR1.out HB.out) | (with_reducible refine Kd.C_alloc ?_ _) | (with_reducible refine Kd.C_drewN ?_ _) | (with_reducible refine Kd.C_drew ?_))); (case side2 => exact HC1.out); rintro e w14 ⟨v121, rfl, ho0, hb⟩; have n0_ := Kp.a (Kd.R_below (Kp.kpR HO119.out) hb); have n1_ := Kp.a (Kd.R_lower ho0 (below_size (Kp.kpL HB.out))); have n2_ := Kp.a (below_step (Kp.kpL HB.out) hb); clear HO119; clear HB; have HO119 := n0_; have HO122 := n1_; have HB := n2_; clear n0_ n1_ n2_; (try clear hb); (try clear hb2); (try clear hk); (try clear hi); (try clear ho0)) | (go_at_call 21; (with_reducible refine (impl_bySize.calls _ _ l0 t123 _ ?side1 ?side2 A10.out).mono ?_); (case side1 => repeat (first | exact (Kd.C_below HR0.out HB.out) | (with_reducible refine Kd.C_alloc ?_ _) | (with_reducible refine Kd.C_drewN ?_ _) | (with_reducible refine Kd.C_drew ?_))); (case side2 => exact HC0.out); rintro e w15 ⟨v124, rfl, ho0, hb⟩; have n0_ := Kp.a (Kd.R_below (Kp.kpR HO119.out) hb); have n1_ := Kp.a (Kd.R_elder' (Kp.kpR HO122.out) (Kd.R_base ho0) hb); have n2_ := Kp.a (Kd.R_lower (Kd.R_new' ho0 (Kd.R_lt (Kp.kpR HO122.out))) (below_size (Kp.kpL HB.out))); have n3_ := Kp.a (below_step (Kp.kpL HB.out) hb); clear HO119; clear HO122; clear HB; have HO119 := n0_; have HO122 := n1_; have HO125 := n2_; have HB := n3_; clear n0_ n1_ n2_ n3_; (try clear hb); (try clear hb2); (try clear hk); (try clear hi); (try clear ho0); obtain ⟨Ao16, co16, eo16⟩ := Kd.R_slice HO125.out; subst eo16))
 repeat (go_quiet (first | (go_at_call 20; (with_reducible refine (impl_matesCode.calls k _ _ l0 _ _ l1 a2 a3 t116 _ ?side1 ?side2 ?side3 ?side4 A5.out).mono ?_); (case side1 => repeat (first | exact HR0.out | (with_reducible refine Kd.C_alloc ?_ _) | (with_reducible refine Kd.C_drewN ?_ _) | (with_reducible refine Kd.C_drew ?_))); (case side2 => exact HC0.out); (case side3 => repeat (first | exact HR1.out | (with_reducible refine Kd.C_alloc ?_ _) | (with_reducible refine Kd.C_drewN ?_ _) | (with_reducible refine Kd.C_drew ?_))); (case side4 => exact HC1.out); rintro e w11 ⟨rfl, hb⟩; have n0_ := Kp.a (below_step (Kp.kpL HB.out) hb); clear HB; have HB := n0_; clear n0_; (try clear hb); (try clear hb2); (try clear hk); (try clear hi)) | ((with_reducible refine gate_dst (N := 29) rfl ?_); refine Kd.R_make Kd.bool _ 4 rfl (N := 29) rfl 35 _ _ rfl (l1.length : Int) rfl rfl Try.underlying35 (.bool false) 1 info4 rfl (by decide) (by omega) false (ok := fun _ => True) (okp := fun _ => True) rfl (fun _ hk => hk) trivial (Kp.d) (Nat.le_trans (Nat.mul_le_mul_right _ (Kp.d : (l1.length : Int).toNat ≤ 281474976710656)) (by omega)) (Below.refl _ _) (Nat.le_refl _) ?_; intro v118 w12 ho13 hb hg_ hnew_; clear hg_ hnew_; (first | rw [← Ny117.out] at ho13 | (simp only [Int.reduceToNat] at ho13; rw [← Ny117.out] at ho13)); have n0_ := Kp.a (Kd.R_lower ho13 (below_size (Kp.kpL HB.out))); have n1_ := Kp.a (below_step (Kp.kpL HB.out) hb); clear HB; have HO119 := n0_; have HB := n1_; clear n0_ n1_; clear hb ho13) | (go_at_call 21; (with_reducible refine (impl_bySize.calls _ _ l1 t120 _ ?side1 ?side2 A9.out).mono ?_); (case side1 => repeat (first | exact (Kd.C_below HR1.out HB.out) | (with_reducible refine Kd.C_alloc ?_ _) | (with_reducible refine Kd.C_drewN ?_ _) | (with_reducible refine Kd.C_drew ?_))); (case side2 => exact HC1.out); rintro e w14 ⟨v121, rfl, ho0, hb⟩; have n0_ := Kp.a (Kd.R_below (Kp.kpR HO119.out) hb); have n1_ := Kp.a (Kd.R_lower ho0 (below_size (Kp.kpL HB.out))); have n2_ := Kp.a (below_step (Kp.kpL HB.out) hb); clear HO119; clear HB; have HO119 := n0_; have HO122 := n1_; have HB := n2_; clear n0_ n1_ n2_; (try clear hb); (try clear hb2); (try clear hk); (try clear hi); (try clear ho0)) | (go_at_call 21; (with_reducible refine (impl_bySize.calls _ _ l0 t123 _ ?side1 ?side2 A10.out).mono ?_); (case side1 => repeat (first | exact (Kd.C_below HR0.out HB.out) | (with_reducible refine Kd.C_alloc ?_ _) | (with_reducible refine Kd.C_drewN ?_ _) | (with_reducible refine Kd.C_drew ?_))); (case side2 => exact HC0.out); rintro e w15 ⟨v124, rfl, ho0, hb⟩; have n0_ := Kp.a (Kd.R_below (Kp.kpR HO119.out) hb); have n1_ := Kp.a (Kd.R_elder' (Kp.kpR HO122.out) (Kd.R_base ho0) hb); have n2_ := Kp.a (Kd.R_lower (Kd.R_new' ho0 (Kd.R_lt (Kp.kpR HO122.out))) (below_size (Kp.kpL HB.out))); have n3_ := Kp.a (below_step (Kp.kpL HB.out) hb); clear HO119; clear HO122; clear HB; have HO119 := n0_; have HO122 := n1_; have HO125 := n2_; have HB := n3_; clear n0_ n1_ n2_ n3_; (try clear hb); (try clear hb2); (try clear hk); (try clear hi); (try clear ho0); obtain ⟨Ao16, co16, eo16⟩ := Kd.R_slice HO125.out; subst eo16)); try go_wp2_with (first | (go_at_call 20; (with_reducible refine (impl_matesCode.calls k _ _ l0 _ _ l1 a2 a3 t116 _ ?side1 ?side2 ?side3 ?side4 A5.out).mono ?_); (case side1 => repeat (first | exact HR0.out | (with_reducible refine Kd.C_alloc ?_ _) | (with_reducible refine Kd.C_drewN ?_ _) | (with_reducible refine Kd.C_drew ?_))); (case side2 => exact HC0.out); (case side3 => repeat (first | exact HR1.out | (with_reducible refine Kd.C_alloc ?_ _) | (with_reducible refine Kd.C_drewN ?_ _) | (with_reducible refine Kd.C_drew ?_))); (case side4 => exact HC1.out); rintro e w11 ⟨rfl, hb⟩; have n0_ := Kp.a (below_step (Kp.kpL HB.out) hb); clear HB; have HB := n0_; clear n0_; (try clear hb); (try clear hb2); (try clear hk); (try clear hi)) | ((with_reducible refine gate_dst (N := 29) rfl ?_); refine Kd.R_make Kd.bool _ 4 rfl (N := 29) rfl 35 _ _ rfl (l1.length : Int) rfl rfl Try.underlying35 (.bool false) 1 info4 rfl (by decide) (by omega) false (ok := fun _ => True) (okp := fun _ => True) rfl (fun _ hk => hk) trivial (Kp.d) (Nat.le_trans (Nat.mul_le_mul_right _ (Kp.d : (l1.length : Int).toNat ≤ 281474976710656)) (by omega)) (Below.refl _ _) (Nat.le_refl _) ?_; intro v118 w12 ho13 hb hg_ hnew_; clear hg_ hnew_; (first | rw [← Ny117.out] at ho13 | (simp only [Int.reduceToNat] at ho13; rw [← Ny117.out] at ho13)); have n0_ := Kp.a (Kd.R_lower ho13 (below_size (Kp.kpL HB.out))); have n1_ := Kp.a (below_step (Kp.kpL HB.out) hb); clear HB; have HO119 := n0_; have HB := n1_; clear n0_ n1_; clear hb ho13) | (go_at_call 21; (with_reducible refine (impl_bySize.calls _ _ l1 t120 _ ?side1 ?side2 A9.out).mono ?_); (case side1 => repeat (first | exact (Kd.C_below HR1.out HB.out) | (with_reducible refine Kd.C_alloc ?_ _) | (with_reducible refine Kd.C_drewN ?_ _) | (with_reducible refine Kd.C_drew ?_))); (case side2 => exact HC1.out); rintro e w14 ⟨v121, rfl, ho0, hb⟩; have n0_ := Kp.a (Kd.R_below (Kp.kpR HO119.out) hb); have n1_ := Kp.a (Kd.R_lower ho0 (below_size (Kp.kpL HB.out))); have n2_ := Kp.a (below_step (Kp.kpL HB.out) hb); clear HO119; clear HB; have HO119 := n0_; have HO122 := n1_; have HB := n2_; clear n0_ n1_ n2_; (try clear hb); (try clear hb2); (try clear hk); (try clear hi); (try clear ho0)) | (go_at_call 21; (with_reducible refine (impl_bySize.calls _ _ l0 t123 _ ?side1 ?side2 A10.out).mono ?_); (case side1 => repeat (first | exact (Kd.C_below HR0.out HB.out) | (with_reducible refine Kd.C_alloc ?_ _) | (with_reducible refine Kd.C_drewN ?_ _) | (with_reducible refine Kd.C_drew ?_))); (case side2 => exact HC0.out); rintro e w15 ⟨v124, rfl, ho0, hb⟩; have n0_ := Kp.a (Kd.R_below (Kp.kpR HO119.out) hb); have n1_ := Kp.a (Kd.R_elder' (Kp.kpR HO122.out) (Kd.R_base ho0) hb); have n2_ := Kp.a (Kd.R_lower (Kd.R_new' ho0 (Kd.R_lt (Kp.kpR HO122.out))) (below_size (Kp.kpL HB.out))); have n3_ := Kp.a (below_step (Kp.kpL HB.out) hb); clear HO119; clear HO122; clear HB; have HO119 := n0_; have HO122 := n1_; have HO125 := n2_; have HB := n3_; clear n0_ n1_ n2_ n3_; (try clear hb); (try clear hb2); (try clear hk); (try clear hi); (try clear ho0); obtain ⟨Ao16, co16, eo16⟩ := Kd.R_slice HO125.out; subst eo16)))
 go_loopg [12, 35] k (fun kq v12 v35 w' => ∃ (x11_1 : List Bool) (x12_1 : List (S37)) (x35_1 : Int), v35 = .int .i64 x35_1 ∧ Aside0 (impl_Matched.l0 kq l0 l1 a2 a3 x11_1 x12_1 t120 t123 (t123.length : Int) x35_1 = some (r1, r2)) ∧ Aside0 (kq ≤ k) ∧ Aside0 (Kd.R Kd.bool 4 w' w.heap.size (fun _ => True) v118 x11_1) ∧ Aside0 (Kd.R k37 37 w' w.heap.size (fun _ => True) v12 x12_1) ∧ Aside0 (Kd.R (Kd.int .i64) 3 w' w.heap.size (fun k_ => some k_ ≠ ((.slice Ao16 t123.length co16) : Value).ownBlock) v121 t120) ∧ Aside0 (Kd.R (Kd.int .i64) 3 w' w.heap.size (fun k_ => some k_ ≠ (v121 : Value).ownBlock) (.slice Ao16 t123.length co16) t123) ∧ Aside0 (Below w.heap.size w w'))
 case atStart => exact ⟨(y117), (([] : List (S37))), (0), (by first | rfl | (simp; done) | (simp [*]; done)), H', ⟨Nat.le_refl _⟩, ⟨Kp.kpR HO119.out⟩, ⟨by first | exact Kd.R_nil _ _ _ _ _ | exact Kd.N_nil _ _ _ _ _ | exact Kd.V_nil _ _ _ _ _ | exact Kd.Q_nil _ _ _ _ _ | exact Kd.S_nil _ _ _ _ _⟩, ⟨Kp.kpR (Kd.R_mono HO122.out (fun _ hk => hk.2))⟩, ⟨Kp.kpR (Kd.R_mono HO125.out (fun _ hk => hk.2))⟩, ⟨Kp.kpL HB.out⟩⟩
 clear H'
 try clear c1
 try clear p2
 try clear c6
 try clear c6b0
 try clear c6b1
 try clear c7
 try clear c7b0
 try clear c7b1
 try clear c8
 try clear c8b0
 try clear c8b1
 obtain ⟨x11_1, x12_1, x35_1, rfl, HA, HK1, HO_11, HO_12, HO_13, HO_33, HB⟩ := hrel
 cases gk with
 | zero => exact absurd HA.out (by simp [impl_Matched.l0])
 | succ k1 =>
  have H := HA.out
  clear HA
  simp only [impl_Matched.l0] at H
  by_cases c17 : x35_1 < (t123.length : Int)
  rotate_left
  ·rw [if_neg c17] at H
   have c17b0 : decide (x35_1 < (t123.length : Int)) = false := decide_eq_false c17
   clear c17
   simp only [Option.some.injEq, Prod.mk.injEq] at H
   obtain ⟨rfl, rfl⟩ := H
   go_wp2
   repeat (go_quiet (fail); try go_wp2)
   go_ret2
   exact ⟨_, by first | rfl | (simp [errW_none, errW_some] <;> rfl) | (simp [*, errW_none, errW_some] <;> rfl), Kp.kpR HO_12.out, Kp.kpL HB.out⟩
  rw [if_pos c17] at H
  have c17b0 : decide (x35_1 < (t123.length : Int)) = true := decide_eq_true c17
  clear c17
  by_cases c18 : 0 ≤ x35_1
  rotate_left
  ·rw [if_neg c18] at H
   exact absurd H (by simp)
  rw [if_pos c18] at H
  have c18b0 : decide (0 ≤ x35_1) = true := decide_eq_true c18
  clear c18
  by_cases c19 : x35_1 < (t123.length : Int)
  rotate_left
  ·rw [if_neg c19] at H
   exact absurd H (by simp)
  rw [if_pos c19] at H
  have c19b0 : decide (x35_1 < (t123.length : Int)) = true := decide_eq_true c19
  clear c19
  have H' := Kp.a H
  clear H
  have p126 : 0 ≤ (x35_1 : Int) := Kp.d
  have q126 : x35_1 < (t123.length : Int) := Kp.d
  obtain ⟨ad126, e126, hx126_0⟩ := Kd.at_int (Kd.R_reads' HO_33.out).2.2 x35_1 p126 q126
  cases e126
  replace p126 := eq_true p126
  replace q126 := eq_true q126
  obtain ⟨Ao20, co20, eo20⟩ := Kd.R_slice HO_13.out
  subst eo20
  go_wp2
  repeat (go_quiet (fail); try go_wp2)
  go_loopg [12, 41] k1 (fun kq v12 v41 w' => ∃ (x11_2 : List Bool) (x12_2 : List (S37)) (x41_2 : Int), v41 = .int .i64 x41_2 ∧ Aside0 (impl_Matched.l1 kq l0 l1 a2 a3 x11_2 x12_2 t120 (rd t123 x35_1) t123 (t123.length : Int) x35_1 t120 (t120.length : Int) x41_2 = some (r1, r2)) ∧ Aside0 (kq ≤ k1) ∧ Aside0 (Kd.R Kd.bool 4 w' w.heap.size (fun _ => True) v118 x11_2) ∧ Aside0 (Kd.R k37 37 w' w.heap.size (fun _ => True) v12 x12_2) ∧ Aside0 (Kd.R (Kd.int .i64) 3 w' w.heap.size (fun k_ => some k_ ≠ ((.slice (some ad126) t123.length co16) : Value).ownBlock) (.slice Ao20 t120.length co20) t120) ∧ Aside0 (Kd.R (Kd.int .i64) 3 w' w.heap.size (fun k_ => some k_ ≠ ((.slice Ao20 t120.length co20) : Value).ownBlock ∧ some k_ ≠ ((.slice Ao20 t120.length co20) : Value).ownBlock) (.slice (some ad126) t123.length co16) t123) ∧ Aside0 (Kd.R (Kd.int .i64) 3 w' w.heap.size (fun k_ => some k_ ≠ ((.slice (some ad126) t123.length co16) : Value).ownBlock) (.slice Ao20 t120.length co20) t120) ∧ Aside0 (Below w.heap.size w w'))
  case atStart => exact ⟨(x11_1), (x12_1), (0), (by first | rfl | (simp; done) | (simp [*]; done)), H', ⟨Nat.le_refl _⟩, ⟨Kp.kpR HO_11.out⟩, ⟨Kp.kpR HO_12.out⟩, ⟨Kp.kpR HO_13.out⟩, ⟨Kp.kpR (Kd.R_mono HO_33.out (fun _ hk => ⟨hk, hk⟩))⟩, ⟨Kp.kpR HO_13.out⟩, ⟨Kp.kpL HB.out⟩⟩
  clear H'
  try clear c1
  try clear p1
  try clear q1
  try clear hx1
  try clear p2
  try clear c6
  try clear c6b0
  try clear c6b1
  try clear c7
  try clear c7b0
  try clear c7b1
  try clear c8
  try clear c8b0
  try clear c8b1
  try clear p12
  try clear q12
  try clear hx12
  try clear c17
  try clear c17b0
  try clear c18
  try clear c18b0
  try clear c19
  try clear c19b0
  try clear hx126_0
  try clear p126
  try clear p2
  try clear q126
  obtain ⟨x11_2, x12_2, x41_2, rfl, HA, HK2, HO_11, HO_12, HO_13, HO_33, HO_39, HB⟩ := hrel
  cases gk with
  | zero => exact absurd HA.out (by simp [impl_Matched.l1])
  | succ k2 =>
   have H := HA.out
   clear HA
   simp only [impl_Matched.l1] at H
   by_cases c21 : x41_2 < (t120.length : Int)
   rotate_left
   ·rw [if_neg c21] at H
    have c21b0 : decide (x41_2 < (t120.length : Int)) = false := decide_eq_false c21
    clear c21
    have H' := Kp.a H
    clear H
    go_wp2
    repeat (go_quiet (fail); try go_wp2)
    go_roundg k2
    case measure => have := HK1.out; have := HK2.out; omega
    case rel => exact ⟨(x11_2), (x12_2), (wrap64 (x35_1 + 1)), (by first | rfl | (simp; done) | (simp [*]; done)), H', ⟨by have := HK1.out; have := HK2.out; omega⟩, ⟨Kp.kpR HO_11.out⟩, ⟨Kp.kpR HO_12.out⟩, ⟨Kp.kpR HO_13.out⟩, ⟨Kp.kpR (Kd.R_mono HO_33.out (fun _ hk => hk.1))⟩, ⟨Kp.kpL HB.out⟩⟩
   rw [if_pos c21] at H
   have c21b0 : decide (x41_2 < (t120.length : Int)) = true := decide_eq_true c21
   clear c21
   by_cases c22 : 0 ≤ x41_2
   rotate_left
   ·rw [if_neg c22] at H
    exact absurd H (by simp)
   rw [if_pos c22] at H
   have c22b0 : decide (0 ≤ x41_2) = true := decide_eq_true c22
   clear c22
   by_cases c23 : x41_2 < (t120.length : Int)
   rotate_left
   ·rw [if_neg c23] at H
    exact absurd H (by simp)
   rw [if_pos c23] at H
   have c23b0 : decide (x41_2 < (t120.length : Int)) = true := decide_eq_true c23
   clear c23
   by_cases c24 : 0 ≤ (rd t123 x35_1)
   rotate_left
   ·rw [if_neg c24] at H
    exact absurd H (by simp)
   rw [if_pos c24] at H
   have c24b0 : decide (0 ≤ (rd t123 x35_1)) = true := decide_eq_true c24
   clear c24
   by_cases c25 : (rd t123 x35_1) < (l0.length : Int)
   rotate_left
   ·rw [if_neg c25] at H
    exact absurd H (by simp)
   rw [if_pos c25] at H
   have c25b0 : decide ((rd t123 x35_1) < (l0.length : Int)) = true := decide_eq_true c25
   clear c25
   by_cases c26 : 0 ≤ (rd t120 x41_2)
   rotate_left
   ·rw [if_neg c26] at H
    exact absurd H (by simp)
   rw [if_pos c26] at H
   have c26b0 : decide (0 ≤ (rd t120 x41_2)) = true := decide_eq_true c26
   clear c26
   by_cases c27 : (rd t120 x41_2) < (l1.length : Int)
   rotate_left
   ·rw [if_neg c27] at H
    exact absurd H (by simp)
   rw [if_pos c27] at H
   have c27b0 : decide ((rd t120 x41_2) < (l1.length : Int)) = true := decide_eq_true c27
   clear c27
   by_cases c28 : (rd t120 x41_2) < (x11_2.length : Int)
   rotate_left
   ·rw [if_neg c28] at H
    exact absurd H (by simp)
   rw [if_pos c28] at H
   have c28b0 : decide ((rd t120 x41_2) < (x11_2.length : Int)) = true := decide_eq_true c28
   clear c28
   obtain ⟨bq29, hbq29⟩ : ∃ b_ : Bool, b_ = (rdOf false x11_2 (rd t120 x41_2)) := ⟨_, rfl⟩
   replace H : (if (bq29 = true) then (impl_Matched.l1 k2 l0 l1 a2 a3 x11_2 x12_2 t120 (rd t123 x35_1) t123 (t123.length : Int) x35_1 t120 (t120.length : Int) (wrap64 (x41_2 + 1))) else (if (wrap64 ((rd l0 (rd t123 x35_1)) - (rd l1 (rd t120 x41_2)))) ≥ a2 then (if (wrap64 ((rd l0 (rd t123 x35_1)) - (rd l1 (rd t120 x41_2)))) ≤ a3 then (if x12_2.length < 8796093022208 then (impl_Matched.l0 k2 l0 l1 a2 a3 (x11_2.set ((rd t120 x41_2) : Int).toNat true) (x12_2 ++ [(⟨(rd t123 x35_1), rd t120 x41_2⟩ : S37)]) t120 t123 (t123.length : Int) (wrap64 (x35_1 + 1))) else (none)) else (impl_Matched.l1 k2 l0 l1 a2 a3 x11_2 x12_2 t120 (rd t123 x35_1) t123 (t123.length : Int) x35_1 t120 (t120.length : Int) (wrap64 (x41_2 + 1)))) else (impl_Matched.l1 k2 l0 l1 a2 a3 x11_2 x12_2 t120 (rd t123 x35_1) t123 (t123.length : Int) x35_1 t120 (t120.length : Int) (wrap64 (x41_2 + 1))))) = some (r1, r2) := by rw [← hbq29] at H; exact H
   have Nbq29 := Kp.a hbq29
   clear hbq29
   by_cases c30 : (bq29 = true)
   ·subst c30
    have H1 : (impl_Matched.l1 k2 l0 l1 a2 a3 x11_2 x12_2 t120 (rd t123 x35_1) t123 (t123.length : Int) x35_1 t120 (t120.length : Int) (wrap64 (x41_2 + 1))) = some (r1, r2) := by rw [if_pos rfl] at H; exact H
    clear H
    have H := H1
    clear H1
    have H' := Kp.a H
    clear H
    have p127 : 0 ≤ (x41_2 : Int) := Kp.d
    have q127 : x41_2 < (t120.length : Int) := Kp.d
    obtain ⟨ad127, e127, hx127_0⟩ := Kd.at_int (Kd.R_reads' HO_39.out).2.2 x41_2 p127 q127
    cases e127
    replace p127 := eq_true p127
    replace q127 := eq_true q127
    have p128 : 0 ≤ ((rd t123 x35_1) : Int) := Kp.d
    have q128 : (rd t123 x35_1) < (l0.length : Int) := Kp.d
    obtain ⟨ad128, e128, hx128_0⟩ := Kd.at_int HR0.out (rd t123 x35_1) p128 q128
    cases e128
    replace hx128_0 := (HB.out.cell (World.block_lt_of_cell? w _ hx128_0)).trans hx128_0
    replace p128 := eq_true p128
    replace q128 := eq_true q128
    have p129 : 0 ≤ ((rd t120 x41_2) : Int) := Kp.d
    have q129 : (rd t120 x41_2) < (l1.length : Int) := Kp.d
    obtain ⟨ad129, e129, hx129_0⟩ := Kd.at_int HR1.out (rd t120 x41_2) p129 q129
    cases e129
    replace hx129_0 := (HB.out.cell (World.block_lt_of_cell? w _ hx129_0)).trans hx129_0
    replace p129 := eq_true p129
    replace q129 := eq_true q129
    obtain ⟨Ao31, co31, eo31⟩ := Kd.R_slice HO_11.out
    subst eo31
    have p130 : 0 ≤ ((rd t120 x41_2) : Int) := Kp.d
    have q130 : (rd t120 x41_2) < (x11_2.length : Int) := Kp.d
    obtain ⟨ad130, e130, hx130_0⟩ := Kd.at_bool (Kd.R_reads' HO_11.out).2.2 (rd t120 x41_2) p130 q130
    (try rw [← Nbq29.out] at hx130_0)
    cases e130
    replace p130 := eq_true p130
    replace q130 := eq_true q130
    go_wp2
    repeat (go_quiet (fail); try go_wp2)
    go_roundg k2
    case measure => have := HK1.out; have := HK2.out; omega
    case rel => exact ⟨(x11_2), (x12_2), (wrap64 (x41_2 + 1)), (by first | rfl | (simp; done) | (simp [*]; done)), H', ⟨by have := HK1.out; have := HK2.out; omega⟩, ⟨Kp.kpR HO_11.out⟩, ⟨Kp.kpR HO_12.out⟩, ⟨Kp.kpR HO_13.out⟩, ⟨Kp.kpR HO_33.out⟩, ⟨Kp.kpR HO_39.out⟩, ⟨Kp.kpL HB.out⟩⟩
   replace c30 := Bool.eq_false_iff.mpr c30
   subst c30
   have H1 : (if (wrap64 ((rd l0 (rd t123 x35_1)) - (rd l1 (rd t120 x41_2)))) ≥ a2 then (if (wrap64 ((rd l0 (rd t123 x35_1)) - (rd l1 (rd t120 x41_2)))) ≤ a3 then (if x12_2.length < 8796093022208 then (impl_Matched.l0 k2 l0 l1 a2 a3 (x11_2.set ((rd t120 x41_2) : Int).toNat true) (x12_2 ++ [(⟨(rd t123 x35_1), rd t120 x41_2⟩ : S37)]) t120 t123 (t123.length : Int) (wrap64 (x35_1 + 1))) else (none)) else (impl_Matched.l1 k2 l0 l1 a2 a3 x11_2 x12_2 t120 (rd t123 x35_1) t123 (t123.length : Int) x35_1 t120 (t120.length : Int) (wrap64 (x41_2 + 1)))) else (impl_Matched.l1 k2 l0 l1 a2 a3 x11_2 x12_2 t120 (rd t123 x35_1) t123 (t123.length : Int) x35_1 t120 (t120.length : Int) (wrap64 (x41_2 + 1)))) = some (r1, r2) := by rw [if_neg (show ¬ (false = true) by decide)] at H; exact H
   clear H
   have H := H1
   clear H1
   by_cases c32 : (wrap64 ((rd l0 (rd t123 x35_1)) - (rd l1 (rd t120 x41_2)))) ≥ a2
   rotate_left
   ·rw [if_neg c32] at H
    have c32b0 : decide (a2 ≤ (wrap64 ((rd l0 (rd t123 x35_1)) - (rd l1 (rd t120 x41_2))))) = false := decide_eq_false c32
    clear c32
    have H' := Kp.a H
    clear H
    have p127 : 0 ≤ (x41_2 : Int) := Kp.d
    have q127 : x41_2 < (t120.length : Int) := Kp.d
    obtain ⟨ad127, e127, hx127_0⟩ := Kd.at_int (Kd.R_reads' HO_39.out).2.2 x41_2 p127 q127
    cases e127
    replace p127 := eq_true p127
    replace q127 := eq_true q127
    have p128 : 0 ≤ ((rd t123 x35_1) : Int) := Kp.d
    have q128 : (rd t123 x35_1) < (l0.length : Int) := Kp.d
    obtain ⟨ad128, e128, hx128_0⟩ := Kd.at_int HR0.out (rd t123 x35_1) p128 q128
    cases e128
    replace hx128_0 := (HB.out.cell (World.block_lt_of_cell? w _ hx128_0)).trans hx128_0
    replace p128 := eq_true p128
    replace q128 := eq_true q128
    have p129 : 0 ≤ ((rd t120 x41_2) : Int) := Kp.d
    have q129 : (rd t120 x41_2) < (l1.length : Int) := Kp.d
    obtain ⟨ad129, e129, hx129_0⟩ := Kd.at_int HR1.out (rd t120 x41_2) p129 q129
    cases e129
    replace hx129_0 := (HB.out.cell (World.block_lt_of_cell? w _ hx129_0)).trans hx129_0
    replace p129 := eq_true p129
    replace q129 := eq_true q129
    obtain ⟨Ao41, co41, eo41⟩ := Kd.R_slice HO_11.out
    subst eo41
    have p130 : 0 ≤ ((rd t120 x41_2) : Int) := Kp.d
    have q130 : (rd t120 x41_2) < (x11_2.length : Int) := Kp.d
    obtain ⟨ad130, e130, hx130_0⟩ := Kd.at_bool (Kd.R_reads' HO_11.out).2.2 (rd t120 x41_2) p130 q130
    (try rw [← Nbq29.out] at hx130_0)
    cases e130
    replace p130 := eq_true p130
    replace q130 := eq_true q130
    go_wp2
    repeat (go_quiet (fail); try go_wp2)
    go_roundg k2
    case measure => have := HK1.out; have := HK2.out; omega
    case rel => exact ⟨(x11_2), (x12_2), (wrap64 (x41_2 + 1)), (by first | rfl | (simp; done) | (simp [*]; done)), H', ⟨by have := HK1.out; have := HK2.out; omega⟩, ⟨Kp.kpR HO_11.out⟩, ⟨Kp.kpR HO_12.out⟩, ⟨Kp.kpR HO_13.out⟩, ⟨Kp.kpR HO_33.out⟩, ⟨Kp.kpR HO_39.out⟩, ⟨Kp.kpL HB.out⟩⟩
   rw [if_pos c32] at H
   have c32b0 : decide (a2 ≤ (wrap64 ((rd l0 (rd t123 x35_1)) - (rd l1 (rd t120 x41_2))))) = true := decide_eq_true c32
   clear c32
   by_cases c33 : (wrap64 ((rd l0 (rd t123 x35_1)) - (rd l1 (rd t120 x41_2)))) ≤ a3
   rotate_left
   ·rw [if_neg c33] at H
    have c33b0 : decide ((wrap64 ((rd l0 (rd t123 x35_1)) - (rd l1 (rd t120 x41_2)))) ≤ a3) = false := decide_eq_false c33
    clear c33
    have H' := Kp.a H
    clear H
    have p127 : 0 ≤ (x41_2 : Int) := Kp.d
    have q127 : x41_2 < (t120.length : Int) := Kp.d
    obtain ⟨ad127, e127, hx127_0⟩ := Kd.at_int (Kd.R_reads' HO_39.out).2.2 x41_2 p127 q127
    cases e127
    replace p127 := eq_true p127
    replace q127 := eq_true q127
    have p128 : 0 ≤ ((rd t123 x35_1) : Int) := Kp.d
    have q128 : (rd t123 x35_1) < (l0.length : Int) := Kp.d
    obtain ⟨ad128, e128, hx128_0⟩ := Kd.at_int HR0.out (rd t123 x35_1) p128 q128
    cases e128
    replace hx128_0 := (HB.out.cell (World.block_lt_of_cell? w _ hx128_0)).trans hx128_0
    replace p128 := eq_true p128
    replace q128 := eq_true q128
    have p129 : 0 ≤ ((rd t120 x41_2) : Int) := Kp.d
    have q129 : (rd t120 x41_2) < (l1.length : Int) := Kp.d
    obtain ⟨ad129, e129, hx129_0⟩ := Kd.at_int HR1.out (rd t120 x41_2) p129 q129
    cases e129
    replace hx129_0 := (HB.out.cell (World.block_lt_of_cell? w _ hx129_0)).trans hx129_0
    replace p129 := eq_true p129
    replace q129 := eq_true q129
    obtain ⟨Ao40, co40, eo40⟩ := Kd.R_slice HO_11.out
    subst eo40
    have p130 : 0 ≤ ((rd t120 x41_2) : Int) := Kp.d
    have q130 : (rd t120 x41_2) < (x11_2.length : Int) := Kp.d
    obtain ⟨ad130, e130, hx130_0⟩ := Kd.at_bool (Kd.R_reads' HO_11.out).2.2 (rd t120 x41_2) p130 q130
    (try rw [← Nbq29.out] at hx130_0)
    cases e130
    replace p130 := eq_true p130
    replace q130 := eq_true q130
    go_wp2
    repeat (go_quiet (fail); try go_wp2)
    go_roundg k2
    case measure => have := HK1.out; have := HK2.out; omega
    case rel => exact ⟨(x11_2), (x12_2), (wrap64 (x41_2 + 1)), (by first | rfl | (simp; done) | (simp [*]; done)), H', ⟨by have := HK1.out; have := HK2.out; omega⟩, ⟨Kp.kpR HO_11.out⟩, ⟨Kp.kpR HO_12.out⟩, ⟨Kp.kpR HO_13.out⟩, ⟨Kp.kpR HO_33.out⟩, ⟨Kp.kpR HO_39.out⟩, ⟨Kp.kpL HB.out⟩⟩
   rw [if_pos c33] at H
   have c33b0 : decide ((wrap64 ((rd l0 (rd t123 x35_1)) - (rd l1 (rd t120 x41_2)))) ≤ a3) = true := decide_eq_true c33
   clear c33
   obtain ⟨y131, hy131⟩ : ∃ y_ : List Bool, y_ = (x11_2.set ((rd t120 x41_2) : Int).toNat true) := ⟨_, rfl⟩
   replace H : (if x12_2.length < 8796093022208 then (impl_Matched.l0 k2 l0 l1 a2 a3 y131 (x12_2 ++ [(⟨(rd t123 x35_1), rd t120 x41_2⟩ : S37)]) t120 t123 (t123.length : Int) (wrap64 (x35_1 + 1))) else (none)) = some (r1, r2) := by first | (rw [hy131]; with_reducible exact H) | (have H2_ := (Option.bind_some _ _).symm.trans H; rw [hy131]; with_reducible exact H2_) | (have H2_ := (Option.bind_some _ _).symm.trans H; with_reducible exact H2_) | with_reducible exact H | (rw [hy131]; exact H) | exact H
   have Ny131 := Kp.a hy131
   clear hy131
   by_cases c35 : x12_2.length < 8796093022208
   rotate_left
   ·rw [if_neg c35] at H
    exact absurd H (by simp)
   rw [if_pos c35] at H
   have LMc35 := Kp.a c35
   clear c35
   obtain ⟨y132, hy132⟩ : ∃ y_ : List (S37), y_ = (x12_2 ++ [(⟨(rd t123 x35_1), rd t120 x41_2⟩ : S37)]) := ⟨_, rfl⟩
   replace H : (impl_Matched.l0 k2 l0 l1 a2 a3 y131 y132 t120 t123 (t123.length : Int) (wrap64 (x35_1 + 1))) = some (r1, r2) := by first | (rw [hy132]; with_reducible exact H) | (have H2_ := (Option.bind_some _ _).symm.trans H; rw [hy132]; with_reducible exact H2_) | (have H2_ := (Option.bind_some _ _).symm.trans H; with_reducible exact H2_) | with_reducible exact H | (rw [hy132]; exact H) | exact H
   have Ny132 := Kp.a hy132
   clear hy132
   have H' := Kp.a H
   clear H
   have p127 : 0 ≤ (x41_2 : Int) := Kp.d
   have q127 : x41_2 < (t120.length : Int) := Kp.d
   obtain ⟨ad127, e127, hx127_0⟩ := Kd.at_int (Kd.R_reads' HO_39.out).2.2 x41_2 p127 q127
   cases e127
   replace p127 := eq_true p127
   replace q127 := eq_true q127
   have p128 : 0 ≤ ((rd t123 x35_1) : Int) := Kp.d
   have q128 : (rd t123 x35_1) < (l0.length : Int) := Kp.d
   obtain ⟨ad128, e128, hx128_0⟩ := Kd.at_int HR0.out (rd t123 x35_1) p128 q128
   cases e128
   replace hx128_0 := (HB.out.cell (World.block_lt_of_cell? w _ hx128_0)).trans hx128_0
   replace p128 := eq_true p128
   replace q128 := eq_true q128
   have p129 : 0 ≤ ((rd t120 x41_2) : Int) := Kp.d
   have q129 : (rd t120 x41_2) < (l1.length : Int) := Kp.d
   obtain ⟨ad129, e129, hx129_0⟩ := Kd.at_int HR1.out (rd t120 x41_2) p129 q129
   cases e129
   replace hx129_0 := (HB.out.cell (World.block_lt_of_cell? w _ hx129_0)).trans hx129_0
   replace p129 := eq_true p129
   replace q129 := eq_true q129
   obtain ⟨Ao36, co36, eo36⟩ := Kd.R_slice HO_11.out
   subst eo36
   have p130 : 0 ≤ ((rd t120 x41_2) : Int) := Kp.d
   have q130 : (rd t120 x41_2) < (x11_2.length : Int) := Kp.d
   obtain ⟨ad130, e130, hx130_0⟩ := Kd.at_bool (Kd.R_reads' HO_11.out).2.2 (rd t120 x41_2) p130 q130
   (try rw [← Nbq29.out] at hx130_0)
   cases e130
   replace p130 := eq_true p130
   replace q130 := eq_true q130
   have p34 : 0 ≤ ((rd t120 x41_2) : Int) := Kp.d
   have q34 : ((rd t120 x41_2) : Int) < ((x11_2.length : Int) : Int) := Kp.d
   obtain ⟨go34, co34, eo34, gb34, gl34, cl34, HG34⟩ := Kd.R_form HO_11.out (by omega)
   (first | cases eo34 | (injection eo34 with ea_ en_ ec_; (first | subst ea_ | (injection ea_ with ea_; subst ea_)); subst ec_; clear en_))
   have GB34 := Kp.a gb34
   have GG34 := Kp.a HG34
   clear gb34 gl34 HG34
   (first | simp only [add_plain] at hx130_0 | skip)
   obtain ⟨hx34_0, hf34_0⟩ := Kd.R_celln false HO_11.out ((rd t120 x41_2) : Int) p34 q34
   replace p34 := eq_true p34
   replace q34 := eq_true q34
   have HP37 := Kd.R_putg HO_11.out ((rd t120 x41_2) : Int) true
   go_wp2_with (first | ((with_reducible refine gate_store (t := 4) (p := 71) rfl ?_); (try (rw [drewN_self wr]; generalize hq_ : World.drewN wr _ = wr; have n0_ := Kp.a (Kd.R_at hq_ HO_11.out); have n1_ := Kp.a (Kd.R_at hq_ HO_12.out); have n2_ := Kp.a (Kd.R_at hq_ HO_13.out); have n3_ := Kp.a (Kd.R_at hq_ HO_33.out); have n4_ := Kp.a (Kd.R_at hq_ HO_39.out); have n5_ := Kp.a (below_at hq_ HB.out); clear hq_ HO_11 HO_12 HO_13 HO_33 HO_39 HB; have HO_11 := n0_; have HO_12 := n1_; have HO_13 := n2_; have HO_33 := n3_; have HO_39 := n4_; have HB := n5_; clear n0_ n1_ n2_ n3_ n4_ n5_; (try (have HP37 := Kd.R_putg HO_11.out ((rd t120 x41_2) : Int) true)); (try (obtain ⟨hx34_0, hf34_0⟩ := Kd.R_celln false HO_11.out ((rd t120 x41_2) : Int) (of_eq_true p34) (of_eq_true q34))))); refine store_event (t := 4) (p := 71) (v := ?vo_w38) (w1 := (wr.setCell ⟨go34, ((rd t120 x41_2) : Int).toNat, none⟩ (.bool true))) ?hg ?ho ?hn ?hr ?_; (case ho => rfl); (case hg => rfl); (case hn => rfl); (case hr => first | (go_simp; done) | (go_simp; rfl)); intro w38 hw; have hg : wr.grownBy w38 (some go34) := (by rw [hw]; exact HP37.2); have hp_ : Kd.R Kd.bool 4 w38 w.heap.size (fun _ => True) (.slice (some ⟨go34, 0, none⟩) x11_2.length co36) y131 := (by rw [hw, Ny131.out]; exact HP37.1); clear HP37; have n0_ := Kp.a (hp_); have n1_ := Kp.a (Kd.R_over' (v := (.slice (some ⟨go34, 0, none⟩) x11_2.length co36)) (Kp.kpR HO_12.out) (Kd.R_typed HO_11.out) (by decide) hg); have n2_ := Kp.a (Kd.R_over' (v := (.slice (some ⟨go34, 0, none⟩) x11_2.length co36)) (Kp.kpR HO_13.out) (Kd.R_typed HO_11.out) (by decide) hg); have n3_ := Kp.a (Kd.R_over' (v := (.slice (some ⟨go34, 0, none⟩) x11_2.length co36)) (Kp.kpR HO_33.out) (Kd.R_typed HO_11.out) (by decide) hg); have n4_ := Kp.a (Kd.R_over' (v := (.slice (some ⟨go34, 0, none⟩) x11_2.length co36)) (Kp.kpR HO_39.out) (Kd.R_typed HO_11.out) (by decide) hg); have n5_ := Kp.a ((by rw [hw]; exact below_set (HB.out) GB34.out : Below w.heap.size w w38)); clear HO_11; clear HO_12; clear HO_13; clear HO_33; clear HO_39; clear HB; have HO_11 := n0_; have HO_12 := n1_; have HO_13 := n2_; have HO_33 := n3_; have HO_39 := n4_; have HB := n5_; clear n0_ n1_ n2_ n3_ n4_ n5_; clear hg hw hp_) | ((with_reducible refine gate_builtin (b := .append) (xs := #[.tmp 72, .tmp 76]) rfl ?_); at_builtin; refine Kd.R_append k37 (w0 := w) w.heap.size rfl (.tmp 72) (.tmp 76) 23 37 (.agg #[(.int .i64 0), (.int .i64 0)]) 16 rfl Try.underlying23 info37 rfl (by decide) (by omega) u12 x12_2 (⟨(rd t123 x35_1), rd t120 x41_2⟩ : S37) [.int .i64 (rd t123 x35_1), .int .i64 (rd t120 x41_2)] (fun _ => True) (fun _ => False) rfl rfl ?aP (fun _ hk => hk.elim) ?aF ?aO ?aB ?aS ?aL ?_; (case aP => exact k37_mkM _ _ _ (⟨(rd t123 x35_1), rd t120 x41_2⟩ : S37)); (case aB => exact (Kp.kpL HB.out)); (case aF => exact (fun _ _ => trivial)); (case aO => exact (Kp.kpR HO_12.out)); (case aS => exact (below_size (Kp.kpL HB.out))); (case aL => have := LMc35.out; omega); intro v133 w39 ho hb hg hat; rw [← Ny132.out] at ho; have n0_ := Kp.a (Kd.R_over' (Kp.kpR HO_11.out) (Kd.R_typed (Kp.kpR HO_12.out)) (by decide) hg); have n1_ := Kp.a (Kd.R_over' (Kp.kpR HO_13.out) (Kd.R_typed (Kp.kpR HO_12.out)) (by decide) hg); have n2_ := Kp.a (Kd.R_over' (Kp.kpR HO_33.out) (Kd.R_typed (Kp.kpR HO_12.out)) (by decide) hg); have n3_ := Kp.a (Kd.R_over' (Kp.kpR HO_39.out) (Kd.R_typed (Kp.kpR HO_12.out)) (by decide) hg); have n4_ := Kp.a (hb); have n5_ := Kp.a (ho); clear HO_11; clear HO_13; clear HO_33; clear HO_39; clear HB; clear HO_12; have HO_11 := n0_; have HO_13 := n1_; have HO_33 := n2_; have HO_39 := n3_; have HB := n4_; have HO134 := n5_; clear n0_ n1_ n2_ n3_ n4_ n5_; clear ho hb hg hat))
   repeat (go_quiet (first | ((with_reducible refine gate_store (t := 4) (p := 71) rfl ?_); (try (rw [drewN_self wr]; generalize hq_ : World.drewN wr _ = wr; have n0_ := Kp.a (Kd.R_at hq_ HO_11.out); have n1_ := Kp.a (Kd.R_at hq_ HO_12.out); have n2_ := Kp.a (Kd.R_at hq_ HO_13.out); have n3_ := Kp.a (Kd.R_at hq_ HO_33.out); have n4_ := Kp.a (Kd.R_at hq_ HO_39.out); have n5_ := Kp.a (below_at hq_ HB.out); clear hq_ HO_11 HO_12 HO_13 HO_33 HO_39 HB; have HO_11 := n0_; have HO_12 := n1_; have HO_13 := n2_; have HO_33 := n3_; have HO_39 := n4_; have HB := n5_; clear n0_ n1_ n2_ n3_ n4_ n5_; (try (have HP37 := Kd.R_putg HO_11.out ((rd t120 x41_2) : Int) true)); (try (obtain ⟨hx34_0, hf34_0⟩ := Kd.R_celln false HO_11.out ((rd t120 x41_2) : Int) (of_eq_true p34) (of_eq_true q34))))); refine store_event (t := 4) (p := 71) (v := ?vo_w38) (w1 := (wr.setCell ⟨go34, ((rd t120 x41_2) : Int).toNat, none⟩ (.bool true))) ?hg ?ho ?hn ?hr ?_; (case ho => rfl); (case hg => rfl); (case hn => rfl); (case hr => first | (go_simp; done) | (go_simp; rfl)); intro w38 hw; have hg : wr.grownBy w38 (some go34) := (by rw [hw]; exact HP37.2); have hp_ : Kd.R Kd.bool 4 w38 w.heap.size (fun _ => True) (.slice (some ⟨go34, 0, none⟩) x11_2.length co36) y131 := (by rw [hw, Ny131.out]; exact HP37.1); clear HP37; have n0_ := Kp.a (hp_); have n1_ := Kp.a (Kd.R_over' (v := (.slice (some ⟨go34, 0, none⟩) x11_2.length co36)) (Kp.kpR HO_12.out) (Kd.R_typed HO_11.out) (by decide) hg); have n2_ := Kp.a (Kd.R_over' (v := (.slice (some ⟨go34, 0, none⟩) x11_2.length co36)) (Kp.kpR HO_13.out) (Kd.R_typed HO_11.out) (by decide) hg); have n3_ := Kp.a (Kd.R_over' (v := (.slice (some ⟨go34, 0, none⟩) x11_2.length co36)) (Kp.kpR HO_33.out) (Kd.R_typed HO_11.out) (by decide) hg); have n4_ := Kp.a (Kd.R_over' (v := (.slice (some ⟨go34, 0, none⟩) x11_2.length co36)) (Kp.kpR HO_39.out) (Kd.R_typed HO_11.out) (by decide) hg); have n5_ := Kp.a ((by rw [hw]; exact below_set (HB.out) GB34.out : Below w.heap.size w w38)); clear HO_11; clear HO_12; clear HO_13; clear HO_33; clear HO_39; clear HB; have HO_11 := n0_; have HO_12 := n1_; have HO_13 := n2_; have HO_33 := n3_; have HO_39 := n4_; have HB := n5_; clear n0_ n1_ n2_ n3_ n4_ n5_; clear hg hw hp_) | ((with_reducible refine gate_builtin (b := .append) (xs := #[.tmp 72, .tmp 76]) rfl ?_); at_builtin; refine Kd.R_append k37 (w0 := w) w.heap.size rfl (.tmp 72) (.tmp 76) 23 37 (.agg #[(.int .i64 0), (.int .i64 0)]) 16 rfl Try.underlying23 info37 rfl (by decide) (by omega) u12 x12_2 (⟨(rd t123 x35_1), rd t120 x41_2⟩ : S37) [.int .i64 (rd t123 x35_1), .int .i64 (rd t120 x41_2)] (fun _ => True) (fun _ => False) rfl rfl ?aP (fun _ hk => hk.elim) ?aF ?aO ?aB ?aS ?aL ?_; (case aP => exact k37_mkM _ _ _ (⟨(rd t123 x35_1), rd t120 x41_2⟩ : S37)); (case aB => exact (Kp.kpL HB.out)); (case aF => exact (fun _ _ => trivial)); (case aO => exact (Kp.kpR HO_12.out)); (case aS => exact (below_size (Kp.kpL HB.out))); (case aL => have := LMc35.out; omega); intro v133 w39 ho hb hg hat; rw [← Ny132.out] at ho; have n0_ := Kp.a (Kd.R_over' (Kp.kpR HO_11.out) (Kd.R_typed (Kp.kpR HO_12.out)) (by decide) hg); have n1_ := Kp.a (Kd.R_over' (Kp.kpR HO_13.out) (Kd.R_typed (Kp.kpR HO_12.out)) (by decide) hg); have n2_ := Kp.a (Kd.R_over' (Kp.kpR HO_33.out) (Kd.R_typed (Kp.kpR HO_12.out)) (by decide) hg); have n3_ := Kp.a (Kd.R_over' (Kp.kpR HO_39.out) (Kd.R_typed (Kp.kpR HO_12.out)) (by decide) hg); have n4_ := Kp.a (hb); have n5_ := Kp.a (ho); clear HO_11; clear HO_13; clear HO_33; clear HO_39; clear HB; clear HO_12; have HO_11 := n0_; have HO_13 := n1_; have HO_33 := n2_; have HO_39 := n3_; have HB := n4_; have HO134 := n5_; clear n0_ n1_ n2_ n3_ n4_ n5_; clear ho hb hg hat)); try go_wp2_with (first | ((with_reducible refine gate_store (t := 4) (p := 71) rfl ?_); (try (rw [drewN_self wr]; generalize hq_ : World.drewN wr _ = wr; have n0_ := Kp.a (Kd.R_at hq_ HO_11.out); have n1_ := Kp.a (Kd.R_at hq_ HO_12.out); have n2_ := Kp.a (Kd.R_at hq_ HO_13.out); have n3_ := Kp.a (Kd.R_at hq_ HO_33.out); have n4_ := Kp.a (Kd.R_at hq_ HO_39.out); have n5_ := Kp.a (below_at hq_ HB.out); clear hq_ HO_11 HO_12 HO_13 HO_33 HO_39 HB; have HO_11 := n0_; have HO_12 := n1_; have HO_13 := n2_; have HO_33 := n3_; have HO_39 := n4_; have HB := n5_; clear n0_ n1_ n2_ n3_ n4_ n5_; (try (have HP37 := Kd.R_putg HO_11.out ((rd t120 x41_2) : Int) true)); (try (obtain ⟨hx34_0, hf34_0⟩ := Kd.R_celln false HO_11.out ((rd t120 x41_2) : Int) (of_eq_true p34) (of_eq_true q34))))); refine store_event (t := 4) (p := 71) (v := ?vo_w38) (w1 := (wr.setCell ⟨go34, ((rd t120 x41_2) : Int).toNat, none⟩ (.bool true))) ?hg ?ho ?hn ?hr ?_; (case ho => rfl); (case hg => rfl); (case hn => rfl); (case hr => first | (go_simp; done) | (go_simp; rfl)); intro w38 hw; have hg : wr.grownBy w38 (some go34) := (by rw [hw]; exact HP37.2); have hp_ : Kd.R Kd.bool 4 w38 w.heap.size (fun _ => True) (.slice (some ⟨go34, 0, none⟩) x11_2.length co36) y131 := (by rw [hw, Ny131.out]; exact HP37.1); clear HP37; have n0_ := Kp.a (hp_); have n1_ := Kp.a (Kd.R_over' (v := (.slice (some ⟨go34, 0, none⟩) x11_2.length co36)) (Kp.kpR HO_12.out) (Kd.R_typed HO_11.out) (by decide) hg); have n2_ := Kp.a (Kd.R_over' (v := (.slice (some ⟨go34, 0, none⟩) x11_2.length co36)) (Kp.kpR HO_13.out) (Kd.R_typed HO_11.out) (by decide) hg); have n3_ := Kp.a (Kd.R_over' (v := (.slice (some ⟨go34, 0, none⟩) x11_2.length co36)) (Kp.kpR HO_33.out) (Kd.R_typed HO_11.out) (by decide) hg); have n4_ := Kp.a (Kd.R_over' (v := (.slice (some ⟨go34, 0, none⟩) x11_2.length co36)) (Kp.kpR HO_39.out) (Kd.R_typed HO_11.out) (by decide) hg); have n5_ := Kp.a ((by rw [hw]; exact below_set (HB.out) GB34.out : Below w.heap.size w w38)); clear HO_11; clear HO_12; clear HO_13; clear HO_33; clear HO_39; clear HB; have HO_11 := n0_; have HO_12 := n1_; have HO_13 := n2_; have HO_33 := n3_; have HO_39 := n4_; have HB := n5_; clear n0_ n1_ n2_ n3_ n4_ n5_; clear hg hw hp_) | ((with_reducible refine gate_builtin (b := .append) (xs := #[.tmp 72, .tmp 76]) rfl ?_); at_builtin; refine Kd.R_append k37 (w0 := w) w.heap.size rfl (.tmp 72) (.tmp 76) 23 37 (.agg #[(.int .i64 0), (.int .i64 0)]) 16 rfl Try.underlying23 info37 rfl (by decide) (by omega) u12 x12_2 (⟨(rd t123 x35_1), rd t120 x41_2⟩ : S37) [.int .i64 (rd t123 x35_1), .int .i64 (rd t120 x41_2)] (fun _ => True) (fun _ => False) rfl rfl ?aP (fun _ hk => hk.elim) ?aF ?aO ?aB ?aS ?aL ?_; (case aP => exact k37_mkM _ _ _ (⟨(rd t123 x35_1), rd t120 x41_2⟩ : S37)); (case aB => exact (Kp.kpL HB.out)); (case aF => exact (fun _ _ => trivial)); (case aO => exact (Kp.kpR HO_12.out)); (case aS => exact (below_size (Kp.kpL HB.out))); (case aL => have := LMc35.out; omega); intro v133 w39 ho hb hg hat; rw [← Ny132.out] at ho; have n0_ := Kp.a (Kd.R_over' (Kp.kpR HO_11.out) (Kd.R_typed (Kp.kpR HO_12.out)) (by decide) hg); have n1_ := Kp.a (Kd.R_over' (Kp.kpR HO_13.out) (Kd.R_typed (Kp.kpR HO_12.out)) (by decide) hg); have n2_ := Kp.a (Kd.R_over' (Kp.kpR HO_33.out) (Kd.R_typed (Kp.kpR HO_12.out)) (by decide) hg); have n3_ := Kp.a (Kd.R_over' (Kp.kpR HO_39.out) (Kd.R_typed (Kp.kpR HO_12.out)) (by decide) hg); have n4_ := Kp.a (hb); have n5_ := Kp.a (ho); clear HO_11; clear HO_13; clear HO_33; clear HO_39; clear HB; clear HO_12; have HO_11 := n0_; have HO_13 := n1_; have HO_33 := n2_; have HO_39 := n3_; have HB := n4_; have HO134 := n5_; clear n0_ n1_ n2_ n3_ n4_ n5_; clear ho hb hg hat)))
   go_roundg k2
   case measure => have := HK1.out; have := HK2.out; omega
   case rel => exact ⟨(y131), (y132), (wrap64 (x35_1 + 1)), (by first | rfl | (simp; done) | (simp [*]; done)), H', ⟨by have := HK1.out; have := HK2.out; omega⟩, ⟨Kp.kpR HO_11.out⟩, ⟨Kp.kpR HO134.out⟩, ⟨Kp.kpR HO_13.out⟩, ⟨Kp.kpR (Kd.R_mono HO_33.out (fun _ hk => hk.1))⟩, ⟨Kp.kpL HB.out⟩⟩
end Go.Proofs.Ytkijhilmgljegaa.PB


import Derived.Test.YtkijhilmgljegaaQTT0
import Derived.Test.YtkijhilmgljegaaVTk
import Derived.Test.YtkijhilmgljegaaQTT5
import Derived.Lib.Hide
import Derived.Maps.OwnOps
import Derived.Maps.OwnSet
import Derived.StillTailTactics
import Derived.Test.YtkijhilmgljegaaQTBlockedP
namespace Go.Proofs.Ytkijhilmgljegaa.PT
open Go.RowKit Go.Proofs.YtkijhilmgljegaaW.PrintWords Go.Proofs.YtkijhilmgljegaaW.PrintLast Go.Proofs.YtkijhilmgljegaaW.PrintMore
attribute [local go_sem] max2_int min2_int max_two min_two max_three min_three max_four min_four
set_option linter.unusedVariables false
set_option linter.unusedSimpArgs false
def psN (r : List S37) : List (Nat × Nat) := r.map fun p => (p.f0.toNat, p.f1.toNat)
def okPs (l0 l1 : List Int) (r : List S37) : Bool := decide (l0.length ≤ 1048576) && decide (l1.length ≤ 1048576) && decide (r.length ≤ 1048576) && r.all fun p => decide (0 ≤ p.f0) && decide (p.f0 < l0.length) && decide (0 ≤ p.f1) && decide (p.f1 < l1.length)
def impl_Blocked.f (k : Nat) (l0 : List Int) (l1 : List Int) (a2 : Int) (a3 : Int) : Option (List Int × List Int × Int) :=
 (impl_Matched.f k l0 l1 a2 a3).bind fun r => if r.2 = 0 then (if okPs l0 l1 r.1 = true then some (BlockedP.aP l0 l1 a2 a3 (psN r.1), BlockedP.bP l0 l1 a2 a3 (psN r.1), 0) else none) else some ([], [], r.2)
structure BB (W : World) (S : Nat) (A0 A1 : Option Addr) (n c0 m c1 : Nat) (a b : Int) : Prop where
 b0 : W.heap[S]? = some (.cells #[.slice A0 n c0] 22 (0, 0))
 b1 : W.heap[S + 1]? = some (.cells #[.slice A1 m c1] 22 (0, 0))
 b2 : W.heap[S + 1 + 1]? = some (.cells #[.int .i64 a] 3 (0, 0))
 b3 : W.heap[S + 1 + 1 + 1]? = some (.cells #[.int .i64 b] 3 (0, 0))
theorem BB.keep {W W2 : World} {S : Nat} {A0 A1 : Option Addr} {n c0 m c1 : Nat} {a b : Int} (h : BB W S A0 A1 n c0 m c1 a b) (hk : ∀ k, k < S + 4 → W2.heap[k]? = W.heap[k]?) : BB W2 S A0 A1 n c0 m c1 a b :=
 ⟨(hk _ (by omega)).trans h.b0, (hk _ (by omega)).trans h.b1, (hk _ (by omega)).trans h.b2, (hk _ (by omega)).trans h.b3⟩
set_option maxHeartbeats 2000000 in
set_option maxRecDepth 100000 in
theorem fits_calls (W : World) (S Bi : Nat) (A0 A1 : Option Addr) (n c0 m c1 : Nat) (a b : Int) (hb : BB W S A0 A1 n c0 m c1 a b) (vA : Option Addr) (vc : Nat) (hi : W.heap[Bi]? = some (.cells #[.slice vA n vc] 35 (0, 0)))
  (l0 l1 : List Int) (ins : List Bool) (hl0 : l0.length = n) (hl1 : l1.length = m) (hn : n ≤ 1048576) (hm : m ≤ 1048576) (hil : ins.length = n) (h0 : Kd.C (Kd.int .i64) W A0 n l0) (h1 : Kd.C (Kd.int .i64) W A1 m l1) (h2 : Kd.C Kd.bool W vA n ins) (s : Nat) (hs : s < m) (r : Bool) (hr : BlockedP.fits l0 l1 a b ins s = r) :
  Calls Try.prog 25 #[.int .i64 s, .pointer (some ⟨Bi, 0, none⟩), .pointer (some ⟨S, 0, none⟩), .pointer (some ⟨S + 1, 0, none⟩), .pointer (some ⟨S + 1 + 1, 0, none⟩), .pointer (some ⟨S + 1 + 1 + 1, 0, none⟩)] W fun e w' => e = .returned (.bool r) ∧ ∃ q, w' = W.drewN q := by
 have k0 := blk_cell hb.b0 0
 have k1 := blk_cell hb.b1 0
 have k2 := blk_cell hb.b2 0
 have k3 := blk_cell hb.b3 0
 have k4 := blk_cell hi 0
 obtain ⟨ad1, rfl, x1⟩ := Kd.at_int h1 (s : Int) (by omega) (by omega)
 rw [Int.toNat_natCast] at x1
 have ex1 : rd l1 (s : Int) = l1.getD s 0 := by simp [rd]
 rw [ex1] at x1
 have HR := Lib.hid hr
 clear hr ex1
 go_enter Try.func25, Try.ntmps25
 go_wp2
 go_loopg [13] n (fun k s13 wr => ∃ h : Nat, s13 = .int .i64 h ∧ h ≤ n ∧ n - h ≤ k ∧ (∃ q, wr = W.drewN q) ∧ Aside0 (∀ t, t < h → BlockedP.fitAt l0 l1 a b ins s t = false))
 case atStart => exact ⟨0, rfl, by omega, by omega, ⟨0, rfl⟩, ⟨fun t ht => by omega⟩⟩
 obtain ⟨h, rfl, hh, hk, ⟨q, hwr⟩, hF⟩ := hrel
 have HW := Lib.hid hwr
 have cc : ∀ ad : Addr, wr.cell? ad = W.cell? ad := fun ad => by rw [hwr]; rfl
 by_cases hlt : h < n
 rotate_left
 ·obtain rfl : h = n := by omega
  clear hwr cc
  go_wp2
  go_ret
  exact ⟨by rw [← HR.out, BlockedP.fits_no (fun t ht => hF.out t (by omega))]; rfl, q, HW.out⟩
 obtain ⟨ad0, e0, x0⟩ := Kd.at_int h0 (h : Int) (by omega) (by omega)
 obtain ⟨ad2, e2, x2⟩ := Kd.at_bool h2 (h : Int) (by omega) (by omega)
 subst e0 e2
 rw [Int.toNat_natCast] at x0 x2
 rw [show rd l0 (h : Int) = l0.getD h 0 by simp [rd]] at x0
 rw [show rdOf false ins (h : Int) = ins.getD h false by simp [rdOf]] at x2
 obtain ⟨x, hx⟩ : ∃ x, x = l0.getD h 0 := ⟨_, rfl⟩
 obtain ⟨y, hy⟩ : ∃ y, y = l1.getD s 0 := ⟨_, rfl⟩
 obtain ⟨z, hz⟩ : ∃ z, z = ins.getD h false := ⟨_, rfl⟩
 have hfit : BlockedP.fitAt l0 l1 a b ins s h = (z && (decide (a ≤ wrap64 (x - y)) && decide (wrap64 (x - y) ≤ b))) := by rw [hx, hy, hz]; rfl
 have HFIT := Lib.hid hfit
 rw [← hx] at x0
 rw [← hy] at x1
 rw [← hz] at x2
 have hyy := Lib.hid hy
 have y0 := (cc _).trans x0
 have y1 := (cc _).trans x1
 have y2 := (cc _).trans x2
 have j0 := (cc _).trans k0
 have j1 := (cc _).trans k1
 have j2 := (cc _).trans k2
 have j3 := (cc _).trans k3
 have j4 := (cc _).trans k4
 have hlt2 : (h : Int) < (n : Int) := by omega
 have hz0 : (0 : Int) ≤ (h : Int) := by omega
 obtain ⟨g, hg⟩ : ∃ g, g = wrap64 (x - y) := ⟨_, rfl⟩
 have HG := Lib.hid hg
 clear cc x0 x1 x2 k0 k1 k2 k3 k4 hx hy hz hfit hwr hg
 have out : BlockedP.fitAt l0 l1 a b ins s h = false → ∀ q', ∃ h' : Nat, Value.int .i64 ((h : Int) + 1) = .int .i64 (h' : Nat) ∧ h' ≤ n ∧ n - h' ≤ n - (h + 1) ∧ (∃ q, wr.drewN q' = W.drewN q) ∧ Aside0 (∀ t, t < h' → BlockedP.fitAt l0 l1 a b ins s t = false) := fun hf q' =>
  ⟨h + 1, by go_num, hlt, Nat.le_refl _, ⟨q + q', by rw [HW.out]; exact World.drewN_drewN _ _ _⟩, ⟨fun t ht => by
   by_cases e : t = h
   ·rw [e]; exact hf
   exact hF.out t (by omega)⟩⟩
 have OUT := Lib.hid out
 clear out
 go_wp2
 go_quiet (fail)
 have hF2 := HFIT.out
 generalize wrap64 (x - y) = g at hF2 ⊢
 have HF2 := Lib.hid hF2
 clear HFIT hF2
 cases z with
 | false =>
  go_wp2
  go_roundg (n - (h + 1))
  case measure => omega
  case rel => exact OUT.out (by rw [HF2.out]; rfl) nq
 | true =>
  by_cases ca : a ≤ g
  rotate_left
  ·have ca2 : decide (a ≤ g) = false := decide_eq_false ca
   go_wp2
   go_roundg (n - (h + 1))
   case measure => omega
   case rel => exact OUT.out (by rw [HF2.out, ca2]; rfl) nq
  by_cases cb : g ≤ b
  ·have ca2 : decide (a ≤ g) = true := decide_eq_true ca
   have cb2 : decide (g ≤ b) = true := decide_eq_true cb
   go_wp2
   go_ret
   refine ⟨?_, q + nq, by rw [HW.out]; exact World.drewN_drewN _ _ _⟩
   rw [← HR.out, BlockedP.fits_yes (t := h) (by omega) (by rw [HF2.out, ca2, cb2]; rfl)]; rfl
  have ca2 : decide (a ≤ g) = true := decide_eq_true ca
  have cb2 : decide (g ≤ b) = false := decide_eq_false cb
  go_wp2
  go_roundg (n - (h + 1))
  case measure => omega
  case rel => exact OUT.out (by rw [HF2.out, ca2, cb2]; rfl) nq
theorem bk_new (w : World) (o : Obj) : (w.alloc o).heap[w.heap.size]? = some o := by
 show (w.heap.push o)[w.heap.size]? = some o
 simp
theorem BB.made (w : World) (A0 A1 : Option Addr) (n c0 m c1 : Nat) (a b : Int) : BB ((((w.alloc (.cells #[.slice A0 n c0] 22)).alloc (.cells #[.slice A1 m c1] 22)).alloc (.cells #[.int .i64 a] 3)).alloc (.cells #[.int .i64 b] 3)) w.heap.size A0 A1 n c0 m c1 a b := by
 refine ⟨blk_alloc (blk_alloc (blk_alloc (bk_new w _) _) _) _, ?_, ?_, ?_⟩
 ·have := bk_new (w.alloc (.cells #[.slice A0 n c0] 22)) (.cells #[.slice A1 m c1] 22)
  rw [World.size_alloc] at this
  exact blk_alloc (blk_alloc this _) _
 ·have := bk_new ((w.alloc (.cells #[.slice A0 n c0] 22)).alloc (.cells #[.slice A1 m c1] 22)) (.cells #[.int .i64 a] 3)
  rw [World.size_alloc, World.size_alloc] at this
  exact blk_alloc this _
 have := bk_new (((w.alloc (.cells #[.slice A0 n c0] 22)).alloc (.cells #[.slice A1 m c1] 22)).alloc (.cells #[.int .i64 a] 3)) (.cells #[.int .i64 b] 3)
 rw [World.size_alloc, World.size_alloc, World.size_alloc] at this
 exact this
theorem BB.below {W W2 : World} {S : Nat} {A0 A1 : Option Addr} {n c0 m c1 : Nat} {a b : Int} (h : BB W S A0 A1 n c0 m c1 a b) (hb : Below W.heap.size W W2) : BB W2 S A0 A1 n c0 m c1 a b :=
 h.keep (fun k hk => hb.block k (by have := blk_lt h.b3; omega))
structure BK (w1 wr : World) (Bi n : Nat) (vA : Option Addr) (vc : Nat) (ins : List Bool) : Prop where
 bel : Below w1.heap.size w1 wr
 bi : wr.heap[Bi]? = some (.cells #[.slice vA n vc] 35 (0, 0))
 row : Kd.R Kd.bool 4 wr w1.heap.size (fun k => k ≠ Bi) (.slice vA n vc) ins
 ge : w1.heap.size ≤ Bi
theorem BK.put {w1 wr : World} {Bi n g cap : Nat} {ins : List Bool} (h : BK w1 wr Bi n (some ⟨g, 0, none⟩) cap ins) (i : Nat) (x : Bool) : BK w1 (wr.setCell ⟨g, i, none⟩ (.bool x)) Bi n (some ⟨g, 0, none⟩) cap (ins.set i x) := by
 have hg := h.row.1 g rfl
 have hb := Kd.R_base h.row g rfl
 have hp := (Kd.R_putg h.row (i : Int) x).1
 rw [Int.toNat_natCast] at hp
 exact ⟨below_set h.bel hb, (Below.heap_setCell wr ⟨g, i, none⟩ _ Bi (fun e => hg e.symm)).trans h.bi, hp, h.ge⟩
theorem BK.low {w1 wr w2 : World} {Bi n : Nat} {vA : Option Addr} {vc : Nat} {ins : List Bool} (h : BK w1 wr Bi n vA vc ins) (hb : Below wr.heap.size wr w2) : BK w1 w2 Bi n vA vc ins :=
 ⟨h.bel.trans (hb.mono h.bel.size), blk_below h.bi hb, Kd.R_below h.row hb, h.ge⟩
theorem BK.at {w1 wr : World} {Bi n : Nat} {vA : Option Addr} {vc : Nat} {ins : List Bool} (h : BK w1 wr Bi n vA vc ins) (hl : ins.length = n) (i : Nat) (hi : i < n) :
  ∃ g, vA = some ⟨g, 0, none⟩ ∧ wr.cell? ⟨g, i, none⟩ = some (.bool (ins.getD i false)) ∧ wr.frozen? ⟨g, i, none⟩ = false := by
 obtain ⟨g, cap, e, hb, hgl, _⟩ := Kd.R_form h.row (by omega)
 injection e with e1 _ e3
 subst e1 e3
 obtain ⟨x1, x2⟩ := Kd.R_celln false h.row (i : Int) (by omega) (by omega)
 rw [Int.toNat_natCast] at x1 x2
 refine ⟨g, rfl, ?_, x2⟩
 rw [x1]; simp [rdOf]
theorem BK.putg {w1 wr : World} {Bi n g cap : Nat} {ins : List Bool} (h : BK w1 wr Bi n (some ⟨g, 0, none⟩) cap ins) (i : Nat) (x : Bool) : wr.grownBy (wr.setCell ⟨g, i, none⟩ (.bool x)) (some g) := by
 have hp := (Kd.R_putg h.row (i : Int) x).2
 rwa [Int.toNat_natCast] at hp
def MapOk (W : World) (b N : Nat) (mt : Nat → Option Nat) : Prop :=
 ∃ D : DataW Unit, W.ownsMap Try.prog 3 (plainElem Try.prog 3) b N D ∧ Maps.IsMap D ∧ ∀ s : Nat, s ≤ 1048576 → Maps.has D (.int .i64 s) = (mt s).isSome ∧ D.atKey (.int .i64 s) (.lit (.int .i64 0)) = .lit (.int .i64 (((mt s).getD 0 : Nat) : Int))
theorem MapOk.made (W : World) : MapOk (W.alloc (.map #[] 0)) W.heap.size 0 (fun _ => none) :=
 ⟨.map [], World.ownsMap_made W _ _ _, Maps.isMap_empty, fun s _ => ⟨by simp [Maps.has], by simp [DataW.atKey]⟩⟩
theorem MapOk.is_map {W : World} {b N : Nat} {mt : Nat → Option Nat} (h : MapOk W b N mt) : ∃ es c, W.heap[b]? = some (.map es c) := by
 obtain ⟨D, ⟨es, clock, hb, _⟩, _⟩ := h
 exact ⟨es, clock, hb⟩
theorem MapOk.kept {W W2 : World} {b N : Nat} {mt : Nat → Option Nat} {row : Option Nat} (h : MapOk W b N mt) (hg : W.grownBy W2 row) (hne : some b ≠ row) : MapOk W2 b N mt := by
 obtain ⟨D, ho, r⟩ := h
 exact ⟨D, ho.kept hg hne, r⟩
theorem MapOk.drewN {W : World} {b N : Nat} {mt : Nat → Option Nat} (h : MapOk W b N mt) (q : Nat) : MapOk (W.drewN q) b N mt := h
theorem MapOk.ne {W : World} {b N k : Nat} {mt : Nat → Option Nat} {c : Array Value} {e : TypeId} {f : Nat × Nat} (h : MapOk W b N mt) (hk : W.heap[k]? = some (.cells c e f)) : b ≠ k := by
 obtain ⟨es, cl, hb⟩ := h.is_map
 rintro rfl
 rw [hb] at hk; exact absurd hk (by simp)
theorem BK.mapped {w1 wr w2 : World} {Bi n N b : Nat} {vA : Option Addr} {vc : Nat} {ins : List Bool} {mt : Nat → Option Nat} (h : BK w1 wr Bi n vA vc ins) (hm : MapOk wr b N mt) (hb : w1.heap.size ≤ b) (hg : wr.grownBy w2 (some b)) : BK w1 w2 Bi n vA vc ins := by
 refine ⟨h.bel.grown hg h.bel.size (fun k hk => by injection hk with hk; omega), ?_, ?_, h.ge⟩
 ·have := hm.ne h.bi
  exact (hg.block Bi (blk_lt h.bi) (fun e => by injection e with e; omega)).trans h.bi
 have h3 : Kd.R Kd.bool 4 wr w1.heap.size (fun k => k ≠ Bi ∧ k ≠ b) (.slice vA n vc) ins := Kd.R_mono (Kd.R_bound h.row) (fun k hk => ⟨hk.1, by
  obtain ⟨_, _, _, q, _, cells, hc⟩ := hk
  exact fun e => hm.ne hc e.symm⟩)
 exact Kd.R_mono (Kd.R_grown h3 hg (fun k hk e => hk.2 (by injection e))) (fun k hk => hk.1)
theorem bk_keyed : Maps.Keyed Try.prog 3 := Maps.int_keyed Try.underlying3
theorem bk_zero (w : World) : (zeroValue 3).run Try.prog w = .ok (.int .i64 0) w := by kernel_rfl
theorem wf_small (s : Nat) (h : s ≤ 1048576) : (Lit.int .i64 (s : Int)).wf = true := WalkArith.wf_i64 (by omega)
theorem wpList_mput (w : World) {ops : Array Oper} {rest : List Oper} {o : Oper} {a : Act} {Q : Exit → Act → World → Prop} (hg : o.guard = none) (m x v : Operand) (hop : o.op = Op.mapUpdate 46 m x v) {b N : Nat} {mt : Nat → Option Nat} (h : MapOk w b N mt) (hN : N ≤ 1048576)
  (s hh : Nat) (hs : s ≤ 1048576) (hhl : hh ≤ 1048576) (hm : a.eval m = .map (some b)) (hx : a.eval x = .int .i64 s) (hv : a.eval v = .int .i64 hh)
  (hK : ∀ w', MapOk w' b (N + 1) (fun t => if t = s then some hh else mt t) → w.grownBy w' (some b) → wpList Try.prog ops Q rest (a.put o.dst undef) w') : wpList Try.prog ops Q (o :: rest) a w := by
 obtain ⟨D, ho, hi, hat⟩ := h
 have hkey := Maps.keyOf_int_mk (q := .i64) Try.underlying3 (wf_small s hs)
 refine wpList_mapUpdate_own w hg m x v 46 hop 3 3 bk_keyed Try.underlying46 _ b N D hm ho (by unfold maxLen; omega) _ _ _ hx hv hkey _ [] (plainElem_int Try.underlying3 (wf_small hh hhl)) ?_
 intro w' ho' hg'
 refine hK w' ⟨_, ho', hi.put _ _, fun t ht => ?_⟩ hg'
 dsimp only
 by_cases e : t = s
 ·subst e
  rw [if_pos rfl, Maps.has_put_same hi (bk_keyed.key hkey), Maps.atKey_put_same hi (bk_keyed.key hkey)]
  exact ⟨rfl, rfl⟩
 have hne : (Lit.int .i64 (t : Int)) ≠ Lit.int .i64 (s : Int) := fun h => e (by injection h with _ h; omega)
 rw [if_neg e, Maps.has_put_other hne, Maps.atKey_put_other hne]
 exact hat t ht
theorem wpList_mlook_none (w : World) {ops : Array Oper} {rest : List Oper} {o : Oper} {a : Act} {Q : Exit → Act → World → Prop} (hg : o.guard = none) (m x : Operand) (hop : o.op = Op.lookup 46 m x true) {b N : Nat} {mt : Nat → Option Nat} (h : MapOk w b N mt)
  (s : Nat) (hs : s ≤ 1048576) (hmt : mt s = none) (hm : a.eval m = .map (some b)) (hx : a.eval x = .int .i64 s)
  (hK : wpList Try.prog ops Q rest (a.put o.dst (.tuple #[.int .i64 0, .bool false])) w) : wpList Try.prog ops Q (o :: rest) a w := by
 obtain ⟨D, ho, hi, hat⟩ := h
 have hkey := Maps.keyOf_int_mk (q := .i64) Try.underlying3 (wf_small s hs)
 refine wpList_lookup_own_ok_int w hg m x 46 hop 3 3 .i64 bk_keyed Try.underlying46 Try.underlying3 (bk_zero w) b N D hm ho _ _ hx hkey ?_
 intro c hc _
 obtain ⟨e1, e2⟩ := hat s hs
 rw [hmt] at e1 e2
 rw [e1]
 rw [e2] at hc
 injection hc with hc; injection hc with _ hc
 rw [← hc]; exact hK
theorem wpList_mlook_some (w : World) {ops : Array Oper} {rest : List Oper} {o : Oper} {a : Act} {Q : Exit → Act → World → Prop} (hg : o.guard = none) (m x : Operand) (hop : o.op = Op.lookup 46 m x true) {b N : Nat} {mt : Nat → Option Nat} (h : MapOk w b N mt)
  (s hh : Nat) (hs : s ≤ 1048576) (hmt : mt s = some hh) (hm : a.eval m = .map (some b)) (hx : a.eval x = .int .i64 s)
  (hK : wpList Try.prog ops Q rest (a.put o.dst (.tuple #[.int .i64 hh, .bool true])) w) : wpList Try.prog ops Q (o :: rest) a w := by
 obtain ⟨D, ho, hi, hat⟩ := h
 have hkey := Maps.keyOf_int_mk (q := .i64) Try.underlying3 (wf_small s hs)
 refine wpList_lookup_own_ok_int w hg m x 46 hop 3 3 .i64 bk_keyed Try.underlying46 Try.underlying3 (bk_zero w) b N D hm ho _ _ hx hkey ?_
 intro c hc _
 obtain ⟨e1, e2⟩ := hat s hs
 rw [hmt] at e1 e2
 rw [e1]
 rw [e2] at hc
 injection hc with hc; injection hc with _ hc
 rw [← hc]; exact hK
theorem R_int_ok {w : World} {base : Nat} {ok ok' : Nat → Prop} {v : Value} {xs : List Int} (h : Kd.R (Kd.int .i64) 3 w base ok v xs) (h' : ∀ k, v.ownBlock = some k → ok' k) : Kd.R (Kd.int .i64) 3 w base ok' v xs := ⟨h', h.2⟩
theorem BK.grown {w1 wr w2 : World} {Bi n : Nat} {vA : Option Addr} {vc : Nat} {ins : List Bool} {ok : Nat → Prop} {v : Value} {xs : List Int} (h : BK w1 wr Bi n vA vc ins) (hr : Kd.R (Kd.int .i64) 3 wr w1.heap.size ok v xs) (hne : some Bi ≠ v.ownBlock) (hg : wr.grownBy w2 v.ownBlock) : BK w1 w2 Bi n vA vc ins :=
 ⟨h.bel.grown hg h.bel.size (fun k hk => Kd.R_base hr k hk), (hg.block Bi (blk_lt h.bi) hne).trans h.bi, Kd.R_over' h.row (Kd.R_typed hr) (by decide) hg, h.ge⟩
theorem BK.drewN {w1 wr : World} {Bi n : Nat} {vA : Option Addr} {vc : Nat} {ins : List Bool} (h : BK w1 wr Bi n vA vc ins) (q : Nat) : BK w1 (wr.drewN q) Bi n vA vc ins :=
 h.low (pw_below_drewN (Below.refl _ _) q)
set_option maxHeartbeats 8000000 in
set_option maxRecDepth 100000 in
theorem impl_Blocked.calls (k : Nat) (A0 : Option Addr) (c0 : Nat) (l0 : List Int) (A1 : Option Addr) (c1 : Nat) (l1 : List Int) (a2 : Int) (a3 : Int) (r1 : List Int) (r2 : List Int) (r3 : Int) (w : World) (hr0 : Kd.C (Kd.int .i64) w A0 l0.length l0) (hc0 : l0.length ≤ c0) (hr1 : Kd.C (Kd.int .i64) w A1 l1.length l1) (hc1 : l1.length ≤ c1) (h : impl_Blocked.f k l0 l1 a2 a3 = some (r1, r2, r3)) :
  Calls Try.prog 15 #[.slice A0 l0.length c0, .slice A1 l1.length c1, .int .i64 a2, .int .i64 a3] w fun e w' => ∃ v0_ v1_ : Value, e = .returned (.tuple #[v0_, v1_, .int .i64 r3]) ∧ Kd.R (Kd.int .i64) 3 w' w.heap.size (fun k_ => some k_ ≠ (v1_ : Value).ownBlock) v0_ r1 ∧ Kd.R (Kd.int .i64) 3 w' w.heap.size (fun k_ => some k_ ≠ (v0_ : Value).ownBlock) v1_ r2 ∧ Below w.heap.size w w' := by
 unfold impl_Blocked.f at h
 cases hm : impl_Matched.f k l0 l1 a2 a3 with
 | none => rw [hm] at h; exact absurd h (by simp)
 | some r =>
  obtain ⟨ps, c⟩ := r
  rw [hm, Option.bind_some] at h
  have W4 : Below w.heap.size w ((((w.alloc (.cells #[.slice A0 l0.length c0] 22)).alloc (.cells #[.slice A1 l1.length c1] 22)).alloc (.cells #[.int .i64 a2] 3)).alloc (.cells #[.int .i64 a3] 3)) :=
   ((((Below.refl _ _).alloc (Nat.le_refl _) _).alloc (by simp) _).alloc (by simp; omega) _).alloc (by simp; omega) _
  have hcall := impl_Matched.calls k A0 c0 l0 A1 c1 l1 a2 a3 ps c _ (Kd.C_below hr0 W4) hc0 (Kd.C_below hr1 W4) hc1 hm
  have HR := Lib.hid h
  clear h hm
  by_cases hc : c = 0
  rotate_left
  ·have hr : r1 = [] ∧ r2 = [] ∧ r3 = c := by
    have := HR.out; rw [if_neg hc] at this
    injection this with this; injection this with e1 e2; injection e2 with e2 e3
    exact ⟨e1.symm, e2.symm, e3.symm⟩
   obtain ⟨rfl, rfl, rfl⟩ := hr
   clear HR
   go_enter Try.func15, Try.ntmps15
   go_wp2_with (go_at_call 8; refine hcall.mono ?_; rintro e w1 ⟨v0, rfl, _, hb1⟩)
   go_ret3
   exact ⟨_, _, rfl, Kd.R_nil _ _ _ _ _, Kd.R_nil _ _ _ _ _, W4.trans (hb1.mono (by simp; omega))⟩
  have hr : okPs l0 l1 ps = true ∧ r1 = BlockedP.aP l0 l1 a2 a3 (psN ps) ∧ r2 = BlockedP.bP l0 l1 a2 a3 (psN ps) ∧ r3 = 0 := by
   have := HR.out; rw [if_pos hc] at this
   split at this
   ·injection this with this; injection this with e1 e2; injection e2 with e2 e3
    exact ⟨by assumption, e1.symm, e2.symm, e3.symm⟩
   exact absurd this (by simp)
  obtain ⟨hok, e1, e2, rfl⟩ := hr
  subst hc
  simp only [okPs, Bool.and_eq_true, decide_eq_true_eq, List.all_eq_true] at hok
  obtain ⟨⟨⟨hn, hm⟩, hp⟩, hps⟩ := hok
  have E1 := Lib.hid e1
  have E2 := Lib.hid e2
  have HPS := Lib.hid hps
  obtain ⟨n, hnn⟩ : ∃ n, l0.length = n := ⟨_, rfl⟩
  obtain ⟨m, hmm⟩ : ∃ m, l1.length = m := ⟨_, rfl⟩
  rw [hnn] at hr0 hc0 hn hcall W4 ⊢
  rw [hmm] at hr1 hc1 hm hcall W4 ⊢
  have HN := Lib.hid hnn
  have HM := Lib.hid hmm
  have H0 := Lib.hid hr0
  have H1 := Lib.hid hr1
  have H4 := Lib.hid W4
  clear e1 e2 hps hnn hmm HR hr0 hr1 W4
  have h00 : (0 : Int) ≤ (n : Int) := by omega
  have BB0 := Lib.hid (BB.made w A0 A1 n c0 m c1 a2 a3)
  go_enter Try.func15, Try.ntmps15
  go_wp2_with (first
   | (go_at_call 8; refine hcall.mono ?_; rintro e w1 ⟨v0, rfl, hR0, hb1⟩; obtain ⟨P0, pc, ev⟩ : ∃ P0 pc, v0 = .slice P0 ps.length pc := Kd.R_slice hR0; subst ev; have HR0 := Lib.hid hR0; have HB1 := Lib.hid hb1; have BB1 := Lib.hid (BB0.out.below hb1); have q0 := blk_cell BB1.out.b0 0; clear hR0 hb1)
   | ((with_reducible refine gate_dst (N := 41) rfl ?_); refine Kd.R_make Kd.bool _ 4 rfl (N := 41) rfl 35 _ _ rfl (n : Int) rfl rfl Try.underlying35 (.bool false) 1 info4 rfl (by decide) (by omega) false (ok := fun _ => True) (okp := fun _ => False) rfl (fun _ hk => hk.elim) trivial h00 (by omega) (Below.refl _ _) (Nat.le_refl _) ?_; intro v4 w4 ho5 hb5 hg5 hn5; obtain ⟨Aq, cq, e4⟩ : ∃ Aq cq, v4 = .slice Aq n cq := (by obtain ⟨Aq, cq, e⟩ := Kd.R_slice ho5; exact ⟨Aq, cq, by simpa using e⟩); subst e4; have HO := Lib.hid ho5; have HB := Lib.hid hb5; clear ho5 hb5 hg5 hn5))
  have hw14 : Below w1.heap.size w1 w4 := HB.out
  have hbk : BK w1 (w4.alloc (.cells #[.slice Aq n cq] 35)) w4.heap.size n Aq cq (BlockedP.initB n 0) := by
   refine ⟨hw14.alloc hw14.size _, bk_new _ _, ?_, hw14.size⟩
   have h1 := HO.out
   rw [Int.toNat_natCast, ← BlockedP.initB_zero] at h1
   have h3 : Kd.R Kd.bool 4 w4 w1.heap.size (fun k => k ≠ w4.heap.size) (.slice Aq n cq) (BlockedP.initB n 0) := Kd.R_mono (Kd.R_bound h1) (fun k hk => by have := hk.2.2.1; omega)
   exact Kd.R_below h3 ((Below.refl _ _).alloc (Nat.le_refl _) _)
  obtain ⟨Bi, hBe⟩ : ∃ Bi, Bi = w4.heap.size := ⟨_, rfl⟩
  obtain ⟨W1, hW1⟩ : ∃ W1, W1 = w4.alloc (.cells #[.slice Aq n cq] 35) := ⟨_, rfl⟩
  rw [← hW1] at hbk ⊢
  rw [← hBe] at hbk ⊢
  clear hW1 hBe hw14 HO HB q0
  go_loopg [44] n (fun k s44 wr => ∃ i : Nat, s44 = .int .i64 i ∧ i ≤ n ∧ n - i ≤ k ∧ BK w1 wr Bi n Aq cq (BlockedP.initB n i))
  case atStart => exact ⟨0, rfl, by omega, by omega, hbk⟩
  clear hbk
  obtain ⟨i, rfl, hi, hk, H⟩ := hrel
  have qB := blk_cell H.bi 0
  by_cases hlt : i < n
  ·obtain ⟨g, rfl, x1, x2⟩ := H.at (BlockedP.initB_len n i) i hlt
   have H2 := H.put i true
   rw [BlockedP.initB_set n i hlt] at H2
   have hlt2 : (i : Int) < (n : Int) := by omega
   clear H
   go_wp2
   go_roundg (n - (i + 1))
   case measure => omega
   case rel => exact ⟨i + 1, by go_num, hlt, Nat.le_refl _, H2⟩
  obtain rfl : n = i := by omega
  have H1' : BK w1 wr Bi n Aq cq (List.replicate n true) := by rw [← BlockedP.initB_all]; exact H
  clear H
  have hmk := @run_makeMap Try.prog
  go_wp2
  have hM0 := MapOk.made wr
  have hB0 := H1'.low ((Below.refl _ _).alloc (Nat.le_refl _) (.map #[] 0))
  have hbm : w1.heap.size ≤ wr.heap.size := H1'.bel.size
  have hCp : Kd.C k37 w1 P0 ps.length ps := (Kd.R_reads' HR0.out).2.2
  obtain ⟨Bm, hBm⟩ : ∃ Bm, Bm = wr.heap.size := ⟨_, rfl⟩
  obtain ⟨W2, hW2⟩ : ∃ W2, W2 = wr.alloc (.map #[] 0) := ⟨_, rfl⟩
  rw [← hW2] at hM0 hB0 ⊢
  rw [← hBm] at hM0 hbm ⊢
  have HCP := Lib.hid hCp
  clear hW2 hBm H1' hmk hCp qB
  go_loopg [54] ps.length (fun k s54 wr => ∃ i : Nat, s54 = .int .i64 i ∧ i ≤ ps.length ∧ ps.length - i ≤ k ∧ BK w1 wr Bi n Aq cq (BlockedP.outAll (List.replicate n true) ((psN ps).take i)) ∧ MapOk wr Bm i (BlockedP.mateF ((psN ps).take i)))
  case atStart => exact ⟨0, rfl, by omega, by omega, hB0, hM0⟩
  clear hB0 hM0
  obtain ⟨i, rfl, hi, hk, H, HMp⟩ := hrel
  have HM2 := Lib.hid HMp
  clear HMp
  by_cases hlt : i < ps.length
  ·obtain ⟨pad, pe, p0, p1⟩ := at_T37 (Kd.C_below HCP.out H.bel) i (by omega) (by omega)
   have hq := HPS.out ps[i] (List.getElem_mem hlt)
   have ep : rd_T37 ps i = ps[i] := by unfold rd_T37; simp [hlt]
   rw [ep] at p0 p1
   rw [Int.toNat_natCast] at p0 p1
   obtain ⟨⟨⟨hq0, hq1⟩, hq2⟩, hq3⟩ := hq
   obtain ⟨x, hx⟩ : ∃ x : Nat, ps[i].f0 = (x : Int) := ⟨ps[i].f0.toNat, by omega⟩
   obtain ⟨y, hy⟩ : ∃ y : Nat, ps[i].f1 = (y : Int) := ⟨ps[i].f1.toNat, by omega⟩
   have hsn : (psN ps).take (i + 1) = (psN ps).take i ++ [(x, y)] := by
    have hl : i < (psN ps).length := by simpa [psN] using hlt
    rw [List.take_succ_eq_append_getElem hl]
    simp [psN, hx, hy]
   rw [hx] at p0 hq1
   rw [hy] at p1 hq3
   have hxn : x < n := by have := HN.out; omega
   have hym : y < m := by have := HM.out; omega
   have HSN := Lib.hid hsn
   subst pe
   have hz0 : (0 : Int) ≤ (i : Int) := by omega
   have hlt2 : (i : Int) < (ps.length : Int) := by omega
   have H' := H.low ((Below.refl _ _).alloc (Nat.le_refl _) (.cells #[.int .i64 x, .int .i64 y] 37))
   have M' := HM2.out.kept (World.grownBy_alloc wr (.cells #[.int .i64 x, .int .i64 y] 37) none) (by simp)
   have hlen : (BlockedP.outAll (List.replicate n true) ((psN ps).take i)).length = n := by rw [BlockedP.len_outAll]; simp
   have qB := blk_cell H'.bi 0
   obtain ⟨g, eg, x1, x2⟩ := H'.at hlen x hxn
   subst eg
   have H2 := H'.put x false
   obtain ⟨cells, hcc⟩ := Kd.R_typed H'.row g rfl
   have hne := M'.ne hcc
   clear hcc
   have M2 := M'.kept (H'.putg x false) (by simpa using hne)
   rw [← BlockedP.outAll_snoc _ _ (x, y)] at H2
   have hgl : g < wr.heap.size := Kd.R_lt H.row g rfl
   have y0 : ((wr.alloc (.cells #[.int .i64 x, .int .i64 y] 37)).setCell ⟨g, x, none⟩ (.bool false)).cell? ⟨wr.heap.size, 0, none⟩ = some (.int .i64 x) :=
    (World.cell?_setCell_other _ _ _ _ (fun e => by have := congrArg Addr.block e; dsimp only at this; omega)).trans (blk_cell (bk_new _ _) 0)
   have y1 : ((wr.alloc (.cells #[.int .i64 x, .int .i64 y] 37)).setCell ⟨g, x, none⟩ (.bool false)).cell? ⟨wr.heap.size, 1, none⟩ = some (.int .i64 y) :=
    (World.cell?_setCell_other _ _ _ _ (fun e => by have := congrArg Addr.block e; dsimp only at this; omega)).trans (blk_cell (bk_new _ _) 1)
   have G2 := Lib.hid H2
   have N2 := Lib.hid M2
   clear H H' M' H2 M2 hgl
   go_wp2_with (first | (at_mapUpdate; refine wpList_mput _ rfl _ _ _ rfl N2.out (by omega) y x (by omega) (by omega) rfl rfl rfl ?_; intro w2 hm2 hg2; have G3 := Lib.hid (G2.out.mapped N2.out hbm hg2); have N3 := Lib.hid hm2; clear hm2 hg2))
   go_roundg (ps.length - (i + 1))
   case measure => omega
   refine ⟨i + 1, by go_num, hlt, Nat.le_refl _, by rw [HSN.out]; exact G3.out, ?_⟩
   have := N3.out
   rw [HSN.out, show BlockedP.mateF ((psN ps).take i ++ [(x, y)]) = (fun t => if t = y then some x else BlockedP.mateF ((psN ps).take i) t) from funext fun t => BlockedP.mateF_snoc _ _ _]
   exact this
  obtain rfl : i = ps.length := by omega
  have htk : (psN ps).take ps.length = psN ps := by rw [List.take_of_length_le]; simp [psN]
  rw [htk] at H
  have M1 := HM2.out
  rw [htk] at M1
  have M2 := Lib.hid M1
  clear M1 HM2 htk
  obtain ⟨ins0, hin0⟩ : ∃ ins0, ins0 = BlockedP.outAll (List.replicate n true) (psN ps) := ⟨_, rfl⟩
  have hl0 : ins0.length = n := by rw [hin0, BlockedP.len_outAll]; simp
  rw [← hin0] at H
  have HI := Lib.hid hin0
  have HL := Lib.hid hl0
  clear hin0 hl0 HCP hi
  obtain ⟨mt, hmt⟩ : ∃ mt, mt = BlockedP.mateF (psN ps) := ⟨_, rfl⟩
  have hmn : ∀ s h, mt s = some h → h < n := fun s h e => by
   rw [hmt] at e
   have := BlockedP.mateF_mem _ _ _ e
   simp only [psN, List.mem_map, Prod.mk.injEq] at this
   obtain ⟨p, hp, e1, _⟩ := this
   have := HPS.out p hp
   have := HN.out
   omega
  have HMN := Lib.hid hmn
  have HMT := Lib.hid hmt
  have N0 := M2.out
  rw [← hmt] at N0
  obtain ⟨pl, hpl⟩ : ∃ pl, pl = ps.length := ⟨_, rfl⟩
  rw [← hpl] at N0
  have N1 := Lib.hid N0
  have hbbw : Below w.heap.size w w1 := H4.out.trans (HB1.out.mono (by simp; omega))
  have HW1 := Lib.hid hbbw
  have C0 := Lib.hid (Kd.C_below H0.out hbbw)
  have C1 := Lib.hid (Kd.C_below H1.out hbbw)
  obtain ⟨E, hE⟩ : ∃ E, E = BlockedP.growL l0 l1 a2 a3 mt (n + 1) ins0 := ⟨_, rfl⟩
  have HE := Lib.hid hE
  have hS1 : w.heap.size + 1 + 1 + 1 < w1.heap.size := blk_lt BB1.out.b3
  have G0 := Lib.hid H
  clear hmn hmt N0 M2 hpl hbbw hE H
  go_wp2
  go_loopg [19] (n + 2) (fun k s19 wr => ∃ (ins : List Bool) (g : Bool) (f : Nat), s19 = .bool g ∧ Aside0 (BK w1 wr Bi n Aq cq ins) ∧ Aside0 (MapOk wr Bm pl mt) ∧ Aside0 (ins.length = n) ∧ Aside0 ((if g = true then BlockedP.cnt ins + 1 else 0) ≤ k) ∧ Aside0 (g = true → BlockedP.cnt ins < f ∧ BlockedP.growL l0 l1 a2 a3 mt f ins = E) ∧ Aside0 (g = false → ins = E))
  case atStart => exact ⟨ins0, true, n + 1, rfl, ⟨G0.out⟩, ⟨N1.out⟩, ⟨HL.out⟩, ⟨by have := BlockedP.cnt_le ins0; have := HL.out; simp; omega⟩, ⟨fun _ => ⟨by have := BlockedP.cnt_le ins0; have := HL.out; omega, HE.out.symm⟩⟩, ⟨fun h => by simp at h⟩⟩
  clear G0 N1
  obtain ⟨ins, g, f, rfl, HBK, HMK, HLN, HCT, HGT, HGF⟩ := hrel
  cases g with
  | true =>
   obtain ⟨hcf, hgl⟩ := HGT.out rfl
   have HGL := Lib.hid hgl
   clear HGT HGF hgl
   have q1 := blk_cell ((BB1.out.below HBK.out.bel).b1) 0
   go_wp2
   go_loopg [19, 72] m (fun k s19 s72 wr => ∃ (i : Nat) (ins' : List Bool) (g : Bool), s19 = .bool g ∧ s72 = .int .i64 i ∧ i ≤ m ∧ m - i ≤ k ∧ Aside0 (BK w1 wr Bi n Aq cq ins') ∧ Aside0 (MapOk wr Bm pl mt) ∧ Aside0 (ins'.length = n) ∧
    Aside0 (BlockedP.growR l0 l1 a2 a3 mt (ins', g) i (m - i) = BlockedP.growR l0 l1 a2 a3 mt (ins, false) 0 m) ∧ Aside0 (BlockedP.cnt ins' ≤ BlockedP.cnt ins ∧ (g = true → BlockedP.cnt ins' < BlockedP.cnt ins)))
   case atStart => exact ⟨0, ins, false, rfl, rfl, by omega, by omega, HBK, HMK, HLN, ⟨rfl⟩, ⟨Nat.le_refl _, fun h => by simp at h⟩⟩
   clear HBK HMK q1
   obtain ⟨i, ins', g, rfl, rfl, hi, hk, HBK, HMK, HLN', HGR, HC2⟩ := hrel
   by_cases hlt : i < m
   rotate_left
   ·obtain rfl : m = i := by omega
    have hgr := HGR.out
    rw [Nat.sub_self, BlockedP.growR_zero] at hgr
    obtain ⟨f, rfl⟩ : ∃ q, f = q + 1 := ⟨f - 1, by omega⟩
    have hgl := HGL.out
    rw [BlockedP.growL, HM.out, ← hgr] at hgl
    have HGR2 := Lib.hid hgl
    have hle : (if g = true then BlockedP.cnt ins' + 1 else 0) ≤ BlockedP.cnt ins := by
     have := HC2.out.2
     cases g with
     | true => have := this rfl; simp; omega
     | false => simp
    have hct : BlockedP.cnt ins + 1 ≤ _ := HCT.out
    have HCT2 := Lib.hid hct
    have HLE := Lib.hid hle
    clear hgr hgl HGR HGL HCT hct hle
    go_wp2
    go_roundg (if g = true then BlockedP.cnt ins' + 1 else 0)
    case measure => have := HLE.out; have := HCT2.out; omega
    refine ⟨ins', g, f, rfl, HBK, HMK, HLN', ⟨Nat.le_refl _⟩, ⟨fun hg => ?_⟩, ⟨fun hg => ?_⟩⟩
    ·have h1 := HGR2.out; rw [if_pos hg] at h1
     have := HC2.out.2 hg
     exact ⟨by omega, h1⟩
    have h1 := HGR2.out; rw [if_neg (by rw [hg]; simp)] at h1
    exact h1
   have hst : BlockedP.growR l0 l1 a2 a3 mt (BlockedP.grow1 l0 l1 a2 a3 mt (ins', g) i) (i + 1) (m - (i + 1)) = BlockedP.growR l0 l1 a2 a3 mt (ins, false) 0 m := by
    have := HGR.out
    rw [show m - i = (m - (i + 1)) + 1 by omega, BlockedP.growR_succ] at this
    exact this
   have HST := Lib.hid hst
   clear hst HGR
   have hlt2 : (i : Int) < (m : Int) := by omega
   have qB := blk_cell HBK.out.bi 0
   cases hmi : mt i with
   | none =>
    have hg1 : BlockedP.grow1 l0 l1 a2 a3 mt (ins', g) i = (ins', g) := by unfold BlockedP.grow1; rw [hmi]
    have HG1 := Lib.hid hg1
    have HMI := Lib.hid hmi
    clear hg1 hmi
    go_wp2_with (first | (at_lookup; refine wpList_mlook_none _ rfl _ _ rfl HMK.out i (by omega) HMI.out rfl rfl ?_))
    go_roundg (m - (i + 1))
    case measure => omega
    case rel => exact ⟨i + 1, ins', g, rfl, by go_num, hlt, Nat.le_refl _, HBK, HMK, HLN', ⟨by have := HST.out; rw [HG1.out] at this; exact this⟩, HC2⟩
   | some h =>
    have hhn : h < n := HMN.out i h hmi
    have HMI := Lib.hid hmi
    clear hmi
    obtain ⟨gb, eg, x1, x2⟩ := HBK.out.at HLN'.out h hhn
    have HEG := Lib.hid eg
    obtain ⟨z, hz⟩ : ∃ z, z = ins'.getD h false := ⟨_, rfl⟩
    rw [← hz] at x1
    have HZ := Lib.hid hz
    clear hz
    cases z with
    | true =>
     subst eg
     have hg1 : BlockedP.grow1 l0 l1 a2 a3 mt (ins', g) i = (ins', g) := by unfold BlockedP.grow1; rw [HMI.out]; simp only [← HZ.out]; rfl
     have HG1 := Lib.hid hg1
     clear hg1
     go_wp2_with (first | (at_lookup; refine wpList_mlook_some _ rfl _ _ rfl HMK.out i h (by omega) HMI.out rfl rfl ?_))
     go_roundg (m - (i + 1))
     case measure => omega
     case rel => exact ⟨i + 1, ins', g, rfl, by go_num, hlt, Nat.le_refl _, HBK, HMK, HLN', ⟨by have := HST.out; rw [HG1.out] at this; exact this⟩, HC2⟩
    | false =>
     obtain ⟨r, hr⟩ : ∃ r, BlockedP.fits l0 l1 a2 a3 ins' i = r := ⟨_, rfl⟩
     have hcf2 := fits_calls wr w.heap.size Bi A0 A1 n c0 m c1 a2 a3 (BB1.out.below HBK.out.bel) Aq cq HBK.out.bi l0 l1 ins' HN.out HM.out hn hm HLN'.out (Kd.C_below C0.out HBK.out.bel) (Kd.C_below C1.out HBK.out.bel) (by have := (Kd.R_reads' HBK.out.row).2.2; rw [HLN'.out] at this; exact this) i hlt r hr
     have HRR := Lib.hid hr
     clear hr
     subst eg
     cases r with
     | false =>
      have hg1 : BlockedP.grow1 l0 l1 a2 a3 mt (ins', g) i = (ins', g) := by unfold BlockedP.grow1; rw [HMI.out]; simp only [HRR.out, Bool.and_false]; rfl
      have HG1 := Lib.hid hg1
      clear hg1
      go_wp2_with (first | (at_lookup; refine wpList_mlook_some _ rfl _ _ rfl HMK.out i h (by omega) HMI.out rfl rfl ?_) | (go_at_call 25; refine hcf2.mono ?_; rintro e w2 ⟨rfl, q, rfl⟩))
      go_roundg (m - (i + 1))
      case measure => omega
      case rel => exact ⟨i + 1, ins', g, rfl, by go_num, hlt, Nat.le_refl _, ⟨HBK.out.drewN q⟩, ⟨HMK.out.drewN q⟩, HLN', ⟨by have := HST.out; rw [HG1.out] at this; exact this⟩, HC2⟩
     | true =>
      have hg1 : BlockedP.grow1 l0 l1 a2 a3 mt (ins', g) i = (ins'.set h true, true) := by unfold BlockedP.grow1; rw [HMI.out]; simp only [← HZ.out, HRR.out]; rfl
      have HG1 := Lib.hid hg1
      clear hg1
      have hcs := BlockedP.cnt_set ins' h (by have := HLN'.out; omega) HZ.out.symm
      go_wp2_with (first | (at_lookup; refine wpList_mlook_some _ rfl _ _ rfl HMK.out i h (by omega) HMI.out rfl rfl ?_) | (go_at_call 25; refine hcf2.mono ?_; rintro e w2 ⟨rfl, q, rfl⟩))
      obtain ⟨cells, hcc⟩ := Kd.R_typed (HBK.out.drewN q).row gb rfl
      go_roundg (m - (i + 1))
      case measure => omega
      case rel => exact ⟨i + 1, ins'.set h true, true, rfl, by go_num, hlt, Nat.le_refl _, ⟨(HBK.out.drewN q).put h true⟩, ⟨(HMK.out.drewN q).kept ((HBK.out.drewN q).putg h true) (by have := (HMK.out.drewN q).ne hcc; simpa using this)⟩, ⟨by rw [List.length_set]; exact HLN'.out⟩, ⟨by have := HST.out; rw [HG1.out] at this; exact this⟩, ⟨by have := HC2.out.1; omega, fun _ => by have := HC2.out.1; omega⟩⟩
  | false =>
   have hie := HGF.out rfl
   subst hie
   clear HGT HGF HCT HMK HMN
   have qB := blk_cell HBK.out.bi 0
   have q1 := blk_cell ((BB1.out.below HBK.out.bel).b1) 0
   go_wp2
   go_loopg [23, 100] n (fun k s23 s100 wr => ∃ i : Nat, s100 = .int .i64 i ∧ i ≤ n ∧ n - i ≤ k ∧ Aside0 (BK w1 wr Bi n Aq cq ins) ∧ Aside0 (Kd.R (Kd.int .i64) 3 wr w1.heap.size (fun k => k ≠ Bi) s23 (BlockedP.told (fun t => ins.getD t false) i)))
   case atStart => exact ⟨0, rfl, by omega, by omega, HBK, ⟨Kd.R_nil _ _ _ _ _⟩⟩
   clear HBK q1 qB
   obtain ⟨i, rfl, hi, hk, HBK, HRA⟩ := hrel
   have hz0 : (0 : Int) ≤ (i : Int) := by omega
   by_cases hlt : i < n
   ·obtain ⟨gb, eg, x1, x2⟩ := HBK.out.at HLN.out i hlt
    subst eg
    have hlt2 : (i : Int) < (n : Int) := by omega
    have hsu := BlockedP.told_succ (fun t => ins.getD t false) i
    have htl := BlockedP.told_len (fun t => ins.getD t false) i
    obtain ⟨L, hL⟩ : ∃ L, L = BlockedP.told (fun t => ins.getD t false) i := ⟨_, rfl⟩
    rw [← hL] at hsu htl HRA
    obtain ⟨z, hz⟩ : ∃ z, z = ins.getD i false := ⟨_, rfl⟩
    rw [← hz] at x1
    have HSU := Lib.hid hsu
    have HZ := Lib.hid hz
    clear hsu hz hL
    cases z with
    | false =>
     go_wp2
     go_roundg (n - (i + 1))
     case measure => omega
     case rel => exact ⟨i + 1, by go_num, hlt, Nat.le_refl _, HBK, ⟨by have := HSU.out; rw [if_neg (by rw [← HZ.out]; simp)] at this; rw [this]; exact HRA.out⟩⟩
    | true =>
     have hBl : Bi < wr.heap.size := blk_lt HBK.out.bi
     have hneB : some Bi ≠ u23.ownBlock := fun e => HRA.out.1 Bi e.symm rfl
     go_wp2_with (first | ((with_reducible refine gate_builtin (b := .append) (xs := #[.tmp 106, .tmp 108]) rfl ?_); at_builtin; refine Kd.R_append (Kd.int .i64) (w0 := w1) w1.heap.size rfl (.tmp 106) (.tmp 108) 22 3 (.int .i64 0) 8 rfl Try.underlying22 info3 rfl (by decide) (by omega) u23 L (i : Int) [.int .i64 (i : Int)] (fun k => k ≠ Bi) (fun _ => False) rfl rfl rfl (fun _ hk => hk.elim) (fun k hk => by omega) HRA.out HBK.out.bel HBK.out.bel.size (by omega) ?_; intro v' w' ho hb hg hat; have NB := Kp.a (HBK.out.grown HRA.out hneB hg); have NR := Kp.a ho; clear ho hb hg hat))
     go_roundg (n - (i + 1))
     case measure => omega
     case rel => exact ⟨i + 1, by go_num, hlt, Nat.le_refl _, NB, ⟨by have := HSU.out; rw [if_pos HZ.out.symm] at this; rw [this]; exact NR.out⟩⟩
   obtain rfl : n = i := by omega
   obtain ⟨La, hLa⟩ : ∃ La, La = BlockedP.told (fun t => ins.getD t false) n := ⟨_, rfl⟩
   rw [← hLa] at HRA
   have HLa := Lib.hid hLa
   clear hLa
   have q1 := blk_cell ((BB1.out.below HBK.out.bel).b1) 0
   obtain ⟨Aa, ca, ea⟩ := Kd.R_slice HRA.out
   subst ea
   go_wp2
   go_loopg [24, 113] m (fun k s24 s113 wr => ∃ i : Nat, s113 = .int .i64 i ∧ i ≤ m ∧ m - i ≤ k ∧ Aside0 (BK w1 wr Bi n Aq cq ins) ∧ Aside0 (Kd.R (Kd.int .i64) 3 wr w1.heap.size (fun k => some k ≠ s24.ownBlock) (.slice Aa La.length ca) La) ∧
    Aside0 (Kd.R (Kd.int .i64) 3 wr w1.heap.size (fun k => k ≠ Bi ∧ some k ≠ (Value.slice Aa La.length ca).ownBlock) s24 (BlockedP.told (BlockedP.fits l0 l1 a2 a3 ins) i)))
   case atStart => exact ⟨0, rfl, by omega, by omega, HBK, ⟨R_int_ok HRA.out (fun k _ => by simp [Value.ownBlock])⟩, ⟨Kd.R_nil _ _ _ _ _⟩⟩
   clear HBK HRA q1
   obtain ⟨i, rfl, hi, hk, HBK, HRA, HRB⟩ := hrel
   have hz0 : (0 : Int) ≤ (i : Int) := by omega
   by_cases hlt : i < m
   rotate_left
   ·obtain rfl : m = i := by omega
    go_wp2
    go_ret3
    have hE : ins = BlockedP.endP l0 l1 a2 a3 (psN ps) := by
     rw [BlockedP.endP, HN.out, ← HMT.out, ← HI.out]; exact HE.out
    refine ⟨_, _, rfl, ?_, ?_, HW1.out.trans (HBK.out.bel.mono HW1.out.size)⟩
    ·rw [E1.out, BlockedP.aP, ← hE, HN.out, ← HLa.out]
     exact Kd.R_lower HRA.out HW1.out.size
    rw [E2.out, BlockedP.bP, ← hE, HM.out]
    exact R_int_ok (Kd.R_lower HRB.out HW1.out.size) (fun k hk => (HRB.out.1 k hk).2)
   have hlt2 : (i : Int) < (m : Int) := by omega
   have hsu := BlockedP.told_succ (BlockedP.fits l0 l1 a2 a3 ins) i
   have htl := BlockedP.told_len (BlockedP.fits l0 l1 a2 a3 ins) i
   obtain ⟨L, hL⟩ : ∃ L, L = BlockedP.told (BlockedP.fits l0 l1 a2 a3 ins) i := ⟨_, rfl⟩
   rw [← hL] at hsu htl HRB
   obtain ⟨r, hr⟩ : ∃ r, BlockedP.fits l0 l1 a2 a3 ins i = r := ⟨_, rfl⟩
   have hcf2 := fits_calls wr w.heap.size Bi A0 A1 n c0 m c1 a2 a3 (BB1.out.below HBK.out.bel) Aq cq HBK.out.bi l0 l1 ins HN.out HM.out hn hm HLN.out (Kd.C_below C0.out HBK.out.bel) (Kd.C_below C1.out HBK.out.bel) (by have := (Kd.R_reads' HBK.out.row).2.2; rw [HLN.out] at this; exact this) i hlt r hr
   have HSU := Lib.hid hsu
   have HRR := Lib.hid hr
   clear hsu hr hL
   cases r with
   | false =>
    go_wp2_with (first | (go_at_call 25; refine hcf2.mono ?_; rintro e w2 ⟨rfl, q, rfl⟩))
    go_roundg (m - (i + 1))
    case measure => omega
    case rel => exact ⟨i + 1, by go_num, hlt, Nat.le_refl _, ⟨HBK.out.drewN q⟩, ⟨Kd.R_drewN HRA.out q⟩, ⟨by have := HSU.out; rw [if_neg (by rw [HRR.out]; simp)] at this; rw [this]; exact Kd.R_drewN HRB.out q⟩⟩
   | true =>
    have hBl : Bi < wr.heap.size := blk_lt HBK.out.bi
    have hneB : some Bi ≠ u24.ownBlock := fun e => (HRB.out.1 Bi e.symm).1 rfl
    have hAlt := Kd.R_lt HRA.out
    have HAL := Lib.hid hAlt
    clear hAlt
    go_wp2_with (first
     | (go_at_call 25; refine hcf2.mono ?_; rintro e w2 ⟨rfl, q, rfl⟩)
     | ((with_reducible refine gate_builtin (b := .append) (xs := #[.tmp 119, .tmp 121]) rfl ?_); at_builtin; refine Kd.R_append (Kd.int .i64) (w0 := w1) w1.heap.size rfl (.tmp 119) (.tmp 121) 22 3 (.int .i64 0) 8 rfl Try.underlying22 info3 rfl (by decide) (by omega) u24 L (i : Int) [.int .i64 (i : Int)] (fun k => k ≠ Bi ∧ some k ≠ (Value.slice Aa La.length ca).ownBlock) (fun _ => False) rfl rfl rfl (fun _ hk => hk.elim) (fun k hk => ⟨by simp at hk; omega, fun e => by have := HAL.out k e.symm; simp at hk; omega⟩) (Kd.R_drewN HRB.out q) (HBK.out.drewN q).bel (HBK.out.drewN q).bel.size (by omega) ?_; intro v' w' ho hb hg hat; have NB := Kp.a ((HBK.out.drewN q).grown (Kd.R_drewN HRB.out q) hneB hg); have NR := Kp.a ho; have NA := Kp.a (R_int_ok (ok' := fun k => some k ≠ v'.ownBlock) (Kd.R_grown (Kd.R_drewN HRA.out q) hg (fun k hk => hk)) (fun k hk e => (ho.1 k e.symm).2 hk.symm)); clear ho hb hg hat))
    go_roundg (m - (i + 1))
    case measure => omega
    case rel => exact ⟨i + 1, by go_num, hlt, Nat.le_refl _, NB, NA, ⟨by have := HSU.out; rw [if_pos HRR.out] at this; rw [this]; exact NR.out⟩⟩
end Go.Proofs.Ytkijhilmgljegaa.PT


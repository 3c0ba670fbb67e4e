import Derived.Test.YtgnhcdchpeeoaaaQGG0
import Derived.Test.YtgnhcdchpeeoaaaQGG2
import Derived.Test.YtgnhcdchpeeoaaaQGG7
import Derived.Test.YtgnhcdchpeeoaaaQGG8
import Derived.Test.YtgnhcdchpeeoaaaQGG9
import Derived.Deep.RegionHeld3
import Derived.Lib.Hide
import Derived.Maps.OwnOps
import Derived.Test.YtgnhcdchpeeoaaaQGOwnSeen
import Derived.Test.YtgnhcdchpeeoaaaQGPurePoly
namespace Go.Proofs.Ytgnhcdchpeeoaaa.PG
open Go.RowKit Go.Proofs.YtgnhcdchpeeoaaaW.PrintWords Go.Proofs.YtgnhcdchpeeoaaaW.PrintLast Go.Proofs.YtgnhcdchpeeoaaaW.PrintMore
attribute [local go_sem] max2_int min2_int max_two min_two max_three min_three max_four min_four
set_option linter.unusedVariables false
set_option linter.unusedSimpArgs false
def impl_PolygonCode.f (l0 : List S34) : Option (Int × Int) := some (((Plane.polyP (l0.map fun s => (s.f0, s.f1))).1), ((Plane.polyP (l0.map fun s => (s.f0, s.f1))).2))
set_option maxRecDepth 100000 in
open Go Go.Maps Go.WideMaps in
theorem polyLaid : laidOutB Try.prog = true := by kernel_rfl
set_option maxRecDepth 100000 in
open Go Go.Maps Go.WideMaps in
theorem polyRow : (34 : TypeId) < Try.prog.types.size := of_decide_eq_true (by kernel_rfl)
set_option maxRecDepth 100000 in
open Go Go.Maps Go.WideMaps in
theorem polyWide : (match Try.prog.underlying 34 with | some (.array _ _) | some (.struct _) => true | _ => false) = true := by kernel_rfl
open Go Go.Maps Go.WideMaps in
set_option maxRecDepth 100000 in
set_option maxRecDepth 100000 in
theorem polyKeyed : Keyed Try.prog 34 := Keyed.of_law (deep_law_laid polyLaid (m := 2) (by omega) polyRow (by kernel_rfl) polyWide)
set_option maxRecDepth 100000 in
open Go Go.Maps Go.WideMaps in
theorem polyTiled : Try.prog.tiled 2 34 = true := by kernel_rfl
set_option maxRecDepth 100000 in
open Go Go.Maps Go.WideMaps in
theorem polyInj (p q : Int × Int) (kl : Lit) (h1 : keyOf Try.prog 34 (Seen.ptV p) = some kl) (h2 : keyOf Try.prog 34 (Seen.ptV q) = some kl) : p = q := by
 have h := keyOf_inj_deep polyTiled polyWide h1 h2
 unfold Seen.ptV at h
 injection h with h
 simp at h
 exact Prod.ext h.1 h.2
set_option maxRecDepth 100000 in
theorem polyKey (p : Int × Int) (h : Plane.okP p = true) : ∃ kl, keyOf Try.prog 34 (Seen.ptV p) = some kl := by
 unfold Plane.okP Plane.InAt at h
 have h := of_decide_eq_true h
 exact Seen.key_pair Try.underlying34 (by kernel_rfl) (by kernel_rfl) (by kernel_rfl) (by kernel_rfl) rfl rfl (by kernel_rfl) (by kernel_rfl) Try.underlying3 Try.underlying3 (of_decide_eq_true (by kernel_rfl)) p
  (WalkArith.wf_i64 (by omega)) (WalkArith.wf_i64 (by omega))
set_option maxRecDepth 100000 in
theorem polyZero (w : World) : (zeroValue 4).run Try.prog w = .ok (.bool false) w := by kernel_rfl
theorem point_ok (p : Int × Int) : impl_pointOK.f p.1 p.2 = some (Plane.okP p) := by
 unfold impl_pointOK.f Plane.okP Plane.InAt
 split
 ·split
  ·split
   ·congr 1; rw [decide_eq_decide]; omega
   ·congr 1; symm; rw [decide_eq_false_iff_not]; omega
  ·congr 1; symm; rw [decide_eq_false_iff_not]; omega
 ·congr 1; symm; rw [decide_eq_false_iff_not]; omega
theorem point_calls (x y : Int) (W : World) (b : Bool) (hb : Plane.okP (x, y) = b) :
 Calls Try.prog 58 #[.agg #[.int .i64 x, .int .i64 y]] W fun e w' => e = .returned (.bool b) ∧ Below W.heap.size W w' :=
 impl_pointOK.calls x y b W ((point_ok (x, y)).trans (by rw [hb]))
theorem corner {w wr : World} {A0 : Option Addr} {l : List (Int × Int)} (hr : Kd.C k34 w A0 l.length (l.map ptS)) (hB : Below w.heap.size w wr) (k : Nat) (hk : k < l.length) :
 ∃ ad, A0 = some ad ∧ wr.cell? (ad.add (k * 2)) = some (.int .i64 (Plane.at0 l k).1) ∧ wr.cell? ⟨(ad.add (k * 2)).block, (ad.add (k * 2)).off + 1, none⟩ = some (.int .i64 (Plane.at0 l k).2) := by
 obtain ⟨ad, e, c0, c1⟩ := at_T34 hr k (by omega) (by omega)
 have hel : rd_T34 (l.map ptS) k = ptS (Plane.at0 l k) := by
  unfold rd_T34 Plane.at0; simp [List.getElem?_eq_getElem hk]
 rw [hel] at c0 c1
 simp only [Int.toNat_natCast] at c0 c1
 exact ⟨ad, e, (hB.cell (World.block_lt_of_cell? _ _ c0)).trans c0, (hB.cell (p := ⟨(ad.add (k * 2)).block, (ad.add (k * 2)).off + 1, none⟩) (show (ad.add (k * 2)).block < _ from World.block_lt_of_cell? _ _ c0)).trans c1⟩
theorem cell_kept {W w2 : World} (hb : Below W.heap.size W w2) {p : Addr} {v : Value} (h : W.cell? p = some v) : w2.cell? p = some v := (hb.cell (World.block_lt_of_cell? _ _ h)).trans h
theorem modN (i n : Nat) : ((i : Int) + 1) % (n : Int) = (((i + 1) % n : Nat) : Int) := by rw [Int.natCast_emod]; rfl
theorem modT (i n : Nat) : ((i : Int) + 1).tmod (n : Int) = (((i + 1) % n : Nat) : Int) := by rw [Int.tmod_eq_emod_of_nonneg (by omega), modN]
theorem modW (i n : Nat) (h : 0 < n) (hn : n ≤ 200) : IntKind.i64.wrap (((i : Int) + 1).tmod (n : Int)) = (((i + 1) % n : Nat) : Int) := by
 rw [modT]; have := Nat.mod_lt (i + 1) h; exact IntWalk.i64_in _ (by omega)
theorem cross_calls {l : List (Int × Int)} (hok : ∀ j, j < l.length → Plane.okP (Plane.at0 l j) = true) {i j : Nat} (hi : i < l.length) (hj : j < l.length) (W : World) :
 Calls Try.prog 69 #[.agg #[.int .i64 (Plane.at0 l i).1, .int .i64 (Plane.at0 l i).2], .agg #[.int .i64 (Plane.at0 l ((i + 1) % l.length)).1, .int .i64 (Plane.at0 l ((i + 1) % l.length)).2],
  .agg #[.int .i64 (Plane.at0 l j).1, .int .i64 (Plane.at0 l j).2], .agg #[.int .i64 (Plane.at0 l ((j + 1) % l.length)).1, .int .i64 (Plane.at0 l ((j + 1) % l.length)).2]] W
  fun e w' => ∃ v1 : Value, e = .returned (.tuple #[.int .i64 ((Plane.crossAt l i j).length : Int), v1]) ∧ Below W.heap.size W w' := by
 have g : ∀ k, k < l.length → Plane.InAt (Plane.at0 l k).1 ∧ Plane.InAt (Plane.at0 l k).2 := fun k hk => of_decide_eq_true (hok k hk)
 have m1 := Nat.mod_lt (i + 1) (show 0 < l.length by omega)
 have m2 := Nat.mod_lt (j + 1) (show 0 < l.length by omega)
 refine (impl_crossing.calls _ _ _ _ _ _ _ _ ((Plane.crossAt l i j).length : Int) _ W (by unfold impl_crossing.f; rw [if_pos ⟨(g i hi).1, (g i hi).2, (g _ m1).1, (g _ m1).2, (g j hj).1, (g j hj).2, (g _ m2).1, (g _ m2).2⟩]; rfl)).mono ?_
 rintro e w' ⟨v1, he, _, hb⟩
 exact ⟨v1, he, hb⟩
set_option maxHeartbeats 1000000 in
set_option maxRecDepth 100000 in
theorem poly_walk (A0 : Option Addr) (c0 : Nat) (l : List (Int × Int)) (w : World) (hr0 : Kd.C k34 w A0 l.length (l.map ptS)) (hc0 : l.length ≤ c0) (hl : l.length ≤ 200) :
 Calls Try.prog 36 #[.slice A0 l.length c0] w fun e w' => e = .returned (.tuple #[.int .i64 (Plane.polyP l).1, .int .i64 (Plane.polyP l).2]) ∧ Below w.heap.size w w' := by
 have HR := Lib.hid hr0
 clear hr0
 have hmm := @run_makeMap Try.prog
 go_enter Try.func36, Try.ntmps36
 go_wp2
 go_loopw [23] (fun vi wr => ∃ k : Nat, vi = .int .i64 k ∧ k ≤ l.length ∧ Below w.heap.size w wr ∧ (∀ j, j < k → Plane.okP (Plane.at0 l j) = true)) (fun vi _ => l.length - (intOf vi).toNat)
 case atStart => exact ⟨0, rfl, Nat.zero_le _, Below.refl _ _, fun j hj => absurd hj (by omega)⟩
 case round =>
  obtain ⟨k, rfl, hk, hB, hok⟩ := hrel
  have HB := Lib.hid hB
  have HOK := Lib.hid hok
  clear hB hok
  have hsz : w.heap.size ≤ wr.heap.size := HB.out.size
  by_cases hlt : k < l.length
  ·obtain ⟨ad, rfl, q0, q1⟩ := corner HR.out HB.out k hlt
   obtain ⟨x0, hx0⟩ : ∃ x, (Plane.at0 l k).1 = x := ⟨_, rfl⟩
   obtain ⟨x1, hx1⟩ : ∃ x, (Plane.at0 l k).2 = x := ⟨_, rfl⟩
   have hat : Plane.at0 l k = (x0, x1) := Prod.ext hx0 hx1
   rw [hx0] at q0
   rw [hx1] at q1
   have HAT := Lib.hid hat
   clear hx0 hx1 hat
   by_cases hok : Plane.okP (x0, x1) = true
   ·have HO := Lib.hid hok
    clear hok
    go_wp2_with ((go_at_call 58; refine (point_calls _ _ _ true HO.out).mono ?_; rintro e w2 ⟨rfl, hb2⟩; have HB2 := Lib.hid hb2; clear hb2))
    go_roundw
    case rel =>
     refine ⟨k + 1, by go_num, by omega, below_step (below_alloc HB.out _) HB2.out, fun j hj => ?_⟩
     by_cases e : j = k
     ·subst e; rw [HAT.out]; exact HO.out
     ·exact HOK.out j (by omega)
    case measure => simp [intOf]; omega
   ·have hok := Bool.eq_false_iff.2 hok
    have HO := Lib.hid hok
    clear hok
    go_wp2_with ((go_at_call 58; refine (point_calls _ _ _ false HO.out).mono ?_; rintro e w2 ⟨rfl, hb2⟩; have HB2 := Lib.hid hb2; clear hb2))
    go_ret2
    exact ⟨by rw [Plane.polyP_bad hl hlt HOK.out (by rw [HAT.out]; exact HO.out)]; rfl, below_step (below_alloc HB.out _) HB2.out⟩
  ·have hkl : k = l.length := by omega
   have HKL := Lib.hid hkl
   clear hkl
   by_cases h3 : l.length < 3
   ·go_wp2_with fail
    go_ret2
    exact ⟨by rw [Plane.polyP_form hl (fun j hj => HOK.out j (by omega)) h3]; rfl, HB.out⟩
   have HOA := Lib.hid (show ∀ j, j < l.length → Plane.okP (Plane.at0 l j) = true from fun j hj => HOK.out j (by have := HKL.out; omega))
   have h3' : 3 ≤ l.length := by omega
   have h3b : decide ((l.length : Int) < 3) = false := by simp; omega
   have H3 := Lib.hid h3
   clear HOK h3
   go_wp2_with fail
   clear HKL hk hlt
   have HB1 := Lib.hid (below_alloc HB.out (Obj.map #[] 0))
   have HM := Lib.hid (Seen.Own.made (P := Try.prog) (k := 34) (e := 4) Unit wr)
   clear hmm HB
   obtain ⟨mb, hmb⟩ : ∃ m, m = wr.heap.size := ⟨_, rfl⟩
   rw [← hmb] at HM hsz ⊢
   clear hmb
   generalize wr.alloc (Obj.map #[] 0) = wm at HM HB1 ⊢
   go_loopw [38] (fun vi wq => ∃ k : Nat, vi = .int .i64 k ∧ k ≤ l.length ∧ Below w.heap.size w wq ∧ Seen.Own Unit Try.prog 34 4 wq mb (l.take k) ∧ (∀ j, j < k → Plane.twice l j = false)) (fun vi _ => l.length - (intOf vi).toNat)
   case atStart => exact ⟨0, rfl, Nat.zero_le _, HB1.out, HM.out, fun j hj => absurd hj (by omega)⟩
   case round =>
    clear HB1 HM
    obtain ⟨k, rfl, hk, hB, hM, hno⟩ := hrel
    have HB := Lib.hid hB
    have HNO := Lib.hid hno
    have HM := Lib.hid hM
    clear hB hno hM
    have hsz2 : w.heap.size ≤ wr.heap.size := HB.out.size
    have hmbl : mb < wr.heap.size := HM.out.lt
    by_cases hlt : k < l.length
    ·obtain ⟨ad, rfl, q0, q1⟩ := corner HR.out HB.out k hlt
     have HKEY := Lib.hid (polyKey _ (HOA.out k hlt))
     have htw : Plane.twice l k = decide (Plane.at0 l k ∈ l.take k) := rfl
     have htk := Plane.take_next l k hlt
     obtain ⟨x0, hx0⟩ : ∃ x, (Plane.at0 l k).1 = x := ⟨_, rfl⟩
     obtain ⟨x1, hx1⟩ : ∃ x, (Plane.at0 l k).2 = x := ⟨_, rfl⟩
     have hat : Plane.at0 l k = (x0, x1) := Prod.ext hx0 hx1
     rw [hx0] at q0
     rw [hx1] at q1
     rw [hat] at htw htk HKEY
     have HTW := Lib.hid htw
     have HTK := Lib.hid htk
     clear hx0 hx1 hat htw htk
     by_cases hin : decide ((x0, x1) ∈ l.take k) = true
     ·have HIN := Lib.hid hin
      clear hin
      go_wp2_with ((at_lookup; refine Seen.wpList_look (H := Unit) (k := 34) (e := 4) (b := mb) (xs := l.take k) _ rfl (.tmp 43) (.tmp 44) rfl polyKeyed Try.underlying89 Try.underlying4 (polyZero _) rfl (HM.out.alloc hmbl _) (x0, x1) rfl HKEY.out true HIN.out ?_))
      go_ret2
      exact ⟨by rw [Plane.polyP_twice hl HOA.out H3.out hlt HNO.out (by rw [HTW.out]; exact HIN.out)]; rfl, below_alloc HB.out _⟩
     ·have hin := Bool.eq_false_iff.2 hin
      have HIN := Lib.hid hin
      clear hin
      go_wp2_with (first | (at_lookup; refine Seen.wpList_look (H := Unit) (k := 34) (e := 4) (b := mb) (xs := l.take k) _ rfl (.tmp 43) (.tmp 44) rfl polyKeyed Try.underlying89 Try.underlying4 (polyZero _) rfl (HM.out.alloc hmbl _) (x0, x1) rfl HKEY.out false HIN.out ?_) | (at_mapUpdate; refine Seen.wpList_put (H := Unit) (k := 34) (e := 4) (b := mb) (xs := l.take k) _ rfl (.tmp 47) (.tmp 48) (.const (.bool true)) rfl polyKeyed Try.underlying89 Try.underlying4 rfl (HM.out.alloc hmbl _) (by rw [List.length_take]; unfold maxLen; omega) polyInj (x0, x1) rfl rfl HKEY.out ?_; intro w2 hm2 hg2; have HM2 := Lib.hid hm2; have HG2 := Lib.hid hg2; clear hm2 hg2))
      go_roundw
      case rel =>
       refine ⟨k + 1, by go_num, by omega, (below_alloc HB.out _).grown HG2.out (by simp; omega) (fun j hj => by injection hj; omega), ?_, fun j hj => ?_⟩
       ·rw [HTK.out]; exact HM2.out
       ·by_cases e : j = k
        ·subst e; rw [HTW.out]; exact HIN.out
        ·exact HNO.out j (by omega)
      case measure => simp [intOf]; omega
    ·have HTW := Lib.hid (show ∀ j, j < l.length → Plane.twice l j = false from fun j hj => HNO.out j (by omega))
     clear HNO HM
     go_wp2_with fail
     clear hsz2 hmbl
     have HB3 := Lib.hid HB.out
     clear HB hk hlt hsz
     go_loopw [10] (fun vi wr => ∃ k : Nat, vi = .int .i64 k ∧ k ≤ l.length ∧ Below w.heap.size w wr ∧ (∀ j, j < k → Plane.badRow l j = false)) (fun vi _ => l.length - (intOf vi).toNat)
     case atStart => exact ⟨0, rfl, Nat.zero_le _, HB3.out, fun j hj => absurd hj (by omega)⟩
     case round =>
      clear HB3
      obtain ⟨i, rfl, hi, hB, hno⟩ := hrel
      have HB := Lib.hid hB
      have HNO := Lib.hid hno
      clear hB hno
      by_cases hil : i < l.length
      ·go_wp2_with fail
       go_loopw [11] (fun vi wr => ∃ k : Nat, vi = .int .i64 k ∧ k ≤ l.length ∧ Below w.heap.size w wr ∧ (∀ j, j < k → Plane.badPair l i j = false)) (fun vi _ => l.length - (intOf vi).toNat)
       case atStart => exact ⟨0, rfl, Nat.zero_le _, HB.out, fun j hj => absurd hj (by omega)⟩
       case round =>
        clear HB
        obtain ⟨j, rfl, hj, hB, hnp⟩ := hrel
        have HB := Lib.hid hB
        have HNP := Lib.hid hnp
        clear hB hnp
        by_cases hjl : j < l.length
        ·by_cases hij : i = j
         ·have hijb : ((i : Int) == (j : Int)) = true := by simp [hij]
          have HIJ := Lib.hid hij
          clear hij
          go_wp2_with fail
          go_roundw
          case rel =>
           refine ⟨j + 1, by go_num, by omega, HB.out, fun j' hj' => ?_⟩
           by_cases e : j' = j
           ·subst e; rw [← HIJ.out]; unfold Plane.badPair; simp
           ·exact HNP.out j' (by omega)
          case measure => simp [intOf]; omega
         ·have hijb : ((i : Int) == (j : Int)) = false := by simp; omega
          have HIJ := Lib.hid hij
          clear hij
          obtain ⟨ad, rfl, qa0, qa1⟩ := corner HR.out HB.out i hil
          have hc := fun W => cross_calls HOA.out hil hjl W
          have hbp : Plane.badPair l i j = (decide (i ≠ j) && (if Plane.nextTo l.length i j then decide (1 < (Plane.crossAt l i j).length) else decide (0 < (Plane.crossAt l i j).length))) := rfl
          have hnx : Plane.nextTo l.length i j = decide ((i + 1) % l.length = j ∨ (j + 1) % l.length = i) := rfl
          have hm1 : (i + 1) % l.length < l.length := Nat.mod_lt _ (by omega)
          have hm2 : (j + 1) % l.length < l.length := Nat.mod_lt _ (by omega)
          have ht1 := modW i l.length (by omega) hl
          have ht2 := modW j l.length (by omega) hl
          have ht3 := modT i l.length
          have ht4 := modT j l.length
          have ht5 := modN i l.length
          have ht6 := modN j l.length
          obtain ⟨ii, hii⟩ : ∃ m : Nat, (i + 1) % l.length = m := ⟨_, rfl⟩
          obtain ⟨jj, hjj⟩ : ∃ m : Nat, (j + 1) % l.length = m := ⟨_, rfl⟩
          rw [hii] at hm1 ht1 ht3 ht5 hnx
          rw [hjj] at hm2 ht2 ht4 ht6 hnx
          simp only [hii, hjj] at hc
          clear hii hjj
          obtain ⟨ad2, e2, qb0, qb1⟩ := corner HR.out HB.out ii hm1
          obtain rfl : ad = ad2 := by injection e2
          obtain ⟨ad3, e3, qc0, qc1⟩ := corner HR.out HB.out j hjl
          obtain rfl : ad = ad3 := by injection e3
          obtain ⟨ad4, e4, qd0, qd1⟩ := corner HR.out HB.out jj hm2
          obtain rfl : ad = ad4 := by injection e4
          clear e2 e3 e4
          obtain ⟨a0, ha0⟩ : ∃ x, (Plane.at0 l i).1 = x := ⟨_, rfl⟩
          obtain ⟨a1, ha1⟩ : ∃ x, (Plane.at0 l i).2 = x := ⟨_, rfl⟩
          obtain ⟨b0, hb0⟩ : ∃ x, (Plane.at0 l ii).1 = x := ⟨_, rfl⟩
          obtain ⟨b1, hb1⟩ : ∃ x, (Plane.at0 l ii).2 = x := ⟨_, rfl⟩
          obtain ⟨d0, hd0⟩ : ∃ x, (Plane.at0 l j).1 = x := ⟨_, rfl⟩
          obtain ⟨d1, hd1⟩ : ∃ x, (Plane.at0 l j).2 = x := ⟨_, rfl⟩
          obtain ⟨f0, hf0⟩ : ∃ x, (Plane.at0 l jj).1 = x := ⟨_, rfl⟩
          obtain ⟨f1, hf1⟩ : ∃ x, (Plane.at0 l jj).2 = x := ⟨_, rfl⟩
          rw [ha0] at qa0
          rw [ha1] at qa1
          rw [hb0] at qb0
          rw [hb1] at qb1
          rw [hd0] at qc0
          rw [hd1] at qc1
          rw [hf0] at qd0
          rw [hf1] at qd1
          simp only [ha0, ha1, hb0, hb1, hd0, hd1, hf0, hf1] at hc
          clear ha0 ha1 hb0 hb1 hd0 hd1 hf0 hf1
          obtain ⟨K, hK⟩ : ∃ K, (Plane.crossAt l i j).length = K := ⟨_, rfl⟩
          simp only [hK] at hc
          rw [hK, hnx] at hbp
          clear hK hnx
          have HBP := Lib.hid hbp
          have HC := Lib.hid hc
          clear hbp hc
          have hi0 : (0 : Int) ≤ (i : Int) := Int.natCast_nonneg _
          have hj0 : (0 : Int) ≤ (j : Int) := Int.natCast_nonneg _
          have hii0 : (0 : Int) ≤ (ii : Int) := Int.natCast_nonneg _
          have hjj0 : (0 : Int) ≤ (jj : Int) := Int.natCast_nonneg _
          have w1 : IntKind.i64.wrap ((i : Int) + 1) = (i : Int) + 1 := IntWalk.i64_in _ (by omega)
          have w2 : IntKind.i64.wrap ((j : Int) + 1) = (j : Int) + 1 := IntWalk.i64_in _ (by omega)
          have hnil : (l = []) = False := eq_false (fun h => by rw [h] at hjl; simp at hjl)
          have hn00 : ((l.length : Int) = 0) = False := eq_false (by omega)
          have hn0 : ((l.length : Int) == 0) = false := beq_eq_false_iff_ne.2 (by omega)
          go_wp2_with fail
          go_region_held3 (fun w' => w'.cell? (ad.add (i * 2)) = some (.int .i64 a0) ∧ w'.cell? ⟨(ad.add (i * 2)).block, (ad.add (i * 2)).off + 1, none⟩ = some (.int .i64 a1) ∧ w'.cell? (ad.add (ii * 2)) = some (.int .i64 b0) ∧ w'.cell? ⟨(ad.add (ii * 2)).block, (ad.add (ii * 2)).off + 1, none⟩ = some (.int .i64 b1) ∧ w'.cell? (ad.add (j * 2)) = some (.int .i64 d0) ∧ w'.cell? ⟨(ad.add (j * 2)).block, (ad.add (j * 2)).off + 1, none⟩ = some (.int .i64 d1) ∧ w'.cell? (ad.add (jj * 2)) = some (.int .i64 f0) ∧ w'.cell? ⟨(ad.add (jj * 2)).block, (ad.add (jj * 2)).off + 1, none⟩ = some (.int .i64 f1)) (first | (go_split_ands; exact ⟨cell_kept hb (by assumption), cell_kept hb (by assumption), cell_kept hb (by assumption), cell_kept hb (by assumption), cell_kept hb (by assumption), cell_kept hb (by assumption), cell_kept hb (by assumption), cell_kept hb (by assumption)⟩) | go_keep) (first | (go_at_call 69; refine (HC.out _).mono ?_; rintro e wx ⟨v1, rfl, hb⟩))
          have HBX := Lib.hid (below_step (below_drew1 HB.out) hb)
          clear hb ht1 ht2
          by_cases e1 : ii = j
          ·by_cases ek : 1 < K
           ·have hx_iij : (((ii : Nat) : Int) == ((j : Nat) : Int)) = true := beq_iff_eq.2 (by omega)
            have hk_1 : decide ((1 : Int) < (K : Int)) = true := decide_eq_true (by omega)
            have HBV := Lib.hid (show Plane.badPair l i j = true by rw [HBP.out]; rw [decide_eq_true HIJ.out, Bool.true_and]; rw [if_pos (decide_eq_true (by omega))]; exact decide_eq_true ek)
            clear HBP HC
            go_wp2_with fail
            go_ret2
            exact ⟨by rw [Plane.polyP_state hl HOA.out H3.out HTW.out hil HNO.out (Plane.badRow_yes hjl HBV.out)]; rfl, HBX.out⟩
           ·have hx_iij : (((ii : Nat) : Int) == ((j : Nat) : Int)) = true := beq_iff_eq.2 (by omega)
            have hk_1 : decide ((1 : Int) < (K : Int)) = false := decide_eq_false (by omega)
            have HBV := Lib.hid (show Plane.badPair l i j = false by rw [HBP.out]; rw [decide_eq_true HIJ.out, Bool.true_and]; rw [if_pos (decide_eq_true (by omega))]; exact decide_eq_false ek)
            clear HBP HC
            go_wp2_with fail
            go_roundw
            case rel =>
             refine ⟨j + 1, by go_num, by omega, HBX.out, fun j' hj' => ?_⟩
             by_cases e : j' = j
             ·subst e; exact HBV.out
             ·exact HNP.out j' (by omega)
            case measure => simp [intOf]; omega
          ·by_cases e2 : jj = i
           ·by_cases ek : 1 < K
            ·have hx_iij : (((ii : Nat) : Int) == ((j : Nat) : Int)) = false := beq_eq_false_iff_ne.2 (by omega)
             have hx_jji : (((jj : Nat) : Int) == ((i : Nat) : Int)) = true := beq_iff_eq.2 (by omega)
             have hk_1 : decide ((1 : Int) < (K : Int)) = true := decide_eq_true (by omega)
             have HBV := Lib.hid (show Plane.badPair l i j = true by rw [HBP.out]; rw [decide_eq_true HIJ.out, Bool.true_and]; rw [if_pos (decide_eq_true (by omega))]; exact decide_eq_true ek)
             clear HBP HC
             go_wp2_with fail
             go_ret2
             exact ⟨by rw [Plane.polyP_state hl HOA.out H3.out HTW.out hil HNO.out (Plane.badRow_yes hjl HBV.out)]; rfl, HBX.out⟩
            ·have hx_iij : (((ii : Nat) : Int) == ((j : Nat) : Int)) = false := beq_eq_false_iff_ne.2 (by omega)
             have hx_jji : (((jj : Nat) : Int) == ((i : Nat) : Int)) = true := beq_iff_eq.2 (by omega)
             have hk_1 : decide ((1 : Int) < (K : Int)) = false := decide_eq_false (by omega)
             have HBV := Lib.hid (show Plane.badPair l i j = false by rw [HBP.out]; rw [decide_eq_true HIJ.out, Bool.true_and]; rw [if_pos (decide_eq_true (by omega))]; exact decide_eq_false ek)
             clear HBP HC
             go_wp2_with fail
             go_roundw
             case rel =>
              refine ⟨j + 1, by go_num, by omega, HBX.out, fun j' hj' => ?_⟩
              by_cases e : j' = j
              ·subst e; exact HBV.out
              ·exact HNP.out j' (by omega)
             case measure => simp [intOf]; omega
           ·by_cases ek : 0 < K
            ·have hx_iij : (((ii : Nat) : Int) == ((j : Nat) : Int)) = false := beq_eq_false_iff_ne.2 (by omega)
             have hx_jji : (((jj : Nat) : Int) == ((i : Nat) : Int)) = false := beq_eq_false_iff_ne.2 (by omega)
             have hk_0 : decide ((0 : Int) < (K : Int)) = true := decide_eq_true (by omega)
             have HBV := Lib.hid (show Plane.badPair l i j = true by rw [HBP.out]; rw [decide_eq_true HIJ.out, Bool.true_and]; rw [if_neg (by rw [decide_eq_true_eq]; omega)]; exact decide_eq_true ek)
             clear HBP HC
             go_wp2_with fail
             go_ret2
             exact ⟨by rw [Plane.polyP_state hl HOA.out H3.out HTW.out hil HNO.out (Plane.badRow_yes hjl HBV.out)]; rfl, HBX.out⟩
            ·have hx_iij : (((ii : Nat) : Int) == ((j : Nat) : Int)) = false := beq_eq_false_iff_ne.2 (by omega)
             have hx_jji : (((jj : Nat) : Int) == ((i : Nat) : Int)) = false := beq_eq_false_iff_ne.2 (by omega)
             have hk_0 : decide ((0 : Int) < (K : Int)) = false := decide_eq_false (by omega)
             have HBV := Lib.hid (show Plane.badPair l i j = false by rw [HBP.out]; rw [decide_eq_true HIJ.out, Bool.true_and]; rw [if_neg (by rw [decide_eq_true_eq]; omega)]; exact decide_eq_false ek)
             clear HBP HC
             go_wp2_with fail
             go_roundw
             case rel =>
              refine ⟨j + 1, by go_num, by omega, HBX.out, fun j' hj' => ?_⟩
              by_cases e : j' = j
              ·subst e; exact HBV.out
              ·exact HNP.out j' (by omega)
             case measure => simp [intOf]; omega
        ·have HNR := Lib.hid (Plane.badRow_no (fun j' hj' => HNP.out j' (by omega)) : Plane.badRow l i = false)
         clear HNP
         go_wp2_with fail
         go_roundw
         case rel =>
          refine ⟨i + 1, by go_num, by omega, HB.out, fun j' hj' => ?_⟩
          by_cases e : j' = i
          ·subst e; exact HNR.out
          ·exact HNO.out j' (by omega)
         case measure => simp [intOf]; omega
      ·go_wp2_with fail
       go_ret2
       exact ⟨by rw [Plane.polyP_fine hl HOA.out H3.out HTW.out (fun j hj => HNO.out j (by omega))]; rfl, HB.out⟩
set_option maxHeartbeats 400000 in
set_option maxRecDepth 100000 in
theorem poly_many (A0 : Option Addr) (c0 : Nat) (l : List (Int × Int)) (w : World) (hl : 200 < l.length) (hm : l.length ≤ 9223372036854775807) :
 Calls Try.prog 36 #[.slice A0 l.length c0] w fun e w' => e = .returned (.tuple #[.int .i64 (Plane.polyP l).1, .int .i64 (Plane.polyP l).2]) ∧ Below w.heap.size w w' := by
 by_cases h4 : 4096 < l.length
 ·go_enter Try.func36, Try.ntmps36
  go_wp2
  go_ret2
  exact ⟨by unfold Plane.polyP; rw [if_pos h4]; rfl, Below.refl _ _⟩
 ·go_enter Try.func36, Try.ntmps36
  go_wp2
  go_ret2
  exact ⟨by unfold Plane.polyP; rw [if_neg h4, if_pos hl]; rfl, Below.refl _ _⟩
set_option maxHeartbeats 8000000 in
set_option maxRecDepth 100000 in
theorem impl_PolygonCode.calls (A0 : Option Addr) (c0 : Nat) (l0 : List (S34)) (r1 : Int) (r2 : Int) (w : World) (hr0 : Kd.C k34 w A0 l0.length l0) (hc0 : l0.length ≤ c0) (h : impl_PolygonCode.f l0 = some (r1, r2)) :
 Calls Try.prog 36 #[.slice A0 l0.length c0] w fun e w' => e = .returned (.tuple #[.int .i64 r1, .int .i64 r2]) ∧ Below w.heap.size w w' := by
 unfold impl_PolygonCode.f at h
 obtain ⟨rfl, rfl⟩ := Prod.mk.inj (Option.some.inj h)
 clear h
 obtain ⟨l, hl⟩ : ∃ l, l = l0.map fun s => (s.f0, s.f1) := ⟨_, rfl⟩
 have hl0 : l0 = l.map ptS := by rw [hl, List.map_map]; exact (List.map_id _).symm
 rw [← hl]
 clear hl
 subst hl0
 have hm : l.length ≤ 9223372036854775807 := by have := hr0.2.1; rwa [List.length_map] at this
 rw [List.length_map] at hr0 hc0 ⊢
 by_cases h2 : l.length ≤ 200
 ·exact poly_walk A0 c0 l w hr0 hc0 h2
 ·exact poly_many A0 c0 l w (by omega) hm
def laws_FnExactPolygonCode.j0 : Nat → List (S49) → List (S34) → Bool → Option (Bool)
 | 0, _, _, _ => none
 | k + 1, x0, x6, x34 => if x34 = true then (some false) else ((laws_toPointS.f k x0).bind fun t258 => ((laws_eqPointS.f k x6 t258).bind fun t261 => (if t261 = true then (some true) else (some false))))
def laws_FnExactPolygonCode.f (k : Nat) (l0 : List (S49)) : Option (Bool) := (laws_szPointS.f l0 1048576).bind fun t247 => (if t247 < 0 then (some true) else ((laws_toPointS.f k l0).bind fun t248 => ((spec_PolygonCode.f k t248).bind fun bt251 => ((laws_toPointS.f k l0).bind fun t253 => ((impl_PolygonCode.f t253).bind fun bt256 => (if bt256.1 = bt251.1 then (laws_FnExactPolygonCode.j0 k l0 t253 (bt256.2 != bt251.2)) else (laws_FnExactPolygonCode.j0 k l0 t253 true)))))))
theorem laws_FnExactPolygonCode.mono_l : ∀ k, (∀ y0 y1 y2, LeO (laws_FnExactPolygonCode.j0 k y0 y1 y2) (laws_FnExactPolygonCode.j0 (k + 1) y0 y1 y2))
 | 0 => fun _ _ _ r h => by simp [laws_FnExactPolygonCode.j0] at h
 | k + 1 => by
  have ih0 := laws_FnExactPolygonCode.mono_l k
  ·intro y0 y1 y2
   unfold laws_FnExactPolygonCode.j0
   repeat' first
   | (with_reducible exact ih0 _ _ _)
   | (with_reducible exact laws_eqPointS.mono _ _ _)
   | (with_reducible exact laws_toPointS.mono _ _)
   | (with_reducible exact spec_PolygonCode.mono _ _)
   | (with_reducible exact LeO.refl _)
   | (with_reducible exact LeO.none _)
   | (with_reducible refine LeO.ite ?_ ?_)
   | (with_reducible refine LeO.bind ?_ (fun _ => ?_))
   | exact ih0 _ _ _
   | exact laws_eqPointS.mono _ _ _
   | exact laws_toPointS.mono _ _
   | exact spec_PolygonCode.mono _ _
   | exact LeO.none _
   | refine LeO.ite ?_ ?_
   | refine LeO.bind ?_ (fun _ => ?_)
theorem laws_FnExactPolygonCode.mono : ∀ a0 k, LeO (laws_FnExactPolygonCode.f k a0) (laws_FnExactPolygonCode.f (k + 1) a0) := by
 intro a0 k
 have ih0 := laws_FnExactPolygonCode.mono_l k
 unfold laws_FnExactPolygonCode.f
 repeat' first
  | (with_reducible exact ih0 _ _ _)
  | (with_reducible exact laws_eqPointS.mono _ _ _)
  | (with_reducible exact laws_toPointS.mono _ _)
  | (with_reducible exact spec_PolygonCode.mono _ _)
  | (with_reducible exact LeO.refl _)
  | (with_reducible exact LeO.none _)
  | (with_reducible refine LeO.ite ?_ ?_)
  | (with_reducible refine LeO.bind ?_ (fun _ => ?_))
  | exact ih0 _ _ _
  | exact laws_eqPointS.mono _ _ _
  | exact laws_toPointS.mono _ _
  | exact spec_PolygonCode.mono _ _
  | exact LeO.none _
  | refine LeO.ite ?_ ?_
  | refine LeO.bind ?_ (fun _ => ?_)
set_option maxHeartbeats 8000000 in
set_option maxRecDepth 100000 in
theorem laws_FnExactPolygonCode.calls (k : Nat) (A0 : Option Addr) (c0 : Nat) (l0 : List (S49)) (r : Bool) (w : World) (hr0 : Kd.C k49 w A0 l0.length l0) (hc0 : l0.length ≤ c0) (h : laws_FnExactPolygonCode.f k l0 = some r) :
 Calls Try.prog 7 #[.slice A0 l0.length c0] w fun e w' => e = .returned (.bool r) ∧ Below w.heap.size w w' := by
 have HR0 := Aside0.mk hr0
 have HC0 := Aside0.mk hc0
 clear hr0 hc0
 have HB := Aside0.mk (Below.refl w.heap.size w)
 have H : ((laws_szPointS.f l0 1048576).bind fun t247 => (if t247 < 0 then (some true) else ((laws_toPointS.f k l0).bind fun t248 => ((spec_PolygonCode.f k t248).bind fun bt251 => ((laws_toPointS.f k l0).bind fun t253 => ((impl_PolygonCode.f t253).bind fun bt256 => (if bt256.1 = bt251.1 then (laws_FnExactPolygonCode.j0 k l0 t253 (bt256.2 != bt251.2)) else (laws_FnExactPolygonCode.j0 k l0 t253 true)))))))) = some r := h
 clear h
 replace H := Option.bind_eq_some_iff.mp H
 obtain ⟨t247, A20, H⟩ := H
 replace H : (if t247 < 0 then (some true) else ((laws_toPointS.f k l0).bind fun t248 => ((spec_PolygonCode.f k t248).bind fun bt251 => ((laws_toPointS.f k l0).bind fun t253 => ((impl_PolygonCode.f t253).bind fun bt256 => (if bt256.1 = bt251.1 then (laws_FnExactPolygonCode.j0 k l0 t253 (bt256.2 != bt251.2)) else (laws_FnExactPolygonCode.j0 k l0 t253 true))))))) = some r := H
 have A2 := Aside0.mk A20
 clear A20
 by_cases c3 : t247 < 0
 ·rw [if_pos c3] at H
  have c3b0 : decide (t247 < 0) = true := decide_eq_true c3
  clear c3
  obtain rfl := Option.some.inj H
  go_enter Try.func7, Try.ntmps7
  go_wp2_with (first | ((with_reducible refine gate_callee (f := 14) rfl ?_); refine goesL_ (some 11) rfl rfl Try.func14 (by kernel_rfl) rfl #[.slice A0 l0.length c0, .int .i64 1048576] rfl (by (try simp only [List.map_toArray, List.map_cons, List.map_nil]); first | done | rfl | (simp only [List.length_drop, List.length_take]; rfl)) ?_; (with_reducible refine (laws_szPointS.calls _ _ l0 1048576 t247 _ ?side1 ?side2 A2.out).mono ?_); (case side1 => repeat (first | exact HR0.out | (with_reducible refine Kd.C_alloc ?_ _) | (with_reducible refine Kd.C_drewN ?_ _) | (with_reducible refine Kd.C_drew ?_))); (case side2 => exact HC0.out); rintro e w' ⟨rfl, ⟨nd, rfl⟩⟩; refine ⟨_, rfl, ?_⟩))
  go_ret
  exact ⟨by first | rfl | (simp [errW_none, errW_some] <;> rfl) | (simp [*, errW_none, errW_some] <;> rfl), by repeat (first | (with_reducible first | exact HB.out | apply below_alloc | apply pw_below_drewN | apply below_drew1) | exact HB.out)⟩
 ·rw [if_neg c3] at H
  have c3b0 : decide (t247 < 0) = false := decide_eq_false c3
  clear c3
  replace H := Option.bind_eq_some_iff.mp H
  obtain ⟨t248, A40, H⟩ := H
  replace H : ((spec_PolygonCode.f k t248).bind fun bt251 => ((laws_toPointS.f k l0).bind fun t253 => ((impl_PolygonCode.f t253).bind fun bt256 => (if bt256.1 = bt251.1 then (laws_FnExactPolygonCode.j0 k l0 t253 (bt256.2 != bt251.2)) else (laws_FnExactPolygonCode.j0 k l0 t253 true))))) = some r := H
  have A4 := Aside0.mk A40
  clear A40
  replace H := Option.bind_eq_some_iff.mp H
  obtain ⟨⟨t251, t252⟩, A50, H⟩ := H
  replace H : ((laws_toPointS.f k l0).bind fun t253 => ((impl_PolygonCode.f t253).bind fun bt256 => (if bt256.1 = t251 then (laws_FnExactPolygonCode.j0 k l0 t253 (bt256.2 != t252)) else (laws_FnExactPolygonCode.j0 k l0 t253 true)))) = some r := H
  have A5 := Aside0.mk A50
  clear A50
  replace H := Option.bind_eq_some_iff.mp H
  obtain ⟨t253, A60, H⟩ := H
  replace H : ((impl_PolygonCode.f t253).bind fun bt256 => (if bt256.1 = t251 then (laws_FnExactPolygonCode.j0 k l0 t253 (bt256.2 != t252)) else (laws_FnExactPolygonCode.j0 k l0 t253 true))) = some r := H
  have A6 := Aside0.mk A60
  clear A60
  replace H := Option.bind_eq_some_iff.mp H
  obtain ⟨⟨t256, t257⟩, A70, H⟩ := H
  replace H : (if t256 = t251 then (laws_FnExactPolygonCode.j0 k l0 t253 (t257 != t252)) else (laws_FnExactPolygonCode.j0 k l0 t253 true)) = some r := H
  have A7 := Aside0.mk A70
  clear A70
  have HC8 := Aside0.mk H
  clear H
  go_enter Try.func7, Try.ntmps7
  go_upto_region 8 with (first | ((with_reducible refine gate_callee (f := 14) rfl ?_); refine goesL_ (some 11) rfl rfl Try.func14 (by kernel_rfl) rfl #[.slice A0 l0.length c0, .int .i64 1048576] rfl (by (try simp only [List.map_toArray, List.map_cons, List.map_nil]); first | done | rfl | (simp only [List.length_drop, List.length_take]; rfl)) ?_; (with_reducible refine (laws_szPointS.calls _ _ l0 1048576 t247 _ ?side1 ?side2 A2.out).mono ?_); (case side1 => repeat (first | exact HR0.out | (with_reducible refine Kd.C_alloc ?_ _) | (with_reducible refine Kd.C_drewN ?_ _) | (with_reducible refine Kd.C_drew ?_))); (case side2 => exact HC0.out); rintro e w' ⟨rfl, ⟨nd, rfl⟩⟩; refine ⟨_, rfl, ?_⟩) | ((with_reducible refine gate_callee (f := 16) rfl ?_); refine goesL_ (some 16) rfl rfl Try.func16 (by kernel_rfl) rfl #[.slice A0 l0.length c0] rfl (by (try simp only [List.map_toArray, List.map_cons, List.map_nil]); first | done | rfl | (simp only [List.length_drop, List.length_take]; rfl)) ?_; (with_reducible refine (laws_toPointS.calls k _ _ l0 t248 _ ?side1 ?side2 A4.out).mono ?_); (case side1 => repeat (first | exact HR0.out | (with_reducible refine Kd.C_alloc ?_ _) | (with_reducible refine Kd.C_drewN ?_ _) | (with_reducible refine Kd.C_drew ?_))); (case side2 => exact HC0.out); rintro e w9 ⟨v249, rfl, ho0, hb⟩; refine ⟨_, rfl, ?_⟩; have n0_ := Aside0.mk (Kd.R_lower ho0 (below_size (by repeat (first | (with_reducible first | exact HB.out | apply below_alloc | apply pw_below_drewN | apply below_drew1) | exact HB.out)))); have n1_ := Aside0.mk (below_step (by repeat (first | (with_reducible first | exact HB.out | apply below_alloc | apply pw_below_drewN | apply below_drew1) | exact HB.out)) hb); clear HB; have HO250 := n0_; have HB := n1_; clear n0_ n1_; (try clear hb); (try clear hb2); (try clear hk); (try clear hi); (try clear ho0); obtain ⟨Ao10, co10, eo10⟩ := Kd.R_slice HO250.out; subst eo10) | ((with_reducible refine gate_callee (f := 35) rfl ?_); refine goesL_ (some 17) rfl rfl Try.func35 (by kernel_rfl) rfl #[.slice Ao10 t248.length co10] rfl (by (try simp only [List.map_toArray, List.map_cons, List.map_nil]); first | done | rfl | (simp only [List.length_drop, List.length_take]; rfl)) ?_; (with_reducible refine (spec_PolygonCode.calls k _ _ t248 t251 t252 _ ?side1 ?side2 A5.out).mono ?_); (case side1 => repeat (first | exact (Kd.R_reads' HO250.out).2.2 | (with_reducible refine Kd.C_alloc ?_ _) | (with_reducible refine Kd.C_drewN ?_ _) | (with_reducible refine Kd.C_drew ?_))); (case side2 => exact (Kd.R_reads' HO250.out).2.1); rintro e w11 ⟨rfl, hb⟩; refine ⟨_, rfl, ?_⟩; have n0_ := Aside0.mk (Kd.R_below (by (with_reducible repeat (first | apply Kd.R_alloc | apply Kd.R_drewN | apply Kd.R_drew)); exact HO250.out) hb); have n1_ := Aside0.mk (below_step (by repeat (first | (with_reducible first | exact HB.out | apply below_alloc | apply pw_below_drewN | apply below_drew1) | exact HB.out)) hb); clear HO250; clear HB; have HO250 := n0_; have HB := n1_; clear n0_ n1_; (try clear hb); (try clear hb2); (try clear hk); (try clear hi)) | ((with_reducible refine gate_callee (f := 16) rfl ?_); refine goesL_ (some 21) rfl rfl Try.func16 (by kernel_rfl) rfl #[.slice A0 l0.length c0] rfl (by (try simp only [List.map_toArray, List.map_cons, List.map_nil]); first | done | rfl | (simp only [List.length_drop, List.length_take]; rfl)) ?_; (with_reducible refine (laws_toPointS.calls k _ _ l0 t253 _ ?side1 ?side2 A6.out).mono ?_); (case side1 => repeat (first | exact (Kd.C_below HR0.out HB.out) | (with_reducible refine Kd.C_alloc ?_ _) | (with_reducible refine Kd.C_drewN ?_ _) | (with_reducible refine Kd.C_drew ?_))); (case side2 => exact HC0.out); rintro e w12 ⟨v254, rfl, ho0, hb⟩; refine ⟨_, rfl, ?_⟩; have n0_ := Aside0.mk (Kd.R_elder' (by (with_reducible repeat (first | apply Kd.R_alloc | apply Kd.R_drewN | apply Kd.R_drew)); exact HO250.out) (Kd.R_base ho0) hb); have n1_ := Aside0.mk (Kd.R_lower (Kd.R_new' ho0 (Kd.R_lt (by (with_reducible repeat (first | apply Kd.R_alloc | apply Kd.R_drewN | apply Kd.R_drew)); exact HO250.out))) (below_size (by repeat (first | (with_reducible first | exact HB.out | apply below_alloc | apply pw_below_drewN | apply below_drew1) | exact HB.out)))); have n2_ := Aside0.mk (below_step (by repeat (first | (with_reducible first | exact HB.out | apply below_alloc | apply pw_below_drewN | apply below_drew1) | exact HB.out)) hb); clear HO250; clear HB; have HO250 := n0_; have HO255 := n1_; have HB := n2_; clear n0_ n1_ n2_; (try clear hb); (try clear hb2); (try clear hk); (try clear hi); (try clear ho0); obtain ⟨Ao13, co13, eo13⟩ := Kd.R_slice HO255.out; subst eo13) | ((with_reducible refine gate_callee (f := 36) rfl ?_); refine goesL_ (some 24) rfl rfl Try.func36 (by kernel_rfl) rfl #[.slice Ao13 t253.length co13] rfl (by (try simp only [List.map_toArray, List.map_cons, List.map_nil]); first | done | rfl | (simp only [List.length_drop, List.length_take]; rfl)) ?_; (with_reducible refine (impl_PolygonCode.calls _ _ t253 t256 t257 _ ?side1 ?side2 A7.out).mono ?_); (case side1 => repeat (first | exact (Kd.R_reads' HO255.out).2.2 | (with_reducible refine Kd.C_alloc ?_ _) | (with_reducible refine Kd.C_drewN ?_ _) | (with_reducible refine Kd.C_drew ?_))); (case side2 => exact (Kd.R_reads' HO255.out).2.1); rintro e w14 ⟨rfl, hb⟩; refine ⟨_, rfl, ?_⟩; have n0_ := Aside0.mk (Kd.R_below (by (with_reducible repeat (first | apply Kd.R_alloc | apply Kd.R_drewN | apply Kd.R_drew)); exact HO250.out) hb); have n1_ := Aside0.mk (Kd.R_below (by (with_reducible repeat (first | apply Kd.R_alloc | apply Kd.R_drewN | apply Kd.R_drew)); exact HO255.out) hb); have n2_ := Aside0.mk (below_step (by repeat (first | (with_reducible first | exact HB.out | apply below_alloc | apply pw_below_drewN | apply below_drew1) | exact HB.out)) hb); clear HO250; clear HO255; clear HB; have HO250 := n0_; have HO255 := n1_; have HB := n2_; clear n0_ n1_ n2_; (try clear hb); (try clear hb2); (try clear hk); (try clear hi)))
  (try simp only [Act.put, List.setIfInBounds_toArray, List.set_cons_zero, List.set_cons_succ])
  go_cut [34] (fun v34 wc => ∃ (kq : Nat) (x34_7 : Bool), v34 = .bool x34_7 ∧ Aside0 (laws_FnExactPolygonCode.j0 kq l0 t253 x34_7 = some r) ∧ Aside0 (kq ≤ k) ∧ Aside0 (Kd.R k34 34 wc w.heap.size (fun _ => True) (.slice Ao13 t253.length co13) t253) ∧ Aside0 (Below w.heap.size w wc))
  case first =>
   have H := HC8.out
   clear HC8
   by_cases c15 : t256 = t251
   ·rw [if_pos c15] at H
    have c15b0 : (t256 == t251) = true := beq_iff_eq.mpr c15
    have c15b1 : (t256 != t251) = false := bne_eq_false_iff_eq.mpr c15
    clear c15
    (first | rw [c15b0] | (simp only [i64_w, i32_w]; rw [c15b0]) | skip)
    have H' := Aside0.mk H
    clear H
    go_wp2
    go_meet
    case rel => exact ⟨_, ((t257 != t252)), (by first | rfl | (simp; done) | (simp [*]; done)), H', ⟨by first | omega | exact Nat.le_refl _⟩, ⟨by (with_reducible repeat (first | apply Kd.R_alloc | apply Kd.R_drewN | apply Kd.R_drew)); exact Kd.R_mono HO255.out (fun _ hk => trivial)⟩, ⟨by repeat (first | (with_reducible first | exact HB.out | apply below_alloc | apply pw_below_drewN | apply below_drew1) | exact HB.out)⟩⟩
   ·rw [if_neg c15] at H
    have c15b0 : (t256 == t251) = false := beq_eq_false_iff_ne.mpr c15
    have c15b1 : (t256 != t251) = true := bne_iff_ne.mpr c15
    (first | rw [c15b0] | (simp only [i64_w, i32_w]; rw [c15b0]) | skip)
    have H' := Aside0.mk H
    clear H
    go_wp2
    go_meet
    case rel => exact ⟨_, (true), (by first | rfl | (simp; done) | (simp [*]; done)), H', ⟨by first | omega | exact Nat.le_refl _⟩, ⟨by (with_reducible repeat (first | apply Kd.R_alloc | apply Kd.R_drewN | apply Kd.R_drew)); exact Kd.R_mono HO255.out (fun _ hk => trivial)⟩, ⟨by repeat (first | (with_reducible first | exact HB.out | apply below_alloc | apply pw_below_drewN | apply below_drew1) | exact HB.out)⟩⟩
  case rest =>
   clear HC8
   try clear c1
   try clear p2
   try clear c3
   try clear c3b0
   try clear c7
   try clear c14
   try clear c15
   try clear c15b0
   try clear c15b1
   obtain ⟨kq, x34_7, rfl, HA, HJ7, HO_6, HB⟩ := hcut
   cases kq with
   | zero => exact absurd HA.out (by simp [laws_FnExactPolygonCode.j0])
   | succ kj7 =>
    have H := HA.out
    clear HA
    simp only [laws_FnExactPolygonCode.j0] at H
    by_cases c16 : x34_7 = true
    ·subst c16
     have H1 : (some false) = some r := by rw [if_pos rfl] at H; exact H
     clear H
     have H := H1
     clear H1
     obtain rfl := Option.some.inj H
     go_wp2
     go_ret
     exact ⟨by first | rfl | (simp [errW_none, errW_some] <;> rfl) | (simp [*, errW_none, errW_some] <;> rfl), by repeat (first | (with_reducible first | exact HB.out | apply below_alloc | apply pw_below_drewN | apply below_drew1) | exact HB.out)⟩
    ·replace c16 := Bool.eq_false_iff.mpr c16
     subst c16
     have H1 : ((laws_toPointS.f kj7 l0).bind fun t258 => ((laws_eqPointS.f kj7 t253 t258).bind fun t261 => (if t261 = true then (some true) else (some false)))) = some r := by rw [if_neg (show ¬ (false = true) by decide)] at H; exact H
     clear H
     have H := H1
     clear H1
     replace H := Option.bind_eq_some_iff.mp H
     obtain ⟨t258, A170, H⟩ := H
     replace H : ((laws_eqPointS.f kj7 t253 t258).bind fun t261 => (if t261 = true then (some true) else (some false))) = some r := H
     have A17 := Aside0.mk A170
     clear A170
     replace H := Option.bind_eq_some_iff.mp H
     obtain ⟨t261, A180, H⟩ := H
     replace H : (if t261 = true then (some true) else (some false)) = some r := H
     have A18 := Aside0.mk A180
     clear A180
     by_cases c19 : t261 = true
     ·subst c19
      have H1 : (some true) = some r := by rw [if_pos rfl] at H; exact H
      clear H
      have H := H1
      clear H1
      obtain rfl := Option.some.inj H
      go_wp2_with (first | ((with_reducible refine gate_callee (f := 16) rfl ?_); refine goesL_ (some 37) rfl rfl Try.func16 (by kernel_rfl) rfl #[.slice A0 l0.length c0] rfl (by (try simp only [List.map_toArray, List.map_cons, List.map_nil]); first | done | rfl | (simp only [List.length_drop, List.length_take]; rfl)) ?_; (with_reducible refine (laws_toPointS.calls kj7 _ _ l0 t258 _ ?side1 ?side2 A17.out).mono ?_); (case side1 => repeat (first | exact (Kd.C_below HR0.out HB.out) | (with_reducible refine Kd.C_alloc ?_ _) | (with_reducible refine Kd.C_drewN ?_ _) | (with_reducible refine Kd.C_drew ?_))); (case side2 => exact HC0.out); rintro e w20 ⟨v259, rfl, ho0, hb⟩; refine ⟨_, rfl, ?_⟩; have n0_ := Aside0.mk (Kd.R_elder' (by (with_reducible repeat (first | apply Kd.R_alloc | apply Kd.R_drewN | apply Kd.R_drew)); exact HO_6.out) (Kd.R_base ho0) hb); have n1_ := Aside0.mk (Kd.R_lower (Kd.R_new' ho0 (Kd.R_lt (by (with_reducible repeat (first | apply Kd.R_alloc | apply Kd.R_drewN | apply Kd.R_drew)); exact HO_6.out))) (below_size (by repeat (first | (with_reducible first | exact HB.out | apply below_alloc | apply pw_below_drewN | apply below_drew1) | exact HB.out)))); have n2_ := Aside0.mk (below_step (by repeat (first | (with_reducible first | exact HB.out | apply below_alloc | apply pw_below_drewN | apply below_drew1) | exact HB.out)) hb); clear HO_6; clear HB; have HO_6 := n0_; have HO260 := n1_; have HB := n2_; clear n0_ n1_ n2_; (try clear hb); (try clear hb2); (try clear hk); (try clear hi); (try clear ho0); obtain ⟨Ao21, co21, eo21⟩ := Kd.R_slice HO260.out; subst eo21) | ((with_reducible refine gate_callee (f := 18) rfl ?_); refine goesL_ (some 38) rfl rfl Try.func18 (by kernel_rfl) rfl #[.slice Ao13 t253.length co13, .slice Ao21 t258.length co21] rfl (by (try simp only [List.map_toArray, List.map_cons, List.map_nil]); first | done | rfl | (simp only [List.length_drop, List.length_take]; rfl)) ?_; (with_reducible refine (laws_eqPointS.calls kj7 _ _ t253 _ _ t258 true _ ?side1 ?side2 ?side3 ?side4 A18.out).mono ?_); (case side1 => repeat (first | exact (Kd.R_reads' HO_6.out).2.2 | (with_reducible refine Kd.C_alloc ?_ _) | (with_reducible refine Kd.C_drewN ?_ _) | (with_reducible refine Kd.C_drew ?_))); (case side2 => exact (Kd.R_reads' HO_6.out).2.1); (case side3 => repeat (first | exact (Kd.R_reads' HO260.out).2.2 | (with_reducible refine Kd.C_alloc ?_ _) | (with_reducible refine Kd.C_drewN ?_ _) | (with_reducible refine Kd.C_drew ?_))); (case side4 => exact (Kd.R_reads' HO260.out).2.1); rintro e w22 ⟨rfl, hb⟩; refine ⟨_, rfl, ?_⟩; have n0_ := Aside0.mk (Kd.R_below (by (with_reducible repeat (first | apply Kd.R_alloc | apply Kd.R_drewN | apply Kd.R_drew)); exact HO_6.out) hb); have n1_ := Aside0.mk (Kd.R_below (by (with_reducible repeat (first | apply Kd.R_alloc | apply Kd.R_drewN | apply Kd.R_drew)); exact HO260.out) hb); have n2_ := Aside0.mk (below_step (by repeat (first | (with_reducible first | exact HB.out | apply below_alloc | apply pw_below_drewN | apply below_drew1) | exact HB.out)) hb); clear HO_6; clear HO260; clear HB; have HO_6 := n0_; have HO260 := n1_; have HB := n2_; clear n0_ n1_ n2_; (try clear hb); (try clear hb2); (try clear hk); (try clear hi)))
      go_ret
      exact ⟨by first | rfl | (simp [errW_none, errW_some] <;> rfl) | (simp [*, errW_none, errW_some] <;> rfl), by repeat (first | (with_reducible first | exact HB.out | apply below_alloc | apply pw_below_drewN | apply below_drew1) | exact HB.out)⟩
     ·replace c19 := Bool.eq_false_iff.mpr c19
      subst c19
      have H1 : (some false) = some r := by rw [if_neg (show ¬ (false = true) by decide)] at H; exact H
      clear H
      have H := H1
      clear H1
      obtain rfl := Option.some.inj H
      go_wp2_with (first | ((with_reducible refine gate_callee (f := 16) rfl ?_); refine goesL_ (some 37) rfl rfl Try.func16 (by kernel_rfl) rfl #[.slice A0 l0.length c0] rfl (by (try simp only [List.map_toArray, List.map_cons, List.map_nil]); first | done | rfl | (simp only [List.length_drop, List.length_take]; rfl)) ?_; (with_reducible refine (laws_toPointS.calls kj7 _ _ l0 t258 _ ?side1 ?side2 A17.out).mono ?_); (case side1 => repeat (first | exact (Kd.C_below HR0.out HB.out) | (with_reducible refine Kd.C_alloc ?_ _) | (with_reducible refine Kd.C_drewN ?_ _) | (with_reducible refine Kd.C_drew ?_))); (case side2 => exact HC0.out); rintro e w23 ⟨v259, rfl, ho0, hb⟩; refine ⟨_, rfl, ?_⟩; have n0_ := Aside0.mk (Kd.R_elder' (by (with_reducible repeat (first | apply Kd.R_alloc | apply Kd.R_drewN | apply Kd.R_drew)); exact HO_6.out) (Kd.R_base ho0) hb); have n1_ := Aside0.mk (Kd.R_lower (Kd.R_new' ho0 (Kd.R_lt (by (with_reducible repeat (first | apply Kd.R_alloc | apply Kd.R_drewN | apply Kd.R_drew)); exact HO_6.out))) (below_size (by repeat (first | (with_reducible first | exact HB.out | apply below_alloc | apply pw_below_drewN | apply below_drew1) | exact HB.out)))); have n2_ := Aside0.mk (below_step (by repeat (first | (with_reducible first | exact HB.out | apply below_alloc | apply pw_below_drewN | apply below_drew1) | exact HB.out)) hb); clear HO_6; clear HB; have HO_6 := n0_; have HO260 := n1_; have HB := n2_; clear n0_ n1_ n2_; (try clear hb); (try clear hb2); (try clear hk); (try clear hi); (try clear ho0); obtain ⟨Ao24, co24, eo24⟩ := Kd.R_slice HO260.out; subst eo24) | ((with_reducible refine gate_callee (f := 18) rfl ?_); refine goesL_ (some 38) rfl rfl Try.func18 (by kernel_rfl) rfl #[.slice Ao13 t253.length co13, .slice Ao24 t258.length co24] rfl (by (try simp only [List.map_toArray, List.map_cons, List.map_nil]); first | done | rfl | (simp only [List.length_drop, List.length_take]; rfl)) ?_; (with_reducible refine (laws_eqPointS.calls kj7 _ _ t253 _ _ t258 false _ ?side1 ?side2 ?side3 ?side4 A18.out).mono ?_); (case side1 => repeat (first | exact (Kd.R_reads' HO_6.out).2.2 | (with_reducible refine Kd.C_alloc ?_ _) | (with_reducible refine Kd.C_drewN ?_ _) | (with_reducible refine Kd.C_drew ?_))); (case side2 => exact (Kd.R_reads' HO_6.out).2.1); (case side3 => repeat (first | exact (Kd.R_reads' HO260.out).2.2 | (with_reducible refine Kd.C_alloc ?_ _) | (with_reducible refine Kd.C_drewN ?_ _) | (with_reducible refine Kd.C_drew ?_))); (case side4 => exact (Kd.R_reads' HO260.out).2.1); rintro e w25 ⟨rfl, hb⟩; refine ⟨_, rfl, ?_⟩; have n0_ := Aside0.mk (Kd.R_below (by (with_reducible repeat (first | apply Kd.R_alloc | apply Kd.R_drewN | apply Kd.R_drew)); exact HO_6.out) hb); have n1_ := Aside0.mk (Kd.R_below (by (with_reducible repeat (first | apply Kd.R_alloc | apply Kd.R_drewN | apply Kd.R_drew)); exact HO260.out) hb); have n2_ := Aside0.mk (below_step (by repeat (first | (with_reducible first | exact HB.out | apply below_alloc | apply pw_below_drewN | apply below_drew1) | exact HB.out)) hb); clear HO_6; clear HO260; clear HB; have HO_6 := n0_; have HO260 := n1_; have HB := n2_; clear n0_ n1_ n2_; (try clear hb); (try clear hb2); (try clear hk); (try clear hi)))
      go_ret
      exact ⟨by first | rfl | (simp [errW_none, errW_some] <;> rfl) | (simp [*, errW_none, errW_some] <;> rfl), by repeat (first | (with_reducible first | exact HB.out | apply below_alloc | apply pw_below_drewN | apply below_drew1) | exact HB.out)⟩
def spec_l03Polygon.f (k : Nat) (l0 : List (S34)) : Option (Bool) := (spec_PolygonCode.f k l0).bind fun bt262 => (some (bt262.1 == 0))
theorem spec_l03Polygon.mono : ∀ a0 k, LeO (spec_l03Polygon.f k a0) (spec_l03Polygon.f (k + 1) a0) := by
 intro a0 k
 unfold spec_l03Polygon.f
 repeat' first
  | (with_reducible exact spec_PolygonCode.mono _ _)
  | (with_reducible exact LeO.refl _)
  | (with_reducible exact LeO.none _)
  | (with_reducible refine LeO.ite ?_ ?_)
  | (with_reducible refine LeO.bind ?_ (fun _ => ?_))
  | exact spec_PolygonCode.mono _ _
  | exact LeO.none _
  | refine LeO.ite ?_ ?_
  | refine LeO.bind ?_ (fun _ => ?_)
set_option maxHeartbeats 8000000 in
set_option maxRecDepth 100000 in
theorem spec_l03Polygon.calls (k : Nat) (A0 : Option Addr) (c0 : Nat) (l0 : List (S34)) (r : Bool) (w : World) (hr0 : Kd.C k34 w A0 l0.length l0) (hc0 : l0.length ≤ c0) (h : spec_l03Polygon.f k l0 = some r) :
 Calls Try.prog 78 #[.slice A0 l0.length c0] w fun e w' => e = .returned (.bool r) ∧ Below w.heap.size w w' := by
 have HR0 := Aside0.mk hr0
 have HC0 := Aside0.mk hc0
 clear hr0 hc0
 have HB := Aside0.mk (Below.refl w.heap.size w)
 have H : ((spec_PolygonCode.f k l0).bind fun bt262 => (some (bt262.1 == 0))) = some r := h
 clear h
 replace H := Option.bind_eq_some_iff.mp H
 obtain ⟨⟨t262, t263⟩, A20, H⟩ := H
 replace H : (some (t262 == 0)) = some r := H
 have A2 := Aside0.mk A20
 clear A20
 obtain rfl := Option.some.inj H
 go_enter Try.func78, Try.ntmps78
 go_wp2_with (first | ((with_reducible refine gate_callee (f := 35) rfl ?_); refine goesL_ (some 7) rfl rfl Try.func35 (by kernel_rfl) rfl #[.slice A0 l0.length c0] rfl (by (try simp only [List.map_toArray, List.map_cons, List.map_nil]); first | done | rfl | (simp only [List.length_drop, List.length_take]; rfl)) ?_; (with_reducible refine (spec_PolygonCode.calls k _ _ l0 t262 t263 _ ?side1 ?side2 A2.out).mono ?_); (case side1 => repeat (first | exact HR0.out | (with_reducible refine Kd.C_alloc ?_ _) | (with_reducible refine Kd.C_drewN ?_ _) | (with_reducible refine Kd.C_drew ?_))); (case side2 => exact HC0.out); rintro e w3 ⟨rfl, hb⟩; refine ⟨_, rfl, ?_⟩; have n0_ := Aside0.mk (below_step (by repeat (first | (with_reducible first | exact HB.out | apply below_alloc | apply pw_below_drewN | apply below_drew1) | exact HB.out)) hb); clear HB; have HB := n0_; clear n0_; (try clear hb); (try clear hb2); (try clear hk); (try clear hi)))
 go_ret
 exact ⟨by first | rfl | (simp [errW_none, errW_some] <;> rfl) | (simp [*, errW_none, errW_some] <;> rfl), by repeat (first | (with_reducible first | exact HB.out | apply below_alloc | apply pw_below_drewN | apply below_drew1) | exact HB.out)⟩
def spec_l03Area2.l0 : Nat → List (S34) → Int → Int → Option (Int)
 | 0, _, _, _ => none
 | k + 1, x0, x3, x4 => if x4 < (x0.length : Int) then (if 0 ≤ x4 then (if (x0.length : Int) = 0 then (none) else (if 0 ≤ (Int.tmod (wrap64 (x4 + 1)) (x0.length : Int)) then (if (Int.tmod (wrap64 (x4 + 1)) (x0.length : Int)) < (x0.length : Int) then (spec_l03Area2.l0 k x0 (wrap64 (x3 + (wrap64 ((wrap64 (((rd_T34 x0 x4).f0) * ((rd_T34 x0 (Int.tmod (wrap64 (x4 + 1)) (x0.length : Int))).f1))) - (wrap64 (((rd_T34 x0 x4).f1) * ((rd_T34 x0 (Int.tmod (wrap64 (x4 + 1)) (x0.length : Int))).f0))))))) (wrap64 (x4 + 1))) else (none)) else (none))) else (none)) else (some x3)
def spec_l03Area2.f (k : Nat) (l0 : List (S34)) : Option (Int) := spec_l03Area2.l0 k l0 0 0
theorem spec_l03Area2.mono_l : ∀ k, (∀ y0 y1 y2, LeO (spec_l03Area2.l0 k y0 y1 y2) (spec_l03Area2.l0 (k + 1) y0 y1 y2))
 | 0 => fun _ _ _ r h => by simp [spec_l03Area2.l0] at h
 | k + 1 => by
  have ih0 := spec_l03Area2.mono_l k
  ·intro y0 y1 y2
   unfold spec_l03Area2.l0
   repeat' first
   | (with_reducible exact ih0 _ _ _)
   | (with_reducible exact LeO.refl _)
   | (with_reducible exact LeO.none _)
   | (with_reducible refine LeO.ite ?_ ?_)
   | (with_reducible refine LeO.bind ?_ (fun _ => ?_))
   | exact ih0 _ _ _
   | exact LeO.none _
   | refine LeO.ite ?_ ?_
   | refine LeO.bind ?_ (fun _ => ?_)
theorem spec_l03Area2.mono : ∀ a0 k, LeO (spec_l03Area2.f k a0) (spec_l03Area2.f (k + 1) a0) := by
 intro a0 k
 have ih0 := spec_l03Area2.mono_l k
 unfold spec_l03Area2.f
 repeat' first
  | (with_reducible exact ih0 _ _ _)
  | (with_reducible exact LeO.refl _)
  | (with_reducible exact LeO.none _)
  | (with_reducible refine LeO.ite ?_ ?_)
  | (with_reducible refine LeO.bind ?_ (fun _ => ?_))
  | exact ih0 _ _ _
  | exact LeO.none _
  | refine LeO.ite ?_ ?_
  | refine LeO.bind ?_ (fun _ => ?_)
set_option maxHeartbeats 8000000 in
set_option maxRecDepth 100000 in
theorem spec_l03Area2.calls (k : Nat) (A0 : Option Addr) (c0 : Nat) (l0 : List (S34)) (r : Int) (w : World) (hr0 : Kd.C k34 w A0 l0.length l0) (hc0 : l0.length ≤ c0) (h : spec_l03Area2.f k l0 = some r) :
 Calls Try.prog 79 #[.slice A0 l0.length c0] w fun e w' => e = .returned (.int .i64 r) ∧ Below w.heap.size w w' := by
 have hu34 := Try.underlying34
 have HR0 := Aside0.mk hr0
 have HC0 := Aside0.mk hc0
 clear hr0 hc0
 have HB := Aside0.mk (Below.refl w.heap.size w)
 have H : (spec_l03Area2.l0 k l0 0 0) = some r := h
 clear h
 have H' := Aside0.mk H
 clear H
 go_enter Try.func79, Try.ntmps79
 go_wp2
 go_loopg [3, 4] k (fun kq v3 v4 w' => ∃ (x3_1 : Int) (x4_1 : Int), v3 = .int .i64 x3_1 ∧ v4 = .int .i64 x4_1 ∧ Aside0 (spec_l03Area2.l0 kq l0 x3_1 x4_1 = some r) ∧ Aside0 (kq ≤ k) ∧ Aside0 (Below w.heap.size w w'))
 case atStart => exact ⟨(0), (0), (by first | rfl | (simp; done) | (simp [*]; done)), (by first | rfl | (simp; done) | (simp [*]; done)), H', ⟨Nat.le_refl _⟩, ⟨by repeat (first | (with_reducible first | exact HB.out | apply below_alloc | apply pw_below_drewN | apply below_drew1) | exact HB.out)⟩⟩
 case round =>
  clear H'
  obtain ⟨x3_1, x4_1, rfl, rfl, HA, HK1, HB⟩ := hrel
  cases gk with
  | zero => exact absurd HA.out (by simp [spec_l03Area2.l0])
  | succ k1 =>
   have H := HA.out
   clear HA
   simp only [spec_l03Area2.l0] at H
   by_cases c2 : x4_1 < (l0.length : Int)
   ·rw [if_pos c2] at H
    have c2b0 : decide (x4_1 < (l0.length : Int)) = true := decide_eq_true c2
    clear c2
    by_cases c3 : 0 ≤ x4_1
    ·rw [if_pos c3] at H
     have c3b0 : decide (0 ≤ x4_1) = true := decide_eq_true c3
     clear c3
     by_cases c4 : (l0.length : Int) = 0
     ·rw [if_pos c4] at H
      exact absurd H (by simp)
     ·rw [if_neg c4] at H
      have c4b0 : ((l0.length : Int) == 0) = false := beq_eq_false_iff_ne.mpr c4
      have c4b1 : ((l0.length : Int) != 0) = true := bne_iff_ne.mpr c4
      have c4b2 : ¬ (l0 = []) := fun h_ => c4 (by rw [h_]; rfl)
      obtain ⟨ji5, hji5⟩ : ∃ j_ : Int, (Int.tmod (wrap64 (x4_1 + 1)) (l0.length : Int)) = j_ := ⟨_, rfl⟩
      replace H : (if 0 ≤ (ji5) then (if (ji5) < (l0.length : Int) then (spec_l03Area2.l0 k1 l0 (wrap64 (x3_1 + (wrap64 ((wrap64 (((rd_T34 l0 x4_1).f0) * ((rd_T34 l0 (ji5)).f1))) - (wrap64 (((rd_T34 l0 x4_1).f1) * ((rd_T34 l0 (ji5)).f0))))))) (wrap64 (x4_1 + 1))) else (none)) else (none)) = some r := by first | (rw [hji5] at H; exact H) | (simp only [hji5] at H ⊢; exact H)
      by_cases c6 : 0 ≤ (ji5)
      ·rw [if_pos c6] at H
       have c6b0 : decide (0 ≤ (ji5)) = true := decide_eq_true c6
       clear c6
       by_cases c7 : (ji5) < (l0.length : Int)
       ·rw [if_pos c7] at H
        have c7b0 : decide ((ji5) < (l0.length : Int)) = true := decide_eq_true c7
        clear c7
        have H' := Aside0.mk H
        clear H
        have p264 : 0 ≤ (x4_1 : Int) := of_decide_eq_true (by first | (with_reducible assumption) | assumption)
        have q264 : x4_1 < (l0.length : Int) := of_decide_eq_true (by first | (with_reducible assumption) | assumption)
        obtain ⟨ad264, e264, hx264_0, hx264_1⟩ := at_T34 HR0.out x4_1 p264 q264
        cases e264
        replace hx264_0 := (HB.out.cell (World.block_lt_of_cell? w _ hx264_0)).trans hx264_0
        replace hx264_1 := (HB.out.cell (World.block_lt_of_cell? w _ hx264_1)).trans hx264_1
        replace p264 := eq_true p264
        replace q264 := eq_true q264
        go_wp2_with (first | ((with_reducible refine gate_dst (N := 5) rfl ?_); refine box_event ?hg (N := 5) ?hd (cs := #[.int .i64 0, .int .i64 0]) (t := 34) ?hr ?_; (case hd => rfl); (case hg => rfl); (case hr => first | (go_simp; done) | (go_simp; rfl)); intro gb265 hg w8 hbox hb; have n0_ := Aside0.mk (below_step (by repeat (first | (with_reducible first | exact HB.out | apply below_alloc | apply pw_below_drewN | apply below_drew1) | exact HB.out)) hb); have n1_ := Aside0.mk (hbox); have n2_ := Aside0.mk ((by rw [hg]; exact (below_size (by repeat (first | (with_reducible first | exact HB.out | apply below_alloc | apply pw_below_drewN | apply below_drew1) | exact HB.out))) : w.heap.size ≤ gb265)); have n3_ := Aside0.mk ((by rw [hg]; exact (below_size (by repeat (first | (with_reducible first | exact HB.out | apply below_alloc | apply pw_below_drewN | apply below_drew1) | exact HB.out))) : w.heap.size ≤ gb265)); clear HB; have HB := n0_; have BK265 := n1_; have GW265 := n2_; have GE265 := n3_; clear n0_ n1_ n2_ n3_; clear hb hbox hg; have hcz9_0 : w8.cell? ⟨gb265, 0, none⟩ = some (.int .i64 0) := (blk_cell BK265.out 0).trans rfl; have hcz9_1 : w8.cell? ⟨gb265, 1, none⟩ = some (.int .i64 0) := (blk_cell BK265.out 1).trans rfl; have hfz9_0 := blk_frozen BK265.out 0; have hfz9_1 := blk_frozen BK265.out 1; have p266 : 0 ≤ ((ji5) : Int) := of_decide_eq_true (by first | (with_reducible assumption) | assumption); have q266 : (ji5) < (l0.length : Int) := of_decide_eq_true (by first | (with_reducible assumption) | assumption); obtain ⟨ad266, e266, hx266_0, hx266_1⟩ := at_T34 HR0.out (ji5) p266 q266; obtain rfl : ad264 = ad266 := (by injection e266); have hn266_0 : ad264.block ≠ gb265 := Nat.ne_of_lt (Nat.lt_of_lt_of_le (by have := World.block_lt_of_cell? _ _ hx266_0; first | rwa [add_block] at this | exact this) GW265.out); have hn266_1 : ad264.block ≠ gb265 := Nat.ne_of_lt (Nat.lt_of_lt_of_le (by have := World.block_lt_of_cell? _ _ hx266_0; first | rwa [add_block] at this | exact this) GW265.out); replace hx266_0 := (HB.out.cell (World.block_lt_of_cell? w _ hx266_0)).trans hx266_0; replace hx266_1 := (HB.out.cell (World.block_lt_of_cell? w _ hx266_1)).trans hx266_1; replace hx266_0 := (cell_far (p := ⟨gb265, 0, none⟩) (by first | (rw [add_block]; exact hn266_0) | (show (Addr.add _ _).block ≠ _; rw [add_block]; exact hn266_0) | exact hn266_0) (.int .i64 ((rd_T34 l0 x4_1).f0))).trans hx266_0; replace hx266_1 := (cell_far (p := ⟨gb265, 0, none⟩) (by first | (rw [add_block]; exact hn266_0) | (show (Addr.add _ _).block ≠ _; rw [add_block]; exact hn266_0) | exact hn266_0) (.int .i64 ((rd_T34 l0 x4_1).f0))).trans hx266_1; replace hx266_0 := (cell_far (p := ⟨gb265, 1, none⟩) (by first | (rw [add_block]; exact hn266_1) | (show (Addr.add _ _).block ≠ _; rw [add_block]; exact hn266_1) | exact hn266_1) (.int .i64 ((rd_T34 l0 x4_1).f1))).trans hx266_0; replace hx266_1 := (cell_far (p := ⟨gb265, 1, none⟩) (by first | (rw [add_block]; exact hn266_1) | (show (Addr.add _ _).block ≠ _; rw [add_block]; exact hn266_1) | exact hn266_1) (.int .i64 ((rd_T34 l0 x4_1).f1))).trans hx266_1; clear hn266_0; clear hn266_1; replace p266 := eq_true p266; replace q266 := eq_true q266) | ((with_reducible refine gate_dst (N := 6) rfl ?_); refine box_event ?hg (N := 6) ?hd (cs := #[.int .i64 0, .int .i64 0]) (t := 34) ?hr ?_; (case hd => rfl); (case hg => rfl); (case hr => first | (go_simp; done) | (go_simp; rfl)); intro gb267 hg w10 hbox hb; have n0_ := Aside0.mk (blk_below (g := gb265) (o := .cells #[.int .i64 ((rd_T34 l0 x4_1).f0), .int .i64 ((rd_T34 l0 x4_1).f1)] 34 (0, 0)) (by (with_reducible repeat (first | refine blk_drewN ?_ _ | refine blk_drew ?_ | refine blk_alloc ?_ _)); refine blk_put (cs := #[.int .i64 ((rd_T34 l0 x4_1).f0), .int .i64 0]) ?_ 1 _ rfl; (with_reducible repeat (first | refine blk_drewN ?_ _ | refine blk_drew ?_ | refine blk_alloc ?_ _)); refine blk_put (cs := #[.int .i64 0, .int .i64 0]) ?_ 0 _ rfl; (with_reducible repeat (first | refine blk_drewN ?_ _ | refine blk_drew ?_ | refine blk_alloc ?_ _)); exact BK265.out) hb); have n1_ := Aside0.mk (below_step (by repeat (first | (with_reducible first | exact HB.out | apply below_alloc | apply pw_below_drewN | apply below_drew1 | refine below_set ?_ GE265.out) | exact HB.out)) hb); have n2_ := Aside0.mk (hbox); have n3_ := Aside0.mk ((by rw [hg]; exact (below_size (by repeat (first | (with_reducible first | exact HB.out | apply below_alloc | apply pw_below_drewN | apply below_drew1 | refine below_set ?_ GE265.out) | exact HB.out))) : w.heap.size ≤ gb267)); have n4_ := Aside0.mk ((by rw [hg]; exact (below_size (by repeat (first | (with_reducible first | exact HB.out | apply below_alloc | apply pw_below_drewN | apply below_drew1 | refine below_set ?_ GE265.out) | exact HB.out))) : w.heap.size ≤ gb267)); have n5_ := Aside0.mk ((by rw [hg]; exact Nat.ne_of_lt (blk_lt (g := gb265) (o := .cells #[.int .i64 ((rd_T34 l0 x4_1).f0), .int .i64 ((rd_T34 l0 x4_1).f1)] 34 (0, 0)) (by (with_reducible repeat (first | refine blk_drewN ?_ _ | refine blk_drew ?_ | refine blk_alloc ?_ _)); refine blk_put (cs := #[.int .i64 ((rd_T34 l0 x4_1).f0), .int .i64 0]) ?_ 1 _ rfl; (with_reducible repeat (first | refine blk_drewN ?_ _ | refine blk_drew ?_ | refine blk_alloc ?_ _)); refine blk_put (cs := #[.int .i64 0, .int .i64 0]) ?_ 0 _ rfl; (with_reducible repeat (first | refine blk_drewN ?_ _ | refine blk_drew ?_ | refine blk_alloc ?_ _)); exact BK265.out)) : gb265 ≠ gb267)); have n6_ := Aside0.mk ((by rw [hg]; exact Nat.ne_of_gt (blk_lt (g := gb265) (o := .cells #[.int .i64 ((rd_T34 l0 x4_1).f0), .int .i64 ((rd_T34 l0 x4_1).f1)] 34 (0, 0)) (by (with_reducible repeat (first | refine blk_drewN ?_ _ | refine blk_drew ?_ | refine blk_alloc ?_ _)); refine blk_put (cs := #[.int .i64 ((rd_T34 l0 x4_1).f0), .int .i64 0]) ?_ 1 _ rfl; (with_reducible repeat (first | refine blk_drewN ?_ _ | refine blk_drew ?_ | refine blk_alloc ?_ _)); refine blk_put (cs := #[.int .i64 0, .int .i64 0]) ?_ 0 _ rfl; (with_reducible repeat (first | refine blk_drewN ?_ _ | refine blk_drew ?_ | refine blk_alloc ?_ _)); exact BK265.out)) : gb267 ≠ gb265)); clear BK265; clear HB; have BK265 := n0_; have HB := n1_; have BK267 := n2_; have GW267 := n3_; have GE267 := n4_; have NB265_267 := n5_; have NB267_265 := n6_; clear n0_ n1_ n2_ n3_ n4_ n5_ n6_; clear hb hbox hg; have hnb11 := NB267_265.out; have hnc11 := NB265_267.out; have hcz12_0 : w10.cell? ⟨gb267, 0, none⟩ = some (.int .i64 0) := (blk_cell BK267.out 0).trans rfl; have hcz12_1 : w10.cell? ⟨gb267, 1, none⟩ = some (.int .i64 0) := (blk_cell BK267.out 1).trans rfl; have hfz12_0 := blk_frozen BK267.out 0; have hfz12_1 := blk_frozen BK267.out 1; have hcz13_0 : w10.cell? ⟨gb265, 0, none⟩ = some (.int .i64 ((rd_T34 l0 x4_1).f0)) := (blk_cell BK265.out 0).trans rfl; have hcz13_1 : w10.cell? ⟨gb265, 1, none⟩ = some (.int .i64 ((rd_T34 l0 x4_1).f1)) := (blk_cell BK265.out 1).trans rfl; have hfz13_0 := blk_frozen BK265.out 0; have hfz13_1 := blk_frozen BK265.out 1))
        go_roundg k1
        case measure => have := HK1.out; omega
        case rel => exact ⟨(wrap64 (x3_1 + (wrap64 ((wrap64 (((rd_T34 l0 x4_1).f0) * ((rd_T34 l0 (ji5)).f1))) - (wrap64 (((rd_T34 l0 x4_1).f1) * ((rd_T34 l0 (ji5)).f0))))))), (wrap64 (x4_1 + 1)), (by first | rfl | (simp; done) | (simp only [← hji5] <;> (first | rfl | simp)) | (simp [*]; done)), (by first | rfl | (simp; done) | (simp [*]; done)), H', ⟨by have := HK1.out; omega⟩, ⟨by repeat (first | (with_reducible first | exact HB.out | apply below_alloc | apply pw_below_drewN | apply below_drew1 | refine below_set ?_ GE265.out | refine below_set ?_ GE267.out) | exact HB.out)⟩⟩
       ·rw [if_neg c7] at H
        exact absurd H (by simp)
      ·rw [if_neg c6] at H
       exact absurd H (by simp)
    ·rw [if_neg c3] at H
     exact absurd H (by simp)
   ·rw [if_neg c2] at H
    have c2b0 : decide (x4_1 < (l0.length : Int)) = false := decide_eq_false c2
    clear c2
    obtain rfl := Option.some.inj H
    go_wp2
    go_ret
    exact ⟨by first | rfl | (simp [errW_none, errW_some] <;> rfl) | (simp [*, errW_none, errW_some] <;> rfl), by repeat (first | (with_reducible first | exact HB.out | apply below_alloc | apply pw_below_drewN | apply below_drew1) | exact HB.out)⟩
def spec_Area2.f (k : Nat) (l0 : List (S34)) : Option (Int × Int) := if (l0.length : Int) > 4096 then (some (0, 2)) else ((spec_l03Polygon.f k l0).bind fun t268 => (if t268 = true then ((spec_l03Area2.f k l0).bind fun t269 => (some (t269, 0))) else (some (0, 1))))
theorem spec_Area2.mono : ∀ a0 k, LeO (spec_Area2.f k a0) (spec_Area2.f (k + 1) a0) := by
 intro a0 k
 unfold spec_Area2.f
 repeat' first
  | (with_reducible exact spec_l03Area2.mono _ _)
  | (with_reducible exact spec_l03Polygon.mono _ _)
  | (with_reducible exact LeO.refl _)
  | (with_reducible exact LeO.none _)
  | (with_reducible refine LeO.ite ?_ ?_)
  | (with_reducible refine LeO.bind ?_ (fun _ => ?_))
  | exact spec_l03Area2.mono _ _
  | exact spec_l03Polygon.mono _ _
  | exact LeO.none _
  | refine LeO.ite ?_ ?_
  | refine LeO.bind ?_ (fun _ => ?_)
set_option maxHeartbeats 8000000 in
set_option maxRecDepth 100000 in
theorem spec_Area2.calls (k : Nat) (A0 : Option Addr) (c0 : Nat) (l0 : List (S34)) (r1 : Int) (r2 : Int) (w : World) (hr0 : Kd.C k34 w A0 l0.length l0) (hc0 : l0.length ≤ c0) (h : spec_Area2.f k l0 = some (r1, r2)) :
 Calls Try.prog 37 #[.slice A0 l0.length c0] w fun e w' => e = .returned (.tuple #[.int .i64 r1, .int .i64 r2]) ∧ Below w.heap.size w w' := by
 have HR0 := Aside0.mk hr0
 have HC0 := Aside0.mk hc0
 clear hr0 hc0
 have HB := Aside0.mk (Below.refl w.heap.size w)
 have H : (if (l0.length : Int) > 4096 then (some (0, 2)) else ((spec_l03Polygon.f k l0).bind fun t268 => (if t268 = true then ((spec_l03Area2.f k l0).bind fun t269 => (some (t269, 0))) else (some (0, 1))))) = some (r1, r2) := h
 clear h
 by_cases c2 : (l0.length : Int) > 4096
 ·rw [if_pos c2] at H
  have c2b0 : decide (4096 < (l0.length : Int)) = true := decide_eq_true c2
  have c2b1 : decide (4096 < l0.length) = true := decide_eq_true (by omega)
  clear c2
  simp only [Option.some.injEq, Prod.mk.injEq] at H
  obtain ⟨rfl, rfl⟩ := H
  go_enter Try.func37, Try.ntmps37
  go_wp2
  go_ret2
  exact ⟨by first | rfl | (simp [errW_none, errW_some] <;> rfl) | (simp [*, errW_none, errW_some] <;> rfl), by repeat (first | (with_reducible first | exact HB.out | apply below_alloc | apply pw_below_drewN | apply below_drew1) | exact HB.out)⟩
 ·rw [if_neg c2] at H
  have c2b0 : decide (4096 < (l0.length : Int)) = false := decide_eq_false c2
  have c2b1 : decide (4096 < l0.length) = false := decide_eq_false (by omega)
  clear c2
  replace H := Option.bind_eq_some_iff.mp H
  obtain ⟨t268, A30, H⟩ := H
  replace H : (if t268 = true then ((spec_l03Area2.f k l0).bind fun t269 => (some (t269, 0))) else (some (0, 1))) = some (r1, r2) := H
  have A3 := Aside0.mk A30
  clear A30
  by_cases c4 : t268 = true
  ·subst c4
   have H1 : ((spec_l03Area2.f k l0).bind fun t269 => (some (t269, 0))) = some (r1, r2) := by rw [if_pos rfl] at H; exact H
   clear H
   have H := H1
   clear H1
   replace H := Option.bind_eq_some_iff.mp H
   obtain ⟨t269, A50, H⟩ := H
   replace H : (some (t269, 0)) = some (r1, r2) := H
   have A5 := Aside0.mk A50
   clear A50
   simp only [Option.some.injEq, Prod.mk.injEq] at H
   obtain ⟨rfl, rfl⟩ := H
   go_enter Try.func37, Try.ntmps37
   go_wp2_with (first | ((with_reducible refine gate_callee (f := 78) rfl ?_); refine goesL_ (some 8) rfl rfl Try.func78 (by kernel_rfl) rfl #[.slice A0 l0.length c0] rfl (by (try simp only [List.map_toArray, List.map_cons, List.map_nil]); first | done | rfl | (simp only [List.length_drop, List.length_take]; rfl)) ?_; (with_reducible refine (spec_l03Polygon.calls k _ _ l0 true _ ?side1 ?side2 A3.out).mono ?_); (case side1 => repeat (first | exact HR0.out | (with_reducible refine Kd.C_alloc ?_ _) | (with_reducible refine Kd.C_drewN ?_ _) | (with_reducible refine Kd.C_drew ?_))); (case side2 => exact HC0.out); rintro e w6 ⟨rfl, hb⟩; refine ⟨_, rfl, ?_⟩; have n0_ := Aside0.mk (below_step (by repeat (first | (with_reducible first | exact HB.out | apply below_alloc | apply pw_below_drewN | apply below_drew1) | exact HB.out)) hb); clear HB; have HB := n0_; clear n0_; (try clear hb); (try clear hb2); (try clear hk); (try clear hi)) | ((with_reducible refine gate_callee (f := 79) rfl ?_); refine goesL_ (some 11) rfl rfl Try.func79 (by kernel_rfl) rfl #[.slice A0 l0.length c0] rfl (by (try simp only [List.map_toArray, List.map_cons, List.map_nil]); first | done | rfl | (simp only [List.length_drop, List.length_take]; rfl)) ?_; (with_reducible refine (spec_l03Area2.calls k _ _ l0 t269 _ ?side1 ?side2 A5.out).mono ?_); (case side1 => repeat (first | exact (Kd.C_below HR0.out HB.out) | (with_reducible refine Kd.C_alloc ?_ _) | (with_reducible refine Kd.C_drewN ?_ _) | (with_reducible refine Kd.C_drew ?_))); (case side2 => exact HC0.out); rintro e w7 ⟨rfl, hb⟩; refine ⟨_, rfl, ?_⟩; have n0_ := Aside0.mk (below_step (by repeat (first | (with_reducible first | exact HB.out | apply below_alloc | apply pw_below_drewN | apply below_drew1) | exact HB.out)) hb); clear HB; have HB := n0_; clear n0_; (try clear hb); (try clear hb2); (try clear hk); (try clear hi)))
   go_ret2
   exact ⟨by first | rfl | (simp [errW_none, errW_some] <;> rfl) | (simp [*, errW_none, errW_some] <;> rfl), by repeat (first | (with_reducible first | exact HB.out | apply below_alloc | apply pw_below_drewN | apply below_drew1) | exact HB.out)⟩
  ·replace c4 := Bool.eq_false_iff.mpr c4
   subst c4
   have H1 : (some (0, 1)) = some (r1, r2) := by rw [if_neg (show ¬ (false = true) by decide)] at H; exact H
   clear H
   have H := H1
   clear H1
   simp only [Option.some.injEq, Prod.mk.injEq] at H
   obtain ⟨rfl, rfl⟩ := H
   go_enter Try.func37, Try.ntmps37
   go_wp2_with (first | ((with_reducible refine gate_callee (f := 78) rfl ?_); refine goesL_ (some 8) rfl rfl Try.func78 (by kernel_rfl) rfl #[.slice A0 l0.length c0] rfl (by (try simp only [List.map_toArray, List.map_cons, List.map_nil]); first | done | rfl | (simp only [List.length_drop, List.length_take]; rfl)) ?_; (with_reducible refine (spec_l03Polygon.calls k _ _ l0 false _ ?side1 ?side2 A3.out).mono ?_); (case side1 => repeat (first | exact HR0.out | (with_reducible refine Kd.C_alloc ?_ _) | (with_reducible refine Kd.C_drewN ?_ _) | (with_reducible refine Kd.C_drew ?_))); (case side2 => exact HC0.out); rintro e w8 ⟨rfl, hb⟩; refine ⟨_, rfl, ?_⟩; have n0_ := Aside0.mk (below_step (by repeat (first | (with_reducible first | exact HB.out | apply below_alloc | apply pw_below_drewN | apply below_drew1) | exact HB.out)) hb); clear HB; have HB := n0_; clear n0_; (try clear hb); (try clear hb2); (try clear hk); (try clear hi)))
   go_ret2
   exact ⟨by first | rfl | (simp [errW_none, errW_some] <;> rfl) | (simp [*, errW_none, errW_some] <;> rfl), by repeat (first | (with_reducible first | exact HB.out | apply below_alloc | apply pw_below_drewN | apply below_drew1) | exact HB.out)⟩
end Go.Proofs.Ytgnhcdchpeeoaaa.PG

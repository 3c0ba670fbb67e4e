/- A part of the proof that the law FnExactFlat answers true at every input. No conditions. -/
import Derived.Test.YtgnhcdchpeeoaaaQWPureBentW
import Derived.Test.YtgnhcdchpeeoaaaQWW14
set_option linter.unusedVariables false
namespace Go.Proofs.Ytgnhcdchpeeoaaa.PW
open Go.RowKit Go.Proofs.YtgnhcdchpeeoaaaW.PrintWords Go.Proofs.YtgnhcdchpeeoaaaW.PrintLast Go.Proofs.YtgnhcdchpeeoaaaW.PrintMore Plane
def qS (p : Int × Int) : S49 := ⟨p.1, p.2⟩
def pt (l : List (Int × Int)) (i : Nat) : Int × Int := l.getD i (0, 0)
theorem rdPt (l : List (Int × Int)) (i : Nat) (h : i < l.length) : rd_T34 (l.map pS) (i : Int) = pS (pt l i) := by
  unfold rd_T34 pt; rw [Int.toNat_natCast, List.getD_eq_getElem?_getD, List.getElem?_map, List.getElem?_eq_getElem h]; simp [List.getElem?_eq_getElem h]
theorem rdQt (l : List (Int × Int)) (i : Nat) (h : i < l.length) : rd_T49 (l.map qS) (i : Int) = qS (pt l i) := by
  unfold rd_T49 pt; rw [Int.toNat_natCast, List.getD_eq_getElem?_getD, List.getElem?_map, List.getElem?_eq_getElem h]; simp [List.getElem?_eq_getElem h]
theorem rowOf {W : World} {A : Option Addr} {l : List (Int × Int)} (h : ReadsRow (fun (x : Int × Int) cs => cs = [.int .i64 x.1, .int .i64 x.2]) 2 W A l.length l) : Kd.C k49 W A (l.map qS).length (l.map qS) := by
  rw [List.length_map]
  refine ⟨List.length_map _, h.2.1, fun hn => ?_⟩
  obtain ⟨ad, e, hc⟩ := h.2.2 hn
  refine ⟨ad, e, fun j p hp => ?_⟩
  rw [List.getElem?_map, Option.map_eq_some_iff] at hp
  obtain ⟨q, hq, rfl⟩ := hp
  obtain ⟨c, h1, rfl, h3⟩ := hc j q hq
  exact ⟨_, h1, k49_mk W (qS q), h3⟩
theorem toPoint_f (a b : Int) : laws_toPoint.f a b = some (a, b) := rfl
theorem toPointS_l0 (l : List (Int × Int)) (hl : l.length ≤ 17592186044416) : ∀ (m i : Nat) (x3 : List S34), x3.length = l.length → m = l.length - i → i ≤ l.length → x3.take i = (l.map pS).take i →
    Ev (fun k => laws_toPointS.l0 k (l.map qS) x3 (i : Int)) (l.map pS)
  | 0, i, x3, h3, hm, hi, ht => by
    refine Ev.step (fun k => by rw [laws_toPointS.l0]) (ev_ifF (by rw [List.length_map]; omega) ?_)
    have e : i = l.length := by omega
    have e2 : (l.map pS).length = l.length := List.length_map _
    rw [e, ← h3, List.take_length, h3, ← e2, List.take_length] at ht
    rw [ht]; exact Ev.now _
  | m + 1, i, x3, h3, hm, hi, ht => by
    refine Ev.step (fun k => by rw [laws_toPointS.l0]) (ev_ifT (by rw [List.length_map]; omega) (ev_ifT (by omega) (ev_bindS (toPoint_f _ _) ?_)))
    refine ev_ifT (by omega) ?_
    rw [succ64 (by omega), Int.toNat_natCast, rdQt l i (by omega)]
    refine toPointS_l0 l hl m (i + 1) _ (by simp [h3]) (by omega) (by omega) ?_
    rw [List.take_add_one, List.take_add_one, List.take_set_of_le (Nat.le_refl i), ht]
    congr 1
    rw [List.getElem?_set_self (by omega), List.getElem?_map, List.getElem?_eq_getElem (show i < l.length by omega)]
    unfold pt qS pS; simp [List.getElem?_eq_getElem (show i < l.length by omega)]
theorem toPointS (l : List (Int × Int)) (h : l.length ≤ 17592186044416) : Ev (fun k => laws_toPointS.f k (l.map qS)) (l.map pS) := by
  unfold laws_toPointS.f
  refine ev_ifT (by omega) (ev_ifT (by rw [List.length_map]; omega) ?_)
  exact toPointS_l0 l h l.length 0 _ (by simp) (by omega) (by omega) (by simp)
theorem szPointS (l : List (Int × Int)) (h : l.length ≤ 9223372036854775807) : laws_szPointS.f (l.map qS) 1048576 = if 1048576 < l.length then some (-1) else some (1048576 - (l.length : Int)) := by
  unfold laws_szPointS.f
  rw [List.length_map, pw64 (by omega) (by omega)]
  by_cases h1 : 1048576 < l.length
  · rw [if_pos (by omega), if_pos h1]
  · rw [if_neg (by omega), if_neg h1]
theorem eqPoint_f (x : S34) : laws_eqPoint.f x.f0 x.f1 x.f0 x.f1 = some true := by simp [laws_eqPoint.f]
theorem eqPointS_l0 (x : List S34) (hl : x.length ≤ 35184372088832) : ∀ (m i : Nat), m = x.length - i → Ev (fun k => laws_eqPointS.l0 k x x (i : Int)) true
  | 0, i, hm => Ev.step (fun k => by rw [laws_eqPointS.l0]) (ev_ifF (by omega) (Ev.now _))
  | m + 1, i, hm => by
    refine Ev.step (fun k => by rw [laws_eqPointS.l0]) (ev_ifT (by omega) (ev_ifT (by omega) (ev_ifT (by omega) (ev_bindS (eqPoint_f _) (ev_ifT rfl ?_)))))
    rw [succ64 (by omega)]
    exact eqPointS_l0 x hl m (i + 1) (by omega)
theorem eqPointS (x : List S34) (hl : x.length ≤ 35184372088832) : Ev (fun k => laws_eqPointS.f k x x) true := by
  unfold laws_eqPointS.f; exact ev_ifT rfl (eqPointS_l0 x hl x.length 0 (by omega))
theorem markPointS_l0 : ∀ (m i : Nat) (x : List S34) (a : Int), m = x.length - i → i ≤ x.length → x.length ≤ 35184372088832 → 0 ≤ a → a + 2 * m ≤ 1000000000000000000 →
    ∃ l', Ev (fun k => laws_markPointS.l0 k x a (i : Int)) (a + 2 * m, l')
  | 0, i, x, a, hm, hi, hl, h0, h1 => ⟨x, Ev.step (fun k => by rw [laws_markPointS.l0]) (ev_ifF (by omega) (by rw [show a + 2 * ((0 : Nat) : Int) = a by omega]; exact Ev.now _))⟩
  | m + 1, i, x, a, hm, hi, hl, h0, h1 => by
    have e : (x.set i ⟨a, (rd_T34 x i).f1⟩).set i ⟨(rd_T34 (x.set i ⟨a, (rd_T34 x i).f1⟩) i).f0, a + 1⟩ = x.set i ⟨a, a + 1⟩ := by
      rw [List.set_set, rdT_get _ i (by simp; omega)]; simp
    obtain ⟨l', h⟩ := markPointS_l0 m (i + 1) (x.set i ⟨a, a + 1⟩) (a + 2) (by simp; omega) (by simp; omega) (by simp; omega) (by omega) (by omega)
    refine ⟨l', Ev.step (fun k => by rw [laws_markPointS.l0]) (ev_ifT (by omega) (ev_ifT (by omega) (ev_bindS rfl ?_)))⟩
    simp only [Int.toNat_natCast]
    rw [succ64 (by omega), pw64 (x := a + 1) (by omega) (by omega), pw64 (x := a + 1 + 1) (by omega) (by omega), e, show a + 1 + 1 = a + 2 by omega]
    rw [show a + 2 * ((m + 1 : Nat) : Int) = a + 2 + 2 * m by omega]; exact h
theorem markPointS (x : List S34) (a : Int) (hl : x.length ≤ 35184372088832) (h0 : 0 ≤ a) (h1 : a ≤ 100000000000000000) : ∃ l', Ev (fun k => laws_markPointS.f k x a) (a + 2 * x.length, l') :=
  markPointS_l0 x.length 0 x a (by omega) (by omega) hl h0 (by omega)
theorem eqIntS_l0 (x : List Int) (hl : x.length ≤ 35184372088832) : ∀ (m i : Nat), m = x.length - i → Ev (fun k => laws_eqIntS.l0 k x x (i : Int)) true
  | 0, i, hm => Ev.step (fun k => by rw [laws_eqIntS.l0]) (ev_ifF (by omega) (Ev.now _))
  | m + 1, i, hm => by
    refine Ev.step (fun k => by rw [laws_eqIntS.l0]) (ev_ifT (by omega) (ev_ifT (by omega) (ev_ifT (by omega) (ev_ifT rfl ?_))))
    rw [succ64 (by omega)]
    exact eqIntS_l0 x hl m (i + 1) (by omega)
theorem eqIntS (x : List Int) (hl : x.length ≤ 35184372088832) : Ev (fun k => laws_eqIntS.f k x x) true := by
  unfold laws_eqIntS.f; exact ev_ifT rfl (eqIntS_l0 x hl x.length 0 (by omega))
def ints (a : Int) : Nat → List Int
  | 0 => []
  | m + 1 => a :: ints (a + 1) m
theorem ints_len (a : Int) (m : Nat) : (ints a m).length = m := by
  induction m generalizing a with
  | zero => rfl
  | succ m ih => simp [ints, ih]
theorem markIntS_l0 : ∀ (m i : Nat) (x : List Int) (a : Int), m = x.length - i → i ≤ x.length → x.length ≤ 35184372088832 → 0 ≤ a → a + m ≤ 1000000000000000000 →
    Ev (fun k => laws_markIntS.l0 k x a (i : Int)) (a + m, x.take i ++ ints a m)
  | 0, i, x, a, hm, hi, hl, h0, h1 => Ev.step (fun k => by rw [laws_markIntS.l0]) (ev_ifF (by omega) (by
      rw [show a + ((0 : Nat) : Int) = a by omega, show i = x.length by omega]; simp only [ints, List.append_nil, List.take_length]; exact Ev.now _))
  | m + 1, i, x, a, hm, hi, hl, h0, h1 => by
    have h := markIntS_l0 m (i + 1) (x.set i a) (a + 1) (by simp; omega) (by simp; omega) (by simp; omega) (by omega) (by omega)
    refine Ev.step (fun k => by rw [laws_markIntS.l0]) (ev_ifT (by omega) (ev_ifT (by omega) ?_))
    rw [succ64 (by omega), Int.toNat_natCast, pw64 (x := a + 1) (by omega) (by omega)]
    have e2 : (x.set i a).take (i + 1) ++ ints (a + 1) m = x.take i ++ ints a (m + 1) := by
      rw [List.take_add_one, List.take_set_of_le (Nat.le_refl i), List.getElem?_set_self (by omega), List.append_assoc]; rfl
    rw [show a + ((m + 1 : Nat) : Int) = a + 1 + m by omega, ← e2]; exact h
theorem markIntS (x : List Int) (a : Int) (hl : x.length ≤ 35184372088832) (h0 : 0 ≤ a) (h1 : a ≤ 100000000000000000) : Ev (fun k => laws_markIntS.f k x a) (a + x.length, ints a x.length) :=
  markIntS_l0 x.length 0 x a (by omega) (by omega) hl h0 (by omega)
theorem heldIntS_l0 : ∀ (m : Nat) (p : List Int) (a : Int), p.length + m ≤ 35184372088832 → 0 ≤ a → a + m ≤ 1000000000000000000 →
    Ev (fun k => laws_heldIntS.l0 k (p ++ ints a m) a (p.length : Int)) (a + m)
  | 0, p, a, hl, h0, h1 => Ev.step (fun k => by rw [laws_heldIntS.l0]) (ev_ifF (by simp [ints]) (by rw [show a + ((0 : Nat) : Int) = a by omega]; exact Ev.now _))
  | m + 1, p, a, hl, h0, h1 => by
    have hr : rd (p ++ ints a (m + 1)) (p.length : Int) = a := by rw [rd_get _ _ (by simp [ints])]; simp [ints]
    refine Ev.step (fun k => by rw [laws_heldIntS.l0]) (ev_ifT (by rw [List.length_append, ints_len]; omega) (ev_ifT (by omega) (ev_ifT hr ?_)))
    rw [pw64 (x := a + 1) (by omega) (by omega), succ64 (by omega)]
    have h := heldIntS_l0 m (p ++ [a]) (a + 1) (by simp; omega) (by omega) (by omega)
    rw [List.append_assoc, List.length_append] at h
    rw [show a + ((m + 1 : Nat) : Int) = a + 1 + m by omega]; exact h
theorem heldIntS (a : Int) (m : Nat) (hl : m ≤ 35184372088832) (h0 : 0 ≤ a) (h1 : a ≤ 100000000000000000) : Ev (fun k => laws_heldIntS.f k (ints a m) a) (a + m) :=
  heldIntS_l0 m [] a (by simp; omega) h0 (by omega)
def sgnP (x : Int) : Int := if x > 0 then 1 else if x < 0 then -1 else 0
def absP (x : Int) : Int := if x < 0 then -x else x
def pan (l : List (Int × Int)) (i : Nat) : Int := absP ((pt l (i + 1)).1 - (pt l i).1) + absP ((pt l (i + 1)).2 - (pt l i).2)
def dirX (l : List (Int × Int)) (i : Nat) : Int := sgnP ((pt l (i + 1)).1 - (pt l i).1)
def dirY (l : List (Int × Int)) (i : Nat) : Int := sgnP ((pt l (i + 1)).2 - (pt l i).2)
def bend (l : List (Int × Int)) (i : Nat) : Int := dirX l i * dirY l (i + 1) - dirY l i * dirX l (i + 1)
def pans (l : List (Int × Int)) (i : Nat) : List Int := (List.range i).map (pan l)
def bends (l : List (Int × Int)) (i : Nat) : List Int := (List.range i).map (bend l)
theorem pans_len (l : List (Int × Int)) (i : Nat) : (pans l i).length = i := by simp [pans]
theorem bends_len (l : List (Int × Int)) (i : Nat) : (bends l i).length = i := by simp [bends]
theorem pans_succ (l : List (Int × Int)) (i : Nat) : pans l i ++ [pan l i] = pans l (i + 1) := by simp [pans, List.range_succ]
theorem bends_succ (l : List (Int × Int)) (i : Nat) : bends l i ++ [bend l i] = bends l (i + 1) := by simp [bends, List.range_succ]
def Good (l : List (Int × Int)) : Prop := (bentP (pans l (l.length - 1)) (bends l (l.length - 2))).2.1 = 0 ∧ (bentP (pans l (l.length - 1)) (bends l (l.length - 2))).1 = l.map pS
instance : DecidableEq S34 := fun a b => if h : a.f0 = b.f0 ∧ a.f1 = b.f1 then isTrue (by cases a; cases b; simp at h; rw [h.1, h.2]) else isFalse (fun e => h (by rw [e]; exact ⟨rfl, rfl⟩))
instance (l : List (Int × Int)) : Decidable (Good l) := by unfold Good; infer_instance
def err1 : List Int × List Int × Int := ([], [], 1)
def fin (l : List (Int × Int)) : List Int × List Int × Int := if Good l then (pans l (l.length - 1), bends l (l.length - 2), 0) else err1
def In5 (p : Int × Int) : Prop := (-50000 ≤ p.1 ∧ p.1 ≤ 50000) ∧ -50000 ≤ p.2 ∧ p.2 ≤ 50000
instance (p : Int × Int) : Decidable (In5 p) := by unfold In5; infer_instance
def Axis (l : List (Int × Int)) (i : Nat) : Prop := pan l i ≠ 0 ∧ ((pt l (i + 1)).1 - (pt l i).1 = 0 ∨ (pt l (i + 1)).2 - (pt l i).2 = 0)
instance (l : List (Int × Int)) (i : Nat) : Decidable (Axis l i) := by unfold Axis; infer_instance
theorem resB_zero (ps fs : List Int) : ∀ m i, (resB ps fs m i).2.1 = 0 → (resB ps fs m i).1 = road ps fs ps.length
  | 0, i, _ => rfl
  | m + 1, i, h => by
    rw [resB] at h ⊢
    by_cases c : anyBad ps fs i i 0 = true
    · rw [if_pos c] at h; simp at h
    · rw [if_neg c] at h ⊢; exact resB_zero ps fs m (i + 1) h
theorem good_is {l : List (Int × Int)} (hn : 2 ≤ l.length) (h : Good l) : (∀ i, i < l.length → In5 (pt l i)) ∧ ∀ i, i + 1 < l.length → Axis l i := by
  obtain ⟨h1, h2⟩ := h
  obtain ⟨ps, hps⟩ : ∃ ps, pans l (l.length - 1) = ps := ⟨_, rfl⟩
  obtain ⟨fs, hfs⟩ : ∃ fs, bends l (l.length - 2) = fs := ⟨_, rfl⟩
  have hpl : ps.length = l.length - 1 := by rw [← hps, pans_len]
  rw [hps, hfs] at h1 h2
  unfold bentP at h1 h2
  by_cases c1 : ps.length > 4096 ∨ fs.length > 4096
  · rw [if_pos c1] at h1; exact absurd h1 (by decide)
  rw [if_neg c1] at h1 h2
  by_cases c2 : okP ps = true ∧ fs.length + 1 = ps.length ∧ okF fs = true
  · rw [if_pos c2] at h1 h2
    have ok := ok_of c2
    rw [resB_zero ps fs _ _ h1] at h2
    have at' : ∀ i, i < l.length → pt l i = posAt ps fs i := fun i hi => by
      have e1 := rdPt l i hi
      rw [← h2, road_rd ps fs ps.length i (by omega)] at e1
      unfold pS at e1
      injection e1 with a b
      exact (Prod.ext a b).symm
    constructor
    · intro i hi
      have p := pos_in ok i (by omega)
      have := ok.l40
      rw [at' i hi]; unfold In5; omega
    · intro i hi
      have hu := dir_unit ok i (by omega)
      have hp := ok.pin _ (rd_mem ps i (by omega))
      have e0 := at' i (by omega)
      have e1 := at' (i + 1) hi
      have x1 : (posAt ps fs (i + 1)).1 - (posAt ps fs i).1 = (dirAt fs i).1 * rd ps i := by simp only [posAt]; omega
      have y1 : (posAt ps fs (i + 1)).2 - (posAt ps fs i).2 = (dirAt fs i).2 * rd ps i := by simp only [posAt]; omega
      unfold Axis pan
      rw [e0, e1, x1, y1]
      rcases hu with h | h | h | h <;> (rw [h.1, h.2]; unfold absP; constructor <;> (repeat' split) <;> omega)
  · rw [if_neg c2] at h1; exact absurd h1 (by decide)
def flI (l : List (Int × Int)) : Nat → Nat → List Int × List Int × Int
  | 0, _ => fin l
  | m + 1, i => if In5 (pt l i) ∧ In5 (pt l (i + 1)) then flI l m (i + 1) else err1
def flS (l : List (Int × Int)) : Nat → Nat → List Int × List Int × Int
  | 0, _ => fin l
  | m + 1, i => if Axis l i then flS l m (i + 1) else err1
theorem flI_fin {l : List (Int × Int)} (hn : 2 ≤ l.length) : ∀ m i, i + m + 1 = l.length → flI l m i = fin l
  | 0, _, _ => rfl
  | m + 1, i, h => by
    rw [flI]
    split
    · exact flI_fin hn m (i + 1) (by omega)
    · rename_i c
      unfold fin; rw [if_neg]
      intro g; have := (good_is hn g).1; exact c ⟨this i (by omega), this (i + 1) (by omega)⟩
theorem flS_fin {l : List (Int × Int)} (hn : 2 ≤ l.length) : ∀ m i, i + m + 1 = l.length → flS l m i = fin l
  | 0, _, _ => rfl
  | m + 1, i, h => by
    rw [flS]
    split
    · exact flS_fin hn m (i + 1) (by omega)
    · rename_i c
      unfold fin; rw [if_neg]
      intro g; exact c ((good_is hn g).2 i (by omega))
theorem dec_In5 (p : Int × Int) : decide (In5 p) = decide ((-50000 ≤ p.1 ∧ p.1 ≤ 50000) ∧ -50000 ≤ p.2 ∧ p.2 ≤ 50000) := decide_eq_decide.2 Iff.rfl
theorem in_f (p : Int × Int) : impl_Flat_1.f p.1 p.2 = some (decide (In5 p)) := by
  rw [dec_In5]; unfold impl_Flat_1.f
  split
  · split
    · split
      · congr 1; rw [decide_eq_decide]; omega
      · congr 1; symm; rw [decide_eq_false_iff_not]; omega
    · congr 1; symm; rw [decide_eq_false_iff_not]; omega
  · congr 1; symm; rw [decide_eq_false_iff_not]; omega
theorem isgn_f (x : Int) : impl_sign.f x = some (sgnP x) := by unfold impl_sign.f sgnP; split <;> (try split) <;> rfl
theorem iabs_f {x : Int} (h1 : -1000000 ≤ x) (h2 : x ≤ 1000000) : impl_abs.f x = some (absP x) := by
  unfold impl_abs.f mx absP; rw [pw64 (by omega) (by omega)]; congr 1; split <;> split <;> omega
theorem sabs_f {x : Int} (h1 : -1000000 ≤ x) (h2 : x ≤ 1000000) : spec_l01Abs.f x = some (absP x) := by
  unfold spec_l01Abs.f absP; split
  · rw [pw64 (by omega) (by omega)]
  · rfl
theorem sgn_bd (x : Int) : -1 ≤ sgnP x ∧ sgnP x ≤ 1 := by unfold sgnP; split <;> (try split) <;> omega
theorem dir_mul (a b : Int) (ha : -1 ≤ a ∧ a ≤ 1) (hb : -1 ≤ b ∧ b ≤ 1) : -1 ≤ a * b ∧ a * b ≤ 1 := pmul (A := 1) (B := 1) ha.1 ha.2 hb.1 hb.2
theorem bendW (l : List (Int × Int)) (i : Nat) : wrap64 (wrap64 (dirX l i * dirY l (i + 1)) - wrap64 (dirY l i * dirX l (i + 1))) = bend l i := by
  have a := dir_mul (dirX l i) (dirY l (i + 1)) (sgn_bd _) (sgn_bd _)
  have b := dir_mul (dirY l i) (dirX l (i + 1)) (sgn_bd _) (sgn_bd _)
  unfold bend
  rw [pw64 (x := dirX l i * dirY l (i + 1)) (by omega) (by omega), pw64 (x := dirY l i * dirX l (i + 1)) (by omega) (by omega), pw64 (by omega) (by omega)]
theorem drop_step {α : Type} (l : List α) (i : Nat) (h : i < l.length) : l.drop i = l[i] :: l.drop (i + 1) := List.drop_eq_getElem_cons h
theorem same_l1S (xs : List S34) (b1 b2 : List Int) (hl : xs.length ≤ 35184372088832) : ∀ (m i : Nat) (ys : List S34), ys.length = xs.length → m = ys.length - i → i ≤ ys.length → [] = ([] : List Int) →
    Ev (fun k => spec_Flat.l1 k xs [] b1 b2 ys (i : Int)) (if ys.drop i = xs.drop i then (b1, b2, 0) else err1)
  | 0, i, ys, he, hm, hi, _ => by
    refine Ev.step (fun k => by rw [spec_Flat.l1]) (ev_ifF (by omega) ?_)
    rw [if_pos (by rw [List.drop_eq_nil_of_le (by omega), List.drop_eq_nil_of_le (by omega)])]; exact Ev.now _
  | m + 1, i, ys, he, hm, hi, _ => by
    refine Ev.step (fun k => by rw [spec_Flat.l1]) (ev_ifT (by omega) (ev_ifT (by omega) (ev_ifT (by omega) ?_)))
    rw [rdT_get ys i (by omega), rdT_get xs i (by omega), succ64 (by omega), drop_step ys i (by omega), drop_step xs i (by omega)]
    have ih := same_l1S xs b1 b2 hl m (i + 1) ys he (by omega) (by omega) rfl
    by_cases c : ys[i]'(by omega) = xs[i]'(by omega)
    · refine ev_ifF (by rw [c]; simp) ?_
      rw [c]; simp only [List.cons.injEq, true_and]; exact ih
    · refine ev_ifT ?_ ?_
      · rw [Bool.or_eq_true, Bool.not_eq_true', Bool.not_eq_true', beq_eq_false_iff_ne, beq_eq_false_iff_ne]
        by_cases c0 : (ys[i]'(by omega)).f0 = (xs[i]'(by omega)).f0
        · right; intro c1; exact c (by cases hy : ys[i]'(by omega); cases hx : xs[i]'(by omega); rw [hy, hx] at c0 c1; simp at c0 c1; rw [c0, c1])
        · left; exact c0
      · rw [if_neg (fun h => c (List.cons.inj h).1)]; exact Ev.now _
theorem same_l1I (xs : List S34) (b1 b2 : List Int) (hl : xs.length ≤ 35184372088832) : ∀ (m i : Nat) (ys : List S34), ys.length = xs.length → m = ys.length - i → i ≤ ys.length →
    Ev (fun k => impl_Flat.l1 k xs b1 b2 ys (ys.length : Int) (i : Int)) (if ys.drop i = xs.drop i then (b1, b2, 0) else err1)
  | 0, i, ys, he, hm, hi => by
    refine Ev.step (fun k => by rw [impl_Flat.l1]) (ev_ifF (by omega) ?_)
    rw [if_pos (by rw [List.drop_eq_nil_of_le (by omega), List.drop_eq_nil_of_le (by omega)])]; exact Ev.now _
  | m + 1, i, ys, he, hm, hi => by
    refine Ev.step (fun k => by rw [impl_Flat.l1]) (ev_ifT (by omega) (ev_ifT (by omega) (ev_ifT (by omega) (ev_ifT (by omega) ?_))))
    rw [rdT_get ys i (by omega), rdT_get xs i (by omega), succ64 (by omega), drop_step ys i (by omega), drop_step xs i (by omega)]
    have ih := same_l1I xs b1 b2 hl m (i + 1) ys he (by omega) (by omega)
    by_cases c : ys[i]'(by omega) = xs[i]'(by omega)
    · refine ev_ifF (by rw [c]; simp) ?_
      rw [c]; simp only [List.cons.injEq, true_and]; exact ih
    · refine ev_ifT ?_ ?_
      · rw [Bool.or_eq_true, Bool.not_eq_true', Bool.not_eq_true', beq_eq_false_iff_ne, beq_eq_false_iff_ne]
        by_cases c0 : (ys[i]'(by omega)).f0 = (xs[i]'(by omega)).f0
        · right; intro c1; exact c (by cases hy : ys[i]'(by omega); cases hx : xs[i]'(by omega); rw [hy, hx] at c0 c1; simp at c0 c1; rw [c0, c1])
        · left; exact c0
      · rw [if_neg (fun h => c (List.cons.inj h).1)]; exact Ev.now _
theorem quo_sgn {u : Int} (h : u ≠ 0) : Int.tdiv u (absP u) = sgnP u := by
  unfold absP sgnP
  by_cases c : u < 0
  · rw [if_pos c, if_neg (by omega), if_pos c, Int.tdiv_neg, Int.tdiv_self h]
  · rw [if_neg c, if_pos (by omega), Int.tdiv_self h]
theorem fin_eq {l : List (Int × Int)} {b : List S34 × Int × Int} (h : bentP (pans l (l.length - 1)) (bends l (l.length - 2)) = b) : fin l = if b.2.1 = 0 ∧ b.1 = l.map pS then (pans l (l.length - 1), bends l (l.length - 2), 0) else err1 := by
  subst h; unfold fin
  by_cases g : Good l
  · rw [if_pos g, if_pos (show _ ∧ _ from g)]
  · rw [if_neg g, if_neg (show ¬ (_ ∧ _) from g)]
section
variable {l : List (Int × Int)} (hn : 2 ≤ l.length) (hn2 : l.length ≤ 41)
include hn hn2
theorem endS : Ev (fun k => (spec_Bent.f k (pans l (l.length - 1)) (bends l (l.length - 2))).bind fun bt289 => (if bt289.2.1 = 0 then (spec_Flat.j3 k (l.map pS) [] (pans l (l.length - 1)) (bends l (l.length - 2)) bt289.1 ((bt289.1.length : Int) != ((l.map pS).length : Int))) else (spec_Flat.j3 k (l.map pS) [] (pans l (l.length - 1)) (bends l (l.length - 2)) bt289.1 true))) (fin l) := by
  refine Ev.bind (specBent_f _ _ (by rw [pans_len]; omega) (by rw [bends_len]; omega)) ?_
  obtain ⟨b, hb⟩ : ∃ b, bentP (pans l (l.length - 1)) (bends l (l.length - 2)) = b := ⟨_, rfl⟩
  rw [fin_eq hb, hb]
  by_cases c : b.2.1 = 0
  · refine ev_ifT c (Ev.step (fun k => by rw [spec_Flat.j3]) ?_)
    by_cases c2 : b.1.length = (l.map pS).length
    · refine ev_ifF (by rw [c2]; simp) ?_
      have h := same_l1S (l.map pS) (pans l (l.length - 1)) (bends l (l.length - 2)) (by rw [List.length_map]; omega) b.1.length 0 b.1 c2 (by omega) (by omega) rfl
      rw [List.drop_zero, List.drop_zero] at h
      by_cases c3 : b.1 = l.map pS
      · rw [if_pos c3] at h; rw [if_pos ⟨c, c3⟩]; exact h
      · rw [if_neg c3] at h; rw [if_neg (fun h' => c3 h'.2)]; exact h
    · refine ev_ifT (bne_iff_ne.2 (by omega)) ?_
      rw [if_neg (fun h' => c2 (by rw [h'.2]))]; exact Ev.now _
  · refine ev_ifF c (Ev.step (fun k => by rw [spec_Flat.j3]) (ev_ifT rfl ?_))
    rw [if_neg (fun h' => c h'.1)]; exact Ev.now _
theorem endI : Ev (fun k => (impl_Bent.f k (pans l (l.length - 1)) (bends l (l.length - 2))).bind fun bt365 => (if bt365.2.1 = 0 then (impl_Flat.j3 k (l.map pS) (pans l (l.length - 1)) (bends l (l.length - 2)) bt365.1 ((bt365.1.length : Int) != (l.length : Int))) else (impl_Flat.j3 k (l.map pS) (pans l (l.length - 1)) (bends l (l.length - 2)) bt365.1 true))) (fin l) := by
  refine Ev.bind (implBent_f _ _ (by rw [pans_len]; omega) (by rw [bends_len]; omega)) ?_
  obtain ⟨b, hb⟩ : ∃ b, bentP (pans l (l.length - 1)) (bends l (l.length - 2)) = b := ⟨_, rfl⟩
  rw [fin_eq hb, hb]
  by_cases c : b.2.1 = 0
  · refine ev_ifT c (Ev.step (fun k => by rw [impl_Flat.j3]) ?_)
    by_cases c2 : b.1.length = l.length
    · refine ev_ifF (by rw [c2]; simp) ?_
      have h := same_l1I (l.map pS) (pans l (l.length - 1)) (bends l (l.length - 2)) (by rw [List.length_map]; omega) b.1.length 0 b.1 (by rw [List.length_map]; exact c2) (by omega) (by omega)
      rw [List.drop_zero, List.drop_zero] at h
      by_cases c3 : b.1 = l.map pS
      · rw [if_pos c3] at h; rw [if_pos ⟨c, c3⟩]; exact h
      · rw [if_neg c3] at h; rw [if_neg (fun h' => c3 h'.2)]; exact h
    · refine ev_ifT (bne_iff_ne.2 (by omega)) ?_
      rw [if_neg (fun h' => c2 (by rw [h'.2, List.length_map]))]; exact Ev.now _
  · refine ev_ifF c (Ev.step (fun k => by rw [impl_Flat.j3]) (ev_ifT rfl ?_))
    rw [if_neg (fun h' => c h'.1)]; exact Ev.now _
theorem walkI : ∀ (m i : Nat) (d0 d1 : Int), i + m + 1 = l.length → (0 < i → d0 = dirX l (i - 1) ∧ d1 = dirY l (i - 1)) →
    Ev (fun k => impl_Flat.l0 k (l.map pS) (l.length : Int) (pans l i) (bends l (i - 1)) (i : Int) d0 d1) (flI l m i)
  | 0, i, d0, d1, h, hd => by
    refine Ev.step (fun k => by rw [impl_Flat.l0]) ?_
    rw [succ64 (by omega)]
    refine ev_ifF (by omega) ?_
    rw [show i = l.length - 1 by omega, show l.length - 1 - 1 = l.length - 2 by omega]
    exact endI hn hn2
  | m + 1, i, d0, d1, h, hd => by
    refine Ev.step (fun k => by rw [impl_Flat.l0]) ?_
    rw [succ64 (by omega), List.length_map, rdPt l i (by omega), rdPt l (i + 1) (by omega)]
    refine ev_ifT (by omega) (ev_ifT (by omega) (ev_ifT (by omega) (ev_ifT (by omega) (ev_ifT (by omega) (ev_bindS (in_f (pt l i)) ?_)))))
    rw [flI]
    by_cases c1 : In5 (pt l i)
    · refine ev_ifT (decide_eq_true c1) (ev_bindS (in_f (pt l (i + 1))) ?_)
      refine Ev.step (fun k => by rw [impl_Flat.j2]) ?_
      by_cases c2 : In5 (pt l (i + 1))
      · rw [if_pos ⟨c1, c2⟩]
        refine ev_ifF (by rw [decide_eq_true c2]; decide) ?_
        have b1 := c1; have b2 := c2
        unfold In5 at b1 b2
        have e1 : wrap64 ((pS (pt l (i + 1))).f0 - (pS (pt l i)).f0) = (pt l (i + 1)).1 - (pt l i).1 := pw64 (by unfold pS; dsimp only; omega) (by unfold pS; dsimp only; omega)
        have e2 : wrap64 ((pS (pt l (i + 1))).f1 - (pS (pt l i)).f1) = (pt l (i + 1)).2 - (pt l i).2 := pw64 (by unfold pS; dsimp only; omega) (by unfold pS; dsimp only; omega)
        rw [e1, e2]
        refine ev_bindS (isgn_f _) (ev_bindS (isgn_f _) (ev_bindS (iabs_f (by omega) (by omega)) (ev_bindS (iabs_f (by omega) (by omega)) ?_)))
        have e3 : wrap64 (absP ((pt l (i + 1)).1 - (pt l i).1) + absP ((pt l (i + 1)).2 - (pt l i).2)) = pan l i := pw64 (by unfold absP; split <;> split <;> omega) (by unfold absP; split <;> split <;> omega)
        rw [e3, pans_succ, pans_len, bends_len, succ64 (by omega)]
        refine ev_ifT (by omega) (ev_bindS rfl ?_)
        by_cases h0 : 0 < i
        · refine ev_ifT (by omega) (ev_ifT (by omega) ?_)
          obtain ⟨rfl, rfl⟩ := hd h0
          have e4 := bendW l (i - 1)
          rw [show i - 1 + 1 = i by omega] at e4
          have e5 : wrap64 (wrap64 (dirX l (i - 1) * sgnP ((pt l (i + 1)).2 - (pt l i).2)) - wrap64 (dirY l (i - 1) * sgnP ((pt l (i + 1)).1 - (pt l i).1))) = bend l (i - 1) := e4
          rw [e5, bends_succ, show i - 1 + 1 = i + 1 - 1 by omega]
          exact walkI m (i + 1) _ _ (by omega) (fun _ => ⟨rfl, rfl⟩)
        · refine ev_ifF (by omega) ?_
          rw [show bends l (i - 1) = bends l (i + 1 - 1) by rw [show i - 1 = i + 1 - 1 by omega]]
          exact walkI m (i + 1) _ _ (by omega) (fun _ => ⟨rfl, rfl⟩)
      · rw [if_neg (fun h' => c2 h'.2)]
        exact ev_ifT (by rw [decide_eq_false c2]; rfl) (Ev.now _)
    · rw [if_neg (fun h' => c1 h'.1)]
      refine ev_ifF (by rw [decide_eq_true_eq]; exact c1) ?_
      refine Ev.step (fun k => by rw [impl_Flat.j2]) ?_
      exact ev_ifT rfl (Ev.now _)
theorem walkS (hin : ∀ i, i < l.length → InP (pt l i)) : ∀ (m i : Nat) (d0 d1 : Int), i + m + 1 = l.length → (0 < i → d0 = dirX l (i - 1) ∧ d1 = dirY l (i - 1)) →
    Ev (fun k => spec_Flat.l0 k (l.map pS) [] (pans l i) (bends l (i - 1)) d0 d1 ((i + 1 : Nat) : Int)) (flS l m i)
  | 0, i, d0, d1, h, hd => by
    refine Ev.step (fun k => by rw [spec_Flat.l0]) ?_
    refine ev_ifF (by rw [List.length_map]; omega) ?_
    rw [show i = l.length - 1 by omega, show l.length - 1 - 1 = l.length - 2 by omega]
    exact endS hn hn2
  | m + 1, i, d0, d1, h, hd => by
    refine Ev.step (fun k => by rw [spec_Flat.l0]) ?_
    have b1 := hin i (by omega); have b2 := hin (i + 1) (by omega)
    unfold InP InAt at b1 b2
    have e0 : wrap64 (((i + 1 : Nat) : Int) - 1) = (i : Int) := (pw64 (by omega) (by omega)).trans (by omega)
    rw [e0, List.length_map, rdPt l i (by omega), rdPt l (i + 1) (by omega)]
    have e1 : wrap64 ((pS (pt l (i + 1))).f0 - (pS (pt l i)).f0) = (pt l (i + 1)).1 - (pt l i).1 := pw64 (by unfold pS; dsimp only; omega) (by unfold pS; dsimp only; omega)
    have e2 : wrap64 ((pS (pt l (i + 1))).f1 - (pS (pt l i)).f1) = (pt l (i + 1)).2 - (pt l i).2 := pw64 (by unfold pS; dsimp only; omega) (by unfold pS; dsimp only; omega)
    rw [e1, e2]
    refine ev_ifT (by omega) (ev_ifT (by omega) (ev_ifT (by omega) (ev_ifT (by omega) (ev_bindS (sabs_f (by omega) (by omega)) (ev_bindS (sabs_f (by omega) (by omega)) ?_)))))
    have e3 : wrap64 (absP ((pt l (i + 1)).1 - (pt l i).1) + absP ((pt l (i + 1)).2 - (pt l i).2)) = pan l i := pw64 (by unfold absP; split <;> split <;> omega) (by unfold absP; split <;> split <;> omega)
    rw [e3, flS]
    have J : ∀ c : Bool, (c = false ↔ Axis l i) → Ev (fun k => spec_Flat.j2 k (l.map pS) [] (pans l i) (bends l (i - 1)) d0 d1 ((i + 1 : Nat) : Int) ((pt l (i + 1)).1 - (pt l i).1) ((pt l (i + 1)).2 - (pt l i).2) (pan l i) c) (if Axis l i then flS l m (i + 1) else err1) := by
      intro c hc
      refine Ev.step (fun k => by rw [spec_Flat.j2]) ?_
      cases c
      · have ha := hc.1 rfl
        rw [if_pos ha]
        refine ev_ifF (by decide) (ev_ifF ha.1 ?_)
        have q : wrap64 (Int.tdiv ((pt l (i + 1)).1 - (pt l i).1) (pan l i)) = dirX l i ∧ wrap64 (Int.tdiv ((pt l (i + 1)).2 - (pt l i).2) (pan l i)) = dirY l i := by
          obtain ⟨hne, hax⟩ := ha
          unfold pan at hne ⊢
          unfold dirX dirY
          rcases hax with h0 | h0
          · rw [h0] at hne ⊢
            have z : absP 0 = 0 := rfl
            rw [z, Int.zero_add] at hne ⊢
            have hv : (pt l (i + 1)).2 - (pt l i).2 ≠ 0 := fun hv => hne (by rw [hv]; rfl)
            rw [quo_sgn hv, Int.zero_tdiv]
            have := sgn_bd ((pt l (i + 1)).2 - (pt l i).2)
            exact ⟨pw64 (by omega) (by omega), pw64 (by omega) (by omega)⟩
          · rw [h0] at hne ⊢
            have z : absP 0 = 0 := rfl
            rw [z, Int.add_zero] at hne ⊢
            have hv : (pt l (i + 1)).1 - (pt l i).1 ≠ 0 := fun hv => hne (by rw [hv]; rfl)
            rw [quo_sgn hv, Int.zero_tdiv]
            have := sgn_bd ((pt l (i + 1)).1 - (pt l i).1)
            exact ⟨pw64 (by omega) (by omega), pw64 (by omega) (by omega)⟩
        rw [q.1, q.2, pans_succ, pans_len, bends_len, succ64 (by omega)]
        by_cases h0 : 0 < i
        · refine ev_ifT (by omega) (ev_ifT (by omega) (ev_ifT (by omega) ?_))
          obtain ⟨rfl, rfl⟩ := hd h0
          have e4 := bendW l (i - 1)
          rw [show i - 1 + 1 = i by omega] at e4
          rw [e4, bends_succ, show i - 1 + 1 = i + 1 - 1 by omega]
          exact walkS hin m (i + 1) _ _ (by omega) (fun _ => ⟨rfl, rfl⟩)
        · refine ev_ifF (by omega) (ev_ifT (by omega) ?_)
          rw [show bends l (i - 1) = bends l (i + 1 - 1) by rw [show i - 1 = i + 1 - 1 by omega]]
          exact walkS hin m (i + 1) _ _ (by omega) (fun _ => ⟨rfl, rfl⟩)
      · rw [if_neg (fun h' => absurd (hc.2 h') (by decide))]
        exact ev_ifT rfl (Ev.now _)
    by_cases c1 : pan l i = 0
    · exact ev_ifT c1 (J true ⟨fun h => by simp at h, fun h => absurd c1 h.1⟩)
    · refine ev_ifF c1 ?_
      by_cases c2 : (pt l (i + 1)).1 - (pt l i).1 = 0
      · exact ev_ifT c2 (J false ⟨fun _ => ⟨c1, .inl c2⟩, fun _ => rfl⟩)
      · refine ev_ifF c2 (J _ ⟨fun h => ⟨c1, .inr (bne_eq_false_iff_eq.1 h)⟩, fun h => bne_eq_false_iff_eq.2 (h.2.resolve_left c2)⟩)
end
def flatP (l : List (Int × Int)) : List Int × List Int × Int := if 4096 < l.length then ([], [], 2) else if l.length < 2 ∨ 41 < l.length then err1 else fin l
theorem implFlat (l : List (Int × Int)) : Ev (fun k => impl_Flat.f k (l.map pS)) (flatP l) := by
  unfold impl_Flat.f flatP
  rw [List.length_map]
  by_cases h1 : 4096 < l.length
  · rw [if_pos h1]; exact ev_ifT (by omega) (Ev.now _)
  rw [if_neg h1]
  refine ev_ifF (by omega) ?_
  by_cases h2 : l.length < 2
  · rw [if_pos (.inl h2)]
    refine ev_ifT (by omega) (Ev.step (fun k => by rw [impl_Flat.j0]) ?_)
    exact ev_ifT rfl (Ev.now _)
  refine ev_ifF (by omega) (Ev.step (fun k => by rw [impl_Flat.j0]) ?_)
  by_cases h3 : 41 < l.length
  · rw [if_pos (.inr h3)]; exact ev_ifT (decide_eq_true (by omega)) (Ev.now _)
  · rw [if_neg (by omega)]
    refine ev_ifF (by rw [decide_eq_true_eq]; omega) ?_
    rw [← flI_fin (by omega) (l.length - 1) 0 (by omega)]
    exact walkI (by omega) (by omega) (l.length - 1) 0 0 0 (by omega) (fun h => absurd h (by omega))
theorem pointS_f (p : Int × Int) : spec_l03Point.f p.1 p.2 = some (decide (InAt p.1 ∧ InAt p.2)) := by
  unfold spec_l03Point.f InAt
  split
  · split
    · split
      · congr 1; rw [decide_eq_decide]; omega
      · congr 1; symm; rw [decide_eq_false_iff_not]; omega
    · congr 1; symm; rw [decide_eq_false_iff_not]; omega
  · congr 1; symm; rw [decide_eq_false_iff_not]; omega
def allIn (l : List (Int × Int)) (i : Nat) : Bool := (l.drop i).all fun p => decide (InAt p.1 ∧ InAt p.2)
theorem points_l0 (l : List (Int × Int)) (hl : l.length ≤ 35184372088832) : ∀ (m i : Nat), m = l.length - i → Ev (fun k => spec_l03Points.l0 k (l.map pS) (i : Int)) (allIn l i)
  | 0, i, hm => by
    refine Ev.step (fun k => by rw [spec_l03Points.l0]) (ev_ifF (by rw [List.length_map]; omega) ?_)
    unfold allIn; rw [List.drop_eq_nil_of_le (by omega)]; exact Ev.now _
  | m + 1, i, hm => by
    refine Ev.step (fun k => by rw [spec_l03Points.l0]) (ev_ifT (by rw [List.length_map]; omega) (ev_ifT (by omega) ?_))
    have e : allIn l i = (decide (InAt (pt l i).1 ∧ InAt (pt l i).2) && allIn l (i + 1)) := by
      unfold allIn; rw [List.drop_eq_getElem_cons (show i < l.length by omega), List.all_cons]; unfold pt; rw [← List.getElem_eq_getD (h := by omega)]
    rw [rdPt l i (by omega), succ64 (by omega), e]
    refine ev_bindS (pointS_f (pt l i)) ?_
    cases hd : decide (InAt (pt l i).1 ∧ InAt (pt l i).2)
    · exact ev_ifF (by simp) (Ev.now _)
    · refine ev_ifT rfl ?_
      rw [Bool.true_and]; exact points_l0 l hl m (i + 1) (by omega)
theorem specFlat (l : List (Int × Int)) : Ev (fun k => spec_Flat.f k (l.map pS)) (flatP l) := by
  unfold spec_Flat.f flatP
  rw [List.length_map]
  refine ev_bindS rfl ?_
  by_cases h1 : 4096 < l.length
  · rw [if_pos h1]; exact ev_ifT (by omega) (Ev.now _)
  rw [if_neg h1]
  refine ev_ifF (by omega) ?_
  by_cases h2 : l.length < 2
  · rw [if_pos (.inl h2)]
    refine ev_ifT (by omega) (Ev.step (fun k => by rw [spec_Flat.j0]) ?_)
    exact ev_ifT rfl (Ev.now _)
  refine ev_ifF (by omega) ?_
  by_cases h3 : 41 < l.length
  · rw [if_pos (.inr h3)]
    refine ev_ifT (by omega) (Ev.step (fun k => by rw [spec_Flat.j0]) ?_)
    exact ev_ifT rfl (Ev.now _)
  · rw [if_neg (by omega)]
    have hp : Ev (fun k => spec_l03Points.f k (l.map pS)) (allIn l 0) := points_l0 l (by omega) l.length 0 (by omega)
    refine ev_ifF (by omega) (Ev.bind hp (Ev.step (fun k => by rw [spec_Flat.j0]) ?_))
    by_cases c : allIn l 0 = true
    · refine ev_ifF (by rw [c]; decide) ?_
      have hin : ∀ i, i < l.length → InP (pt l i) := fun i hi => by
        unfold allIn at c; rw [List.drop_zero, List.all_eq_true] at c
        have := c (pt l i) (by unfold pt; rw [← List.getElem_eq_getD (h := hi)]; exact List.getElem_mem hi)
        have h' := of_decide_eq_true this
        exact h'
      rw [← flS_fin (by omega) (l.length - 1) 0 (by omega)]
      exact walkS (by omega) (by omega) hin (l.length - 1) 0 1 0 (by omega) (fun h => absurd h (by omega))
    · refine ev_ifT (by rw [Bool.eq_false_iff.2 c]; rfl) ?_
      have : fin l = err1 := by
        unfold fin; rw [if_neg]
        intro g
        apply c
        have hg := (good_is (by omega) g).1
        unfold allIn; rw [List.drop_zero, List.all_eq_true]
        intro x hx
        obtain ⟨i, hi, rfl⟩ := List.mem_iff_getElem.1 hx
        have := hg i hi
        unfold pt at this; rw [← List.getElem_eq_getD (h := hi)] at this
        unfold In5 at this
        exact decide_eq_true (by unfold InAt; omega)
      rw [this]; exact Ev.now _
theorem flatP_len (l : List (Int × Int)) : (flatP l).1.length ≤ 41 ∧ (flatP l).2.1.length ≤ 41 := by
  unfold flatP
  split
  · simp
  · split
    · simp [err1]
    · unfold fin; split
      · dsimp only; rw [pans_len, bends_len]; omega
      · simp [err1]
theorem flat_all (l : List (Int × Int)) (hl : l.length ≤ 9223372036854775807) : Ev (fun k => laws_FnExactFlat.f k (l.map qS)) true := by
  unfold laws_FnExactFlat.f
  rw [szPointS l hl]
  by_cases h1 : 1048576 < l.length
  · rw [if_pos h1]; exact ev_bindS rfl (ev_ifT (by decide) (Ev.now _))
  rw [if_neg h1]
  have tp := toPointS l (by omega)
  have sp := specFlat l
  have im := implFlat l
  have hln := flatP_len l
  obtain ⟨mk, hmk⟩ := markPointS (l.map pS) 1 (by rw [List.length_map]; omega) (by omega) (by omega)
  rw [List.length_map] at hmk
  have eqp := eqPointS (l.map pS) (by rw [List.length_map]; omega)
  generalize flatP l = r at *
  have e1 := eqIntS r.1 (by omega)
  have e2 := eqIntS r.2.1 (by omega)
  have m1 := markIntS r.1 1 (by omega) (by omega) (by omega)
  have m2 := markIntS r.2.1 (1 + r.1.length) (by omega) (by omega) (by omega)
  have h1' := heldIntS 1 r.1.length (by omega) (by omega) (by omega)
  have h2' := heldIntS (1 + r.1.length) r.2.1.length (by omega) (by omega) (by omega)
  refine ev_bindS rfl (ev_ifF (by omega) (Ev.bind tp (Ev.bind sp (Ev.bind tp (Ev.bind im ?_)))))
  refine Ev.bind e1 (ev_ifT rfl ?_)
  refine Ev.bind e2 (ev_ifT rfl ?_)
  refine Ev.step (fun k => by rw [laws_FnExactFlat.j0]) ?_
  refine ev_ifF (by simp) (Ev.bind tp (Ev.bind eqp (ev_ifT rfl (Ev.bind hmk ?_))))
  refine ev_ifF (by omega) (Ev.bind e1 (ev_ifT rfl ?_))
  refine Ev.bind e2 (ev_ifT rfl ?_)
  refine Ev.step (fun k => by rw [laws_FnExactFlat.j1]) ?_
  refine ev_ifF (by simp) (Ev.bind m1 ?_)
  refine Ev.bind m2 ?_
  refine Ev.bind h1' ?_
  refine ev_ifF (by omega) ?_
  refine Ev.bind h2' ?_
  refine ev_ifF (by omega) (ev_ifT rfl ?_)
  refine Ev.bind tp (Ev.bind im ?_)
  refine Ev.bind e1 (ev_ifT rfl ?_)
  refine Ev.bind e2 (ev_ifT rfl ?_)
  refine Ev.step (fun k => by rw [laws_FnExactFlat.j2]) ?_
  refine ev_ifF (by simp) (Ev.bind h1' ?_)
  refine ev_ifF (by omega) (Ev.bind h2' ?_)
  exact ev_ifF (by omega) (ev_ifT rfl (Ev.now _))
theorem FnExactFlat_row (l0 : List (Int × Int)) (hl : l0.length * 16 ≤ 140737488351232) (_ : ∀ x ∈ l0, (Lit.int .i64 x.1).wf = true ∧ (Lit.int .i64 x.2).wf = true) : ∃ k, laws_FnExactFlat.f k (l0.map qS) = some true :=
  (flat_all l0 (by omega)).rounds
end Go.Proofs.Ytgnhcdchpeeoaaa.PW

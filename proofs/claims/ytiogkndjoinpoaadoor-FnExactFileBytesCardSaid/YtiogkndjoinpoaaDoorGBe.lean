/- Lists of features: what is wrong with them, whom each names. No conditions. -/
import Derived.KernelRfl
import Derived.Test.YtiogkndjoinpoaaDoorRows
import Derived.WalkKit
import Derived.ProofKit
import Derived.OpenShut
import Derived.ShutString
import Derived.ChangeOld
import Derived.Below
import Derived.SizedLaws
import Derived.Test.YtiogkndjoinpoaaDoorTie
import Derived.Test.YtiogkndjoinpoaaDoorCards
import Derived.Lib.LaidU8
import Derived.Lay
import Derived.LaidOnce
import Derived.SevenTiedAt
import Derived.Test.YtiogkndjoinpoaaDoorGBd
set_option linter.unusedVariables false
set_option linter.unusedSimpArgs false
set_option linter.unusedSectionVars false
namespace Go.Proofs.YtiogkndjoinpoaaDoor.AX
open Go

def sameN (nm : ByteArray) (x : S53) : Bool := nm.toList == x.f0.toList
/-- The first of a name. -/
def fndO (nm : ByteArray) : Nat → List S53 → Option Nat
  | _, [] => none
  | k, x :: r => if sameN nm x = true then some k else fndO nm (k + 1) r
def fi (l : List S53) (nm : ByteArray) : Int := match fndO nm 0 l with
  | some k => (k : Int)
  | none => -1
theorem fndO_lt {nm : ByteArray} : ∀ {l : List S53} {k j : Nat}, fndO nm k l = some j → k ≤ j ∧ j < k + l.length
  | [], k, j, h => by cases h
  | x :: r, k, j, h => by
    simp only [fndO] at h
    split at h
    · injection h with h; subst h; simp
    · have := fndO_lt h; simp; omega
theorem sameN_comm (nm : ByteArray) (x : S53) : (x.f0.toList == nm.toList) = sameN nm x := by unfold sameN; rw [BEq.comm]

theorem F34.l0_ok (nm : ByteArray) (l : List S53) (hl : l.length ≤ 5000) : ∀ (m i : Nat), i + m = l.length → F34.l0 (nm, (i : Int), l) = some (match fndO nm i (l.drop i) with | some k => .inl (k : Int) | none => .inr ())
  | 0, i, hi => by
    have d : decide ((i : Int) < (l.length : Int)) = false := dF (by omega)
    rw [List.drop_eq_nil_of_le (by omega)]
    unfold F34.l0
    exact lim_out (by simp only [F34.l0.b, d, cF, fndO])
  | m + 1, i, hi => by
    have hlt : i < l.length := by omega
    have d : decide ((i : Int) < (l.length : Int)) = true := dT (by omega)
    have d2 : decide ((0 : Int) ≤ (i : Int)) = true := dT (by omega)
    have w : Go.IntKind.wrap .i64 ((i : Int) + 1) = ((i + 1 : Nat) : Int) := by rw [w64 (by omega) (by omega)]; rfl
    have hg : l.getD i z53 = l[i] := getD_lt hlt
    rw [drop_cons hlt]
    simp only [fndO]
    cases hs : sameN nm l[i] with
    | true =>
      rw [if_pos rfl]
      unfold F34.l0
      exact lim_out (by simp only [F34.l0.b, d, d2, Bool.and_self, cT, Int.toNat_natCast, hg, sameN_comm, hs])
    | false =>
      rw [if_neg (by decide), ← F34.l0_ok nm l hl m (i + 1) (by omega)]
      unfold F34.l0
      exact lim_in (by simp only [F34.l0.b, d, d2, Bool.and_self, cT, cF, Int.toNat_natCast, hg, sameN_comm, hs, w])

theorem F34.ok (nm : ByteArray) (l : List S53) (hl : l.length ≤ 5000) : F34.F (l, nm) = some (fi l nm) := by
  have e := F34.l0_ok nm l hl l.length 0 (by omega)
  rw [show ((0 : Nat) : Int) = 0 from rfl, List.drop_zero] at e
  unfold fi
  simp only [F34.F, e, bS]
  cases fndO nm 0 l <;> rfl

theorem fi_neg {l : List S53} {nm : ByteArray} : decide (fi l nm < 0) = (fndO nm 0 l).isNone := by
  unfold fi
  cases h : fndO nm 0 l with
  | none => exact dT (by dsimp only; omega)
  | some k => exact dF (by dsimp only; omega)

/- What one names. -/
def wr2 (l : List S53) (x : S53) : Option ByteArray := bif isE x.f2 then none else match fndO x.f2 0 l with
  | none => some x.f2
  | some k => bif ((l.getD k z53).f3 == 3) || !isE (l.getD k z53).f1 then some x.f2 else none
/-- What it names that it can not. -/
def wrO (l : List S53) (x : S53) : Option ByteArray := bif isE x.f1 then wr2 l x else match fndO x.f1 0 l with
  | none => some x.f1
  | some _ => wr2 l x
def tgR (l : List S53) (x : S53) : List Int := (bif isE x.f1 then [] else [fi l x.f1]) ++ (bif isE x.f2 then [] else [fi l x.f2])

theorem isE_E0 : isE E0 = true := by unfold isE; simp
theorem wr2_ne {l : List S53} {x : S53} {w : ByteArray} (h : wr2 l x = some w) : isE w = false := by
  unfold wr2 at h
  cases he : isE x.f2 with
  | true => rw [he] at h; cases h
  | false =>
    rw [he, cF] at h
    split at h
    · injection h with h; subst h; exact he
    · cases hc : (((l.getD _ z53).f3 == 3) || !isE (l.getD _ z53).f1) with
      | true => rw [hc, cT] at h; injection h with h; subst h; exact he
      | false => rw [hc, cF] at h; cases h
theorem wrO_ne {l : List S53} {x : S53} {w : ByteArray} (h : wrO l x = some w) : isE w = false := by
  unfold wrO at h
  cases he : isE x.f1 with
  | true => rw [he, cT] at h; exact wr2_ne h
  | false =>
    rw [he, cF] at h
    split at h
    · injection h with h; subst h; exact he
    · exact wr2_ne h

theorem F37.t4_ok (l : List S53) (hl : l.length ≤ 5000) (x : S53) : F37.t4 (x.f0, x.f1, x.f2, x.f3, x.f4, x.f5, x.f6, x.f7, x.f8, x.f9, x.f10, x.f11, x.f12, x.f13, x.f14, l) = some ((wr2 l x).getD E0) := by
  have e0 : ∀ s : ByteArray, (ByteArray.toList s == ByteArray.toList (ByteArray.mk (Array.mk ([] : List UInt8)))) = isE s := fun s => rfl
  unfold wr2
  cases he : isE x.f2 with
  | true => simp only [F37.t4, e0, he, Bool.not_true, cF, cT]; rfl
  | false =>
    simp only [F37.t4, e0, he, Bool.not_false, cT, cF, F34.ok x.f2 l hl, bS, fi_neg]
    cases hf : fndO x.f2 0 l with
    | none => simp only [Option.isNone_none, Bool.not_true, Bool.not_false, Bool.true_or, cT]; rfl
    | some k =>
      have hk := fndO_lt hf
      have hfi : fi l x.f2 = (k : Int) := by unfold fi; rw [hf]
      have d1 : decide ((0 : Int) ≤ (k : Int)) = true := dT (by omega)
      have d2 : decide ((k : Int) < (l.length : Int)) = true := dT (by omega)
      simp only [Option.isNone_some, hfi, d1, d2, Bool.and_self, Bool.or_true, Bool.false_or, cT, Int.toNat_natCast]
      cases (((l.getD k z53).f3 == 3) || !isE (l.getD k z53).f1) <;> rfl

theorem F37.ok (l : List S53) (hl : l.length ≤ 5000) (x : S53) : F37.F (l, x.f0, x.f1, x.f2, x.f3, x.f4, x.f5, x.f6, x.f7, x.f8, x.f9, x.f10, x.f11, x.f12, x.f13, x.f14) = some ((wrO l x).getD E0) := by
  have e0 : ∀ s : ByteArray, (ByteArray.toList s == ByteArray.toList (ByteArray.mk (Array.mk ([] : List UInt8)))) = isE s := fun s => rfl
  have t4 := F37.t4_ok l hl x
  unfold wrO
  cases he : isE x.f1 with
  | true => simp only [F37.F, e0, he, Bool.not_true, cF, cT, t4, bS]
  | false =>
    simp only [F37.F, e0, he, Bool.not_false, cT, cF, F34.ok x.f1 l hl, bS, fi_neg, t4]
    cases hf : fndO x.f1 0 l <;> rfl

theorem F38.ok (l : List S53) (hl : l.length ≤ 5000) (x : S53) : F38.F (l, x.f0, x.f1, x.f2, x.f3, x.f4, x.f5, x.f6, x.f7, x.f8, x.f9, x.f10, x.f11, x.f12, x.f13, x.f14) = some (tgR l x) := by
  have e0 : ∀ s : ByteArray, (ByteArray.toList s == ByteArray.toList (ByteArray.mk (Array.mk ([] : List UInt8)))) = isE s := fun s => rfl
  have d0 : decide ((([] : List Int).length + (fi l x.f2 :: ([] : List Int)).length) ≤ 274877906944) = true := dT (by simp)
  have d1 : decide (((fi l x.f1 :: ([] : List Int)).length + (fi l x.f2 :: ([] : List Int)).length) ≤ 274877906944) = true := dT (by simp)
  unfold tgR
  cases he : isE x.f1 <;> cases he2 : isE x.f2 <;>
    simp only [F38.F, F38.t4, e0, he, he2, Bool.not_false, Bool.not_true, cT, cF, F34.ok x.f1 l hl, F34.ok x.f2 l hl, bS, d0, d1, List.nil_append, List.append_nil, List.cons_append]

/- Kinds. -/
theorem feat_kind {x : S53} (h : featB x = true) : (x.f3 == 3) = !isE x.f2 ∧ (isE x.f1 = false → isE x.f2 = true) := by
  unfold featB at h
  cases hn : nameB x with
  | true => rw [hn] at h; cases h
  | false =>
    rw [hn, cF] at h
    have hb : blockB x = true → isE x.f2 = true := fun hb => by
      unfold blockB at hb
      cases he : isE x.f2 with
      | true => rfl
      | false =>
        rw [he] at hb
        simp only [Bool.and_false, Bool.false_and, cI] at hb
        cases hb
    have hr : rowB x = true → isE x.f2 = false ∧ isE x.f1 = true := fun hr => by
      unfold rowB at hr
      cases he : isE x.f2 with
      | true => rw [he] at hr; simp only [Bool.true_or, cT] at hr; cases hr
      | false =>
        cases he1 : isE x.f1 with
        | true => exact ⟨rfl, rfl⟩
        | false => rw [he, he1] at hr; simp only [Bool.not_false, Bool.or_true, Bool.true_or, cT] at hr; cases hr
    by_cases k1 : x.f3 = 1
    · rw [qT k1, cT] at h
      have := hb h
      rw [this]
      exact ⟨by rw [qF (by omega)]; rfl, fun _ => rfl⟩
    · rw [qF k1, cF] at h
      by_cases k2 : x.f3 = 2
      · rw [qT k2, cT] at h
        have := hb h
        rw [this]
        exact ⟨by rw [qF (by omega)]; rfl, fun _ => rfl⟩
      · rw [qF k2, cF] at h
        by_cases k3 : x.f3 = 3
        · rw [qT k3, cT] at h
          obtain ⟨h1, h2⟩ := hr h
          rw [h1, h2]
          exact ⟨by rw [qT k3]; rfl, fun h => by cases h⟩
        · rw [qF k3, cF] at h; cases h

/- The map of names. -/
def idxL : Nat → List S53 → List S72
  | _, [] => []
  | k, x :: r => ⟨x.f0, (k : Int)⟩ :: idxL (k + 1) r
abbrev kp (nm : ByteArray) (e : S72) : Bool := nm.toList == e.f0.toList
theorem mhas_T (p : S72 → Bool) (l : List S72) : mhas (U := uni) 8 p l = l.any p := rfl
def mfT {E : Type} (d : E) (p : E → Bool) (l : List E) : E := (l.find? p).getD d
theorem mfind_T (p : S72 → Bool) (l : List S72) : (mfind (U := uni) 8 p l : S72) = mfT z72 p l := rfl
theorem mput_T (p : S72 → Bool) (x : S72) : ∀ l : List S72, l.any p = false → (mput (U := uni) 8 p x l : List S72) = l ++ [x]
  | [], _ => rfl
  | y :: r, h => by
    rw [List.any_cons, Bool.or_eq_false_iff] at h
    have h1 : p y = false := h.1
    show (bif p y then x :: r else y :: mput (U := uni) 8 p x r) = _
    rw [h1, cF, mput_T p x r h.2]; rfl
theorem idx_app : ∀ {l r : List S53} {k : Nat}, idxL k (l ++ r) = idxL k l ++ idxL (k + l.length) r
  | [], r, k => by simp [idxL]
  | x :: l, r, k => by
    show _ :: idxL (k + 1) (l ++ r) = _
    rw [idx_app]
    simp only [List.length_cons, idxL, List.cons_append]
    rw [show k + 1 + l.length = k + (l.length + 1) by omega]
theorem idx_any {nm : ByteArray} : ∀ {l : List S53} {k : Nat}, (idxL k l).any (kp nm) = l.any (sameN nm)
  | [], k => rfl
  | x :: l, k => by
    show (kp nm _ || (idxL (k + 1) l).any (kp nm)) = _
    rw [idx_any]; rfl
theorem any_fnd {nm : ByteArray} : ∀ {l : List S53} {k : Nat}, l.any (sameN nm) = (fndO nm k l).isSome
  | [], k => rfl
  | x :: l, k => by
    rw [List.any_cons, fndO]
    cases h : sameN nm x with
    | true => rw [if_pos rfl]; rfl
    | false => rw [if_neg (by decide), Bool.false_or, any_fnd (k := k + 1)]
theorem idx_find {nm : ByteArray} : ∀ {l : List S53} {k j : Nat}, fndO nm k l = some j → (mfT z72 (kp nm) (idxL k l)).f1 = (j : Int)
  | [], k, j, h => by cases h
  | x :: l, k, j, h => by
    simp only [fndO] at h
    unfold mfT
    rw [idxL, List.find?_cons]
    cases hs : sameN nm x with
    | true =>
      rw [hs, if_pos rfl] at h
      injection h with h; subst h
      have : kp nm ⟨x.f0, (k : Int)⟩ = true := hs
      rw [this]; rfl
    | false =>
      rw [hs, if_neg (by decide)] at h
      have : kp nm ⟨x.f0, (k : Int)⟩ = false := hs
      rw [this]
      exact idx_find h

/-- Is one there twice? -/
def dupG : List S53 → List S53 → Option S53
  | _, [] => none
  | pre, x :: r => if pre.any (sameN x.f0) = true then some x else dupG (pre ++ [x]) r

theorem F26.l2_ok (l : List S53) (hl : l.length ≤ 5000) : ∀ (m i : Nat), i + m = l.length →
    F26.l2 ((l.length : Int), (i : Int), l, idxL 0 (l.take i)) = some (match dupG (l.take i) (l.drop i) with | some x => .inl (7, [x.f0]) | none => .inr (l, idxL 0 l))
  | 0, i, hi => by
    have d : decide ((i : Int) < (l.length : Int)) = false := dF (by omega)
    rw [List.drop_eq_nil_of_le (by omega), List.take_of_length_le (by omega)]
    unfold F26.l2
    exact lim_out (by simp only [F26.l2.b, d, cF, dupG])
  | m + 1, i, hi => by
    have hlt : i < l.length := by omega
    have d : decide ((i : Int) < (l.length : Int)) = true := dT (by omega)
    have d2 : decide ((0 : Int) ≤ (i : Int)) = true := dT (by omega)
    have w : Go.IntKind.wrap .i64 ((i : Int) + 1) = ((i + 1 : Nat) : Int) := by rw [w64 (by omega) (by omega)]; rfl
    have hg : l.getD i z53 = l[i] := getD_lt hlt
    have htk : l.take (i + 1) = l.take i ++ [l[i]] := by simp
    rw [drop_cons hlt]
    simp only [dupG]
    have hidx : idxL 0 (l.take (i + 1)) = idxL 0 (l.take i) ++ [(⟨l[i].f0, (i : Int)⟩ : S72)] := by
      rw [htk, idx_app]
      congr 1
      simp only [idxL, List.length_take]
      rw [show 0 + min i l.length = i by omega]
    have ha : (idxL 0 (l.take i)).any (kp l[i].f0) = (l.take i).any (sameN l[i].f0) := idx_any
    rw [← htk]
    cases hs : (l.take i).any (sameN l[i].f0) with
    | true =>
      rw [hs] at ha
      rw [if_pos rfl]
      unfold F26.l2
      exact lim_out (by simp only [F26.l2.b, d, d2, Bool.and_self, cT, Int.toNat_natCast, hg, mhas_T, ha])
    | false =>
      rw [hs] at ha
      have hp := mput_T (kp l[i].f0) (⟨l[i].f0, (i : Int)⟩ : S72) _ ha
      rw [if_neg (by decide), ← F26.l2_ok l hl m (i + 1) (by omega), hidx]
      unfold F26.l2
      exact lim_in (by simp only [F26.l2.b, d, d2, Bool.and_self, cT, cF, Int.toNat_natCast, hg, mhas_T, ha, hp, w])

theorem F23.l2_ok (l : List S53) (hl : l.length ≤ 5000) : ∀ (m i : Nat), i + m = l.length →
    F23.l2 ((i : Int), l) = some (match dupG (l.take i) (l.drop i) with | some x => .inl (7, [], [x.f0]) | none => .inr l)
  | 0, i, hi => by
    have d : decide ((i : Int) < (l.length : Int)) = false := dF (by omega)
    rw [List.drop_eq_nil_of_le (by omega)]
    unfold F23.l2
    exact lim_out (by simp only [F23.l2.b, d, cF, dupG])
  | m + 1, i, hi => by
    have hlt : i < l.length := by omega
    have d : decide ((i : Int) < (l.length : Int)) = true := dT (by omega)
    have d2 : decide ((0 : Int) ≤ (i : Int)) = true := dT (by omega)
    have d3 : decide ((i : Int) ≤ (l.length : Int)) = true := dT (by omega)
    have d0 : decide ((0 : Nat) ≤ 0) = true := rfl
    have w : Go.IntKind.wrap .i64 ((i : Int) + 1) = ((i + 1 : Nat) : Int) := by rw [w64 (by omega) (by omega)]; rfl
    have hg : l.getD i z53 = l[i] := getD_lt hlt
    have htk : l.take (i + 1) = l.take i ++ [l[i]] := by simp
    have hwin : List.take (Int.toNat ((i : Int) - 0)) (List.drop (Int.toNat 0) l) = l.take i := by rw [Int.sub_zero, Int.toNat_natCast]; rfl
    have hf := F34.ok l[i].f0 (l.take i) (by simp; omega)
    have hge : decide (fi (l.take i) l[i].f0 ≥ 0) = (l.take i).any (sameN l[i].f0) := by
      rw [any_fnd (k := 0)]
      unfold fi
      cases h : fndO l[i].f0 0 (l.take i) with
      | none => exact dF (by dsimp only; omega)
      | some k => exact dT (by dsimp only; omega)
    rw [drop_cons hlt]
    simp only [dupG]
    rw [← htk]
    cases hs : (l.take i).any (sameN l[i].f0) with
    | true =>
      rw [hs] at hge
      rw [if_pos rfl]
      unfold F23.l2
      exact lim_out (by simp only [F23.l2.b, d, d0, d2, d3, Bool.and_self, cT, hwin, Int.toNat_natCast, hg, hf, bS, hge])
    | false =>
      rw [hs] at hge
      rw [if_neg (by decide), ← F23.l2_ok l hl m (i + 1) (by omega)]
      unfold F23.l2
      exact lim_in (by simp only [F23.l2.b, d, d0, d2, d3, Bool.and_self, cT, cF, hwin, Int.toNat_natCast, hg, hf, bS, hge, w])

/-- Is each right by itself? -/
def badG (_ : Unit) (x : S53) : Unit ⊕ S53 := bif featB x then .inl () else .inr x

theorem F26.l0_ok (l : List S53) (hl : l.length ≤ 5000) : F26.l0 ((l.length : Int), 0, l) = some (Sum.elim (fun _ => .inr l) (fun x => .inl (1, [x.f0])) (goL badG l ())) := by
  exact lim_go (f := F26.l0.b) (fun i _ => ((l.length : Int), (i : Int), l)) l z53 badG (fun _ => True) (z := fun _ => .inr l) (o := fun x => .inl (1, [x.f0])) () trivial (fun _ _ _ _ _ _ => trivial)
    (fun i a hi _ => by
      have d : decide ((i : Int) < (l.length : Int)) = true := dT (by omega)
      have d2 : decide ((0 : Int) ≤ (i : Int)) = true := dT (by omega)
      have w : Go.IntKind.wrap .i64 ((i : Int) + 1) = ((i + 1 : Nat) : Int) := by rw [w64 (by omega) (by omega)]; rfl
      unfold badG
      simp only [F26.l0.b, d, d2, Bool.and_self, cT, Int.toNat_natCast, F41.ok, bS, w]
      cases featB (l.getD i z53) <;> rfl)
    (fun a _ => by
      have d : decide ((l.length : Int) < (l.length : Int)) = false := dF (by omega)
      simp only [F26.l0.b, d, cF])
theorem F23.l0_ok (l : List S53) (hl : l.length ≤ 5000) : F23.l0 (0, l) = some (Sum.elim (fun _ => .inr l) (fun x => .inl (1, [], [x.f0])) (goL badG l ())) := by
  exact lim_go (f := F23.l0.b) (fun i _ => ((i : Int), l)) l z53 badG (fun _ => True) (z := fun _ => .inr l) (o := fun x => .inl (1, [], [x.f0])) () trivial (fun _ _ _ _ _ _ => trivial)
    (fun i a hi _ => by
      have d : decide ((i : Int) < (l.length : Int)) = true := dT (by omega)
      have d2 : decide ((0 : Int) ≤ (i : Int)) = true := dT (by omega)
      have w : Go.IntKind.wrap .i64 ((i : Int) + 1) = ((i + 1 : Nat) : Int) := by rw [w64 (by omega) (by omega)]; rfl
      unfold badG
      simp only [F23.l0.b, d, d2, Bool.and_self, cT, Int.toNat_natCast, F36.ok, bS, w]
      cases featB (l.getD i z53) <;> rfl)
    (fun a _ => by
      have d : decide ((l.length : Int) < (l.length : Int)) = false := dF (by omega)
      simp only [F23.l0.b, d, cF])

theorem badG_all : ∀ {l : List S53} {u : Unit}, goL badG l () = .inl u → ∀ x ∈ l, featB x = true
  | [], _, _, x, hx => by simp at hx
  | y :: l, u, h, x, hx => by
    unfold goL badG at h
    cases hf : featB y with
    | false => rw [hf] at h; cases h
    | true =>
      rw [hf] at h
      rcases List.mem_cons.1 hx with rfl | hx
      · exact hf
      · exact badG_all h x hx

end Go.Proofs.YtiogkndjoinpoaaDoor.AX

/- The function 7 of the program in the small machine. No conditions. -/
namespace Go.Proofs.YtiogkndjoinpoaaDoor.AX.F7
open Go Go.Proofs.Tryd
noncomputable def code : Code := bodyOf f7
abbrev Y : Type := ((List ByteArray) × Int × (List ByteArray))
def cp : Cod uni (List S53) := (cod1 (iRow 2))
def cr : Coz uni ((List ByteArray) × Int × (List ByteArray)) := (cozR (codC (iRow 1) (codC (iInt .i64) (cod1 (iRow 1)))) (codD cod0))
noncomputable def es : List (Ent prog uni) := [F23.ent, F24.ent]
theorem get : prog.funcs[7]? = some f7 := by kernel_rfl

def l0.A : Ann := ⟨[(0, .slc 5000000 []), (8, .slc 5000512 []), (9, .slc 5000576 []), (10, .sc)], [], [(5000000, false, 2), (5000512, true, 5), (5000576, true, 1)], []⟩
def l0.c : Cod uni (Int × (List S53) × (List Int) × (List ByteArray)) := (codC (iInt .i64) (codC (iRow 2) (codC (iRow 5) (cod1 (iRow 1)))))
def l0.xs : List (AExit × Ann) := [((.exit 0), ⟨[(9, .slc 5000576 [])], [], [(5000576, true, 1)], []⟩)]
def l0.y : Coy uni ((List ByteArray)) := (coy1 (cod1 (iRow 1)))
noncomputable def l0.b : Int × (List S53) × (List Int) × (List ByteArray) → Option ((Int × (List S53) × (List Int) × (List ByteArray)) ⊕ ((List ByteArray)))
  | (v10, r0, r512, r576) =>
  let x1 := (decide (v10 < ((List.length r512) : Int)))
  cond x1 (
   cond ((decide (0 ≤ v10)) && x1) (
    let x2 := (List.getD r512 (Int.toNat v10) 0)
    cond ((decide (0 ≤ x2)) && (decide (x2 < ((List.length r0) : Int)))) (
     let x0 := ((List.getD r0 (Int.toNat x2) z53).f0 :: [])
     cond (decide (((List.length r576) + (List.length x0)) ≤ 274877906944)) (
      some (.inl ((Go.IntKind.wrap (Go.IntKind.i64 ) (v10 + 1)), r0, r512, (r576 ++ x0)))) none) none) none) (
   some (.inr r576))
noncomputable def l0 (x : Int × (List S53) × (List Int) × (List ByteArray)) : Option ((List ByteArray)) := lim l0.b x
theorem l0.eq : ∀ x, l0.b x = roundX (mkE tab es 44 [] []) (loopAt 0 code) (cutOf l0.A l0.c) (cutsOf l0.xs l0.y) x := fun x => by kernel_rfl
theorem l0.owed {R : Type} : owed (mkE (R := R) tab es 44 [] []) (loopAt 0 code) = [] := by kernel_rfl
theorem l0.ok (w0 : World) (M : Own) (h : Pinned M []) {R : Type} : SoundO prog w0 M 44 (.block 0 (.loop (loopAt 0 code))) (loopO (R := R) 0 (cutOf l0.A l0.c) (cutsOf l0.xs l0.y) l0) :=
  loop_ok tabOk uniOk mixed l0.eq (h.sub rfl) (h.sub rfl) fun x hx => by rw [l0.owed] at hx; exact absurd hx List.not_mem_nil

noncomputable def F : (List S53) → Option (((List ByteArray) × Int × (List ByteArray)))
  | p0 =>
  (F23.F p0).bind fun y23 =>
  cond (y23.2.1 != 0) (
   some (([] : List ByteArray), (y23.2.1, y23.2.2))) (
   (F24.F y23.1).bind fun y24 =>
   (l0 (0, p0, y24, ([] : List ByteArray))).bind fun yl0 =>
   some (yl0, (0, ([] : List ByteArray))))
theorem F.eq : ∀ x, F x = runF (mkE tab es 44 [(0, some (loopO 0 (cutOf l0.A l0.c) (cutsOf l0.xs l0.y) l0))] []) code [.row 2 0] [.row 1, .sc, .row 1] [.tmp 2, .tmp 3, .tmp 4] (Coz.dec cr) (cp.enc x) := fun x => by kernel_rfl
theorem F.owed : owed (mkE (R := ((List ByteArray) × Int × (List ByteArray))) tab es 44 [(0, some (loopO 0 (cutOf l0.A l0.c) (cutsOf l0.xs l0.y) l0))] []) code = [((.block 0 (.loop (loopAt 0 code))), (loopO (R := _) 0 (cutOf l0.A l0.c) (cutsOf l0.xs l0.y) l0))] := by kernel_rfl
theorem con : ∀ x y, F x = some y → Con prog 7 [.row 2 0] [.row 1, .sc, .row 1] (cp.enc x) (cr.enc y).1 (cr.enc y).2 :=
  func_ok (c := code) (n := 44) (pf := [.row 2 0]) (res := [.tmp 2, .tmp 3, .tmp 4]) tabOk uniOk mixed get (by kernel_rfl) (by kernel_rfl) (by kernel_rfl) (by decide) F.eq fun w0 M h x hx => by rw [F.owed] at hx; rcases List.mem_cons.1 hx with rfl | hx; exact l0.ok w0 M h; exact absurd hx List.not_mem_nil
noncomputable def ent : Ent prog uni := Ent.of 7 [.row 2 0] [.row 1, .sc, .row 1] cp cr F con fun args w => enters_of get (by kernel_rfl) rfl args w
end Go.Proofs.YtiogkndjoinpoaaDoor.AX.F7

/- The function 9 of the program in the small machine. No conditions. -/
namespace Go.Proofs.YtiogkndjoinpoaaDoor.AX.F9
open Go Go.Proofs.Tryd
noncomputable def code : Code := bodyOf f9
abbrev Y : Type := ((List ByteArray) × Int × (List ByteArray))
def cp : Cod uni (List S53) := (cod1 (iRow 2))
def cr : Coz uni ((List ByteArray) × Int × (List ByteArray)) := (cozR (codC (iRow 1) (codC (iInt .i64) (cod1 (iRow 1)))) (codD cod0))
noncomputable def es : List (Ent prog uni) := [F26.ent]
theorem get : prog.funcs[9]? = some f9 := by kernel_rfl

def l0.A : Ann := ⟨[(0, .slc 5000000 []), (8, .slc 5000512 []), (21, .slc 5001344 []), (22, .sc), (23, .sc)], [], [(5000000, false, 2), (5001344, true, 5), (5000512, true, 1)], []⟩
def l0.c : Cod uni (Int × Int × (List S53) × (List Int) × (List ByteArray)) := (codC (iInt .i64) (codC (iInt .i64) (codC (iRow 2) (codC (iRow 5) (cod1 (iRow 1))))))
def l0.xs : List (AExit × Ann) := [((.exit 0), ⟨[(8, .slc 5000512 [])], [], [(5000512, true, 1)], []⟩)]
def l0.y : Coy uni ((List ByteArray)) := (coy1 (cod1 (iRow 1)))
noncomputable def l0.b : Int × Int × (List S53) × (List Int) × (List ByteArray) → Option ((Int × Int × (List S53) × (List Int) × (List ByteArray)) ⊕ ((List ByteArray)))
  | (v22, v23, r0, r1344, r512) =>
  cond (decide (v23 < v22)) (
   cond ((decide (0 ≤ v23)) && (decide (v23 < ((List.length r1344) : Int)))) (
    let x1 := (List.getD r1344 (Int.toNat v23) 0)
    cond ((decide (0 ≤ x1)) && (decide (x1 < ((List.length r0) : Int)))) (
     let x0 := ((List.getD r0 (Int.toNat x1) z53).f0 :: [])
     cond (decide (((List.length r512) + (List.length x0)) ≤ 274877906944)) (
      some (.inl (v22, (Go.IntKind.wrap (Go.IntKind.i64 ) (v23 + 1)), r0, r1344, (r512 ++ x0)))) none) none) none) (
   some (.inr r512))
noncomputable def l0 (x : Int × Int × (List S53) × (List Int) × (List ByteArray)) : Option ((List ByteArray)) := lim l0.b x
theorem l0.eq : ∀ x, l0.b x = roundX (mkE tab es 37 [] []) (loopAt 0 code) (cutOf l0.A l0.c) (cutsOf l0.xs l0.y) x := fun x => by kernel_rfl
theorem l0.owed {R : Type} : owed (mkE (R := R) tab es 37 [] []) (loopAt 0 code) = [] := by kernel_rfl
theorem l0.ok (w0 : World) (M : Own) (h : Pinned M []) {R : Type} : SoundO prog w0 M 37 (.block 0 (.loop (loopAt 0 code))) (loopO (R := R) 0 (cutOf l0.A l0.c) (cutsOf l0.xs l0.y) l0) :=
  loop_ok tabOk uniOk mixed l0.eq (h.sub rfl) (h.sub rfl) fun x hx => by rw [l0.owed] at hx; exact absurd hx List.not_mem_nil

noncomputable def F : (List S53) → Option (((List ByteArray) × Int × (List ByteArray)))
  | p0 =>
  (F26.F p0).bind fun y26 =>
  cond (y26.2.1 != 0) (
   some (([] : List ByteArray), (y26.2.1, y26.2.2))) (
   (l0 (((List.length y26.1) : Int), 0, p0, y26.1, ([] : List ByteArray))).bind fun yl0 =>
   some (yl0, (0, ([] : List ByteArray))))
theorem F.eq : ∀ x, F x = runF (mkE tab es 37 [(0, some (loopO 0 (cutOf l0.A l0.c) (cutsOf l0.xs l0.y) l0))] []) code [.row 2 0] [.row 1, .sc, .row 1] [.tmp 2, .tmp 3, .tmp 4] (Coz.dec cr) (cp.enc x) := fun x => by kernel_rfl
theorem F.owed : owed (mkE (R := ((List ByteArray) × Int × (List ByteArray))) tab es 37 [(0, some (loopO 0 (cutOf l0.A l0.c) (cutsOf l0.xs l0.y) l0))] []) code = [((.block 0 (.loop (loopAt 0 code))), (loopO (R := _) 0 (cutOf l0.A l0.c) (cutsOf l0.xs l0.y) l0))] := by kernel_rfl
theorem con : ∀ x y, F x = some y → Con prog 9 [.row 2 0] [.row 1, .sc, .row 1] (cp.enc x) (cr.enc y).1 (cr.enc y).2 :=
  func_ok (c := code) (n := 37) (pf := [.row 2 0]) (res := [.tmp 2, .tmp 3, .tmp 4]) tabOk uniOk mixed get (by kernel_rfl) (by kernel_rfl) (by kernel_rfl) (by decide) F.eq fun w0 M h x hx => by rw [F.owed] at hx; rcases List.mem_cons.1 hx with rfl | hx; exact l0.ok w0 M h; exact absurd hx List.not_mem_nil
noncomputable def ent : Ent prog uni := Ent.of 9 [.row 2 0] [.row 1, .sc, .row 1] cp cr F con fun args w => enters_of get (by kernel_rfl) rfl args w
end Go.Proofs.YtiogkndjoinpoaaDoor.AX.F9

/- Orders of features: the program and its reference agree. No conditions. -/
namespace Go.Proofs.YtiogkndjoinpoaaDoor.AX
open Go

def wrG (l : List S53) (_ : Unit) (x : S53) : Unit ⊕ (S53 × ByteArray) := match wrO l x with
  | none => .inl ()
  | some w => .inr (x, w)
def rowsR (l : List S53) : List (List Int) := l.map (tgR l)

theorem wrG_all {L : List S53} : ∀ {l : List S53} {u : Unit}, goL (wrG L) l () = .inl u → ∀ x ∈ l, wrO L x = none
  | [], _, _, x, hx => by simp at hx
  | y :: l, u, h, x, hx => by
    unfold goL wrG at h
    cases hf : wrO L y with
    | some w => rw [hf] at h; cases h
    | none =>
      rw [hf] at h
      rcases List.mem_cons.1 hx with rfl | hx
      · exact hf
      · exact wrG_all h x hx

theorem map_take_succ {α β : Type} {l : List α} {f : α → β} {i : Nat} {d : α} (h : i < l.length) : (l.take i).map f ++ [f (l.getD i d)] = (l.take (i + 1)).map f := by
  rw [getD_lt h, show l.take (i + 1) = l.take i ++ [l[i]] from by simp, List.map_append]; rfl

theorem F23.l4_ok (l : List S53) (hl : l.length ≤ 5000) : F23.l4 (0, l, []) = some (Sum.elim (fun _ => .inr (l, rowsR l)) (fun q => .inl (6, [], [q.1.f0, q.2])) (goL (wrG l) l ())) := by
  exact lim_go (f := F23.l4.b) (fun i _ => ((i : Int), l, (l.take i).map (tgR l))) l z53 (wrG l) (fun _ => True) (z := fun _ => .inr (l, rowsR l)) (o := fun q => .inl (6, [], [q.1.f0, q.2])) () trivial (fun _ _ _ _ _ _ => trivial)
    (fun i a hi _ => by
      have d : decide ((i : Int) < (l.length : Int)) = true := dT (by omega)
      have d2 : decide ((0 : Int) ≤ (i : Int)) = true := dT (by omega)
      have d3 : decide ((((l.take i).map (tgR l)).length + (tgR l (l.getD i z53) :: ([] : List (List Int))).length) ≤ 274877906944) = true := dT (by simp only [List.length_map, List.length_take, List.length_cons, List.length_nil]; omega)
      have w : Go.IntKind.wrap .i64 ((i : Int) + 1) = ((i + 1 : Nat) : Int) := by rw [w64 (by omega) (by omega)]; rfl
      have e0 : ∀ s : ByteArray, (ByteArray.toList s == ByteArray.toList (ByteArray.mk (Array.mk ([] : List UInt8)))) = isE s := fun s => rfl
      have hm := map_take_succ (f := tgR l) (d := z53) hi
      unfold wrG
      cases hw : wrO l (l.getD i z53) with
      | some wd =>
        have hne := wrO_ne hw
        simp only [F23.l4.b, d, d2, Bool.and_self, cT, Int.toNat_natCast, F37.ok l hl, bS, hw, Option.getD_some, e0, hne, Bool.not_false]
      | none =>
        simp only [F23.l4.b, d, d2, Bool.and_self, cT, cF, Int.toNat_natCast, F37.ok l hl, F38.ok l hl, bS, hw, Option.getD_none, e0, isE_E0, Bool.not_true, d3, w, hm])
    (fun a _ => by
      have d : decide ((l.length : Int) < (l.length : Int)) = false := dF (by omega)
      simp only [F23.l4.b, d, cF, List.take_length]
      rfl)

theorem F26.t29_ok (l : List S53) (hl : l.length ≤ 5000) {x : S53} (hx : featB x = true) (i : Nat) (hi : i < l.length) (n : Int) (rows : List (List Int)) (hr : rows.length = l.length) (hrl : (rows.getD i []).length ≤ 5) :
    F26.t29 ((i : Int), n, (i : Int), x.f0, x.f1, x.f2, x.f3, x.f4, x.f5, x.f6, x.f7, x.f8, x.f9, x.f10, x.f11, x.f12, x.f13, x.f14, l, idxL 0 l, rows) =
    some (match wr2 l x with | some w => .inl (6, [x.f0, w]) | none => .inr (n, (i : Int), l, idxL 0 l, bif isE x.f2 then rows else rows.set i (rows.getD i [] ++ [fi l x.f2]))) := by
  have e0 : ∀ s : ByteArray, (ByteArray.toList s == ByteArray.toList (ByteArray.mk (Array.mk ([] : List UInt8)))) = isE s := fun s => rfl
  obtain ⟨hk, _⟩ := feat_kind hx
  unfold wr2
  cases he : isE x.f2 with
  | true =>
    rw [he] at hk
    simp only [F26.t29, hk, Bool.not_true, cF, cT]
  | false =>
    rw [he] at hk
    have hmh : (idxL 0 l).any (kp x.f2) = (fndO x.f2 0 l).isSome := by rw [idx_any]; exact any_fnd
    have d1 : decide ((0 : Int) ≤ (i : Int)) = true := dT (by omega)
    have d2 : decide ((i : Int) < (rows.length : Int)) = true := dT (by omega)
    cases hf : fndO x.f2 0 l with
    | none =>
      rw [hf] at hmh
      simp only [F26.t29, hk, Bool.not_false, cT, cF, mhas_T, hmh, Option.isSome_none, Bool.not_true, Bool.true_or]
    | some k =>
      rw [hf] at hmh
      have hmf : (mfT z72 (kp x.f2) (idxL 0 l)).f1 = (k : Int) := idx_find hf
      have hkl := fndO_lt hf
      have hfi : fi l x.f2 = (k : Int) := by unfold fi; rw [hf]
      have d3 : decide ((0 : Int) ≤ (k : Int)) = true := dT (by omega)
      have d4 : decide ((k : Int) < (l.length : Int)) = true := dT (by omega)
      have d5 : decide (((rows.getD i []).length + ((k : Int) :: ([] : List Int)).length) ≤ 274877906944) = true := dT (by simp only [List.length_cons, List.length_nil]; omega)
      cases hc : (((l.getD k z53).f3 == 3) || !isE (l.getD k z53).f1) with
      | true =>
        simp only [F26.t29, hk, Bool.not_false, cT, cF, mhas_T, mfind_T, hmh, hmf, Option.isSome_some, Bool.not_true, Bool.false_or, d3, d4, Bool.and_self, Bool.or_true, Int.toNat_natCast, e0, hc]
      | false =>
        simp only [F26.t29, hk, Bool.not_false, cT, cF, mhas_T, mfind_T, hmh, hmf, Option.isSome_some, Bool.not_true, Bool.false_or, d1, d2, d3, d4, d5, Bool.and_self, Bool.or_true, Int.toNat_natCast, e0, hc, decTr, hfi]

theorem F26.l4_ok (l : List S53) (hl : l.length ≤ 5000) (hall : ∀ x ∈ l, featB x = true) : F26.l4 ((l.length : Int), 0, l, idxL 0 l, List.replicate l.length []) = some (Sum.elim (fun _ => .inr (l, rowsR l)) (fun q => .inl (6, [q.1.f0, q.2])) (goL (wrG l) l ())) := by
  have hz : upTo (tgR l) [] l 0 = List.replicate l.length [] := upTo_zero
  rw [← hz]
  exact lim_go (f := F26.l4.b) (fun i _ => ((l.length : Int), (i : Int), l, idxL 0 l, upTo (tgR l) [] l i)) l z53 (wrG l) (fun _ => True) (z := fun _ => .inr (l, rowsR l)) (o := fun q => .inl (6, [q.1.f0, q.2])) () trivial (fun _ _ _ _ _ _ => trivial)
    (fun i a hi _ => by
      have hx : featB (l.getD i z53) = true := hall _ (by rw [getD_lt hi]; exact List.getElem_mem hi)
      have hset := upTo_set (c := tgR l) (z := ([] : List Int)) (l := l) (d := z53) hi
      have hlen : (upTo (tgR l) ([] : List Int) l i).length = l.length := upTo_len (by omega)
      have hget : (upTo (tgR l) ([] : List Int) l i).getD i [] = [] := by
        have hlen2 : ((l.take i).map (tgR l)).length = i := by simp; omega
        unfold upTo
        rw [List.getD, List.getElem?_append_right (by omega), hlen2, Nat.sub_self, List.getElem?_replicate, if_pos (by omega)]
        rfl
      generalize upTo (tgR l) ([] : List Int) l i = rows at hset hlen hget
      generalize hxx : l.getD i z53 = x at hx hset
      have d : decide ((i : Int) < (l.length : Int)) = true := dT (by omega)
      have d2 : decide ((0 : Int) ≤ (i : Int)) = true := dT (by omega)
      have d3 : decide ((i : Int) < (rows.length : Int)) = true := dT (by omega)
      have w : Go.IntKind.wrap .i64 ((i : Int) + 1) = ((i + 1 : Nat) : Int) := by rw [w64 (by omega) (by omega)]; rfl
      have e0 : ∀ s : ByteArray, (ByteArray.toList s == ByteArray.toList (ByteArray.mk (Array.mk ([] : List UInt8)))) = isE s := fun s => rfl
      obtain ⟨hk, hk2⟩ := feat_kind hx
      unfold wrG wrO
      cases he : isE x.f1 with
      | true =>
        have t29 := F26.t29_ok l hl hx i hi (l.length : Int) rows hlen (by rw [hget]; simp)
        have htg : (bif isE x.f2 then rows else rows.set i (rows.getD i [] ++ [fi l x.f2])) = upTo (tgR l) ([] : List Int) l (i + 1) := by
          rw [← hset, hget]
          unfold tgR
          rw [he]
          cases isE x.f2 with
          | true => rw [cT, cT, cT]; show rows = rows.set i []; conv => lhs; rw [← set_self (l := rows) (i := i) (d := []), hget]
          | false => rfl
        rw [htg] at t29
        cases hw : wr2 l x with
        | some wd =>
          rw [hw] at t29
          simp only [F26.l4.b, d, d2, Bool.and_self, cT, cF, Int.toNat_natCast, hxx, e0, he, Bool.not_true, t29, bS, hw]
        | none =>
          rw [hw] at t29
          simp only [F26.l4.b, d, d2, Bool.and_self, cT, cF, Int.toNat_natCast, hxx, e0, he, Bool.not_true, t29, bS, hw, w]
      | false =>
        have he2 := hk2 he
        have hwr2 : wr2 l x = none := by unfold wr2; rw [he2]; rfl
        have hmh : (idxL 0 l).any (kp x.f1) = (fndO x.f1 0 l).isSome := by rw [idx_any]; exact any_fnd
        cases hf : fndO x.f1 0 l with
        | none =>
          rw [hf] at hmh
          simp only [F26.l4.b, d, d2, Bool.and_self, cT, cF, Int.toNat_natCast, hxx, e0, he, Bool.not_false, mhas_T, hmh, Option.isSome_none]
        | some k =>
          rw [hf] at hmh
          have hmf : (mfT z72 (kp x.f1) (idxL 0 l)).f1 = (k : Int) := idx_find hf
          have hfi : fi l x.f1 = (k : Int) := by unfold fi; rw [hf]
          have d5 : decide ((([] : List Int).length + ((k : Int) :: ([] : List Int)).length) ≤ 274877906944) = true := dT (by simp)
          have t29 := F26.t29_ok l hl hx i hi (l.length : Int) (rows.set i [(k : Int)]) (by simpa using hlen) (by rw [getD_set (by omega)]; simp)
          rw [hwr2, he2] at t29
          have htg : rows.set i [(k : Int)] = upTo (tgR l) ([] : List Int) l (i + 1) := by
            rw [← hset]
            unfold tgR
            rw [he, he2, hfi]
            rfl
          simp only [cT] at t29
          rw [htg] at t29
          simp only [F26.l4.b, d, d2, d3, Bool.and_self, cT, cF, Int.toNat_natCast, hxx, e0, he, Bool.not_false, Bool.not_true, mhas_T, mfind_T, hmh, hmf, Option.isSome_some, hget, d5, decTr, List.nil_append, htg, t29, bS, hwr2, w])
    (fun a _ => by
      have d : decide ((l.length : Int) < (l.length : Int)) = false := dF (by omega)
      simp only [F26.l4.b, d, cF, upTo_all]
      rfl)

/-- Each leads to one at most. -/
theorem rows_fg {l : List S53} (hl : l.length ≤ 1000) (hall : ∀ x ∈ l, featB x = true) (hw : ∀ x ∈ l, wrO l x = none) : FG (rowsR l) := by
  refine ⟨by unfold rowsR; simpa using hl, fun i => ?_⟩
  have hlen : (rowsR l).length = l.length := by simp [rowsR]
  by_cases hi : i < l.length
  · have e : (rowsR l).getD i [] = tgR l l[i] := by rw [getD_lt (by omega)]; simp [rowsR]
    rw [e, hlen]
    have hx := hall l[i] (List.getElem_mem hi)
    have hwx := hw l[i] (List.getElem_mem hi)
    generalize l[i] = x at hx hwx
    obtain ⟨_, hk⟩ := feat_kind hx
    unfold wrO at hwx
    unfold tgR
    cases he : isE x.f1 with
    | true =>
      rw [he, cT] at hwx
      cases he2 : isE x.f2 with
      | true => exact .inl rfl
      | false =>
        unfold wr2 at hwx
        rw [he2, cF] at hwx
        cases hf : fndO x.f2 0 l with
        | none => rw [hf] at hwx; cases hwx
        | some k =>
          have := fndO_lt hf
          exact .inr ⟨k, by omega, by unfold fi; rw [hf]; rfl⟩
    | false =>
      rw [he, cF] at hwx
      rw [hk he]
      cases hf : fndO x.f1 0 l with
      | none => rw [hf] at hwx; cases hwx
      | some k =>
        have := fndO_lt hf
        exact .inr ⟨k, by omega, by unfold fi; rw [hf]; rfl⟩
  · left
    rw [List.getD, List.getElem?_eq_none (by omega)]; rfl

/- The circle's numbers. -/
theorem circ_in {to : List (List Int)} (hg : FG to) {s : Nat} (hs : s < to.length) {r : List Int} (h : CircOf (nx to) s r) : (∀ x ∈ r, ∃ i : Nat, i < to.length ∧ x = (i : Int)) ∧ r.length ≤ to.length + 1 := by
  rcases h with ⟨rfl, _⟩ | ⟨m, rfl, h7⟩
  · exact ⟨fun x hx => by simp at hx, by simp⟩
  · have run : ∀ k, k ≤ m → ∃ b, it (nx to) k s = some b ∧ b < to.length := fun k hk => by
      cases hi : it (nx to) k s with
      | none => have := it_none hi (m + 1) (by omega); rw [(h7.2 (by omega)).1] at this; cases this
      | some b => exact ⟨b, rfl, hg.it_lt hs hi⟩
    refine ⟨fun x hx => ?_, ?_⟩
    · unfold pth at hx
      obtain ⟨k, hk, rfl⟩ := List.mem_map.1 hx
      obtain ⟨b, e, hb⟩ := run k (by have := List.mem_range.1 hk; omega)
      exact ⟨b, hb, by rw [e]; rfl⟩
    · rw [pth_len]
      apply Classical.byContradiction
      intro hc
      obtain ⟨p, q, hp, hq, hpq⟩ := pigeon to.length (fun k => (it (nx to) k s).getD 0) (fun k hk => by
        obtain ⟨b, e, hb⟩ := run k (by omega)
        rw [e]; exact hb)
      obtain ⟨x, ex, _⟩ := run p (by omega)
      obtain ⟨y, ey, _⟩ := run q (by omega)
      rw [ex, ey] at hpq
      have hxy : x = y := hpq
      subst hxy
      have e1 : it (nx to) (m + 1 - q) x = some s := by
        have := (h7.2 (by omega)).1
        rw [show m + 1 = q + (m + 1 - q) by omega, it_add, ey] at this
        exact this
      have e2 : it (nx to) (p + (m + 1 - q)) s = some s := by rw [it_add, ex]; exact e1
      exact (h7.2 (by omega)).2 (p + (m + 1 - q)) (by omega) (by omega) e2

theorem bestF_in {to : List (List Int)} (hg : FG to) : ∀ {m s : Nat} {b : List Int}, s + m = to.length → ((∀ x ∈ b, ∃ i : Nat, i < to.length ∧ x = (i : Int)) ∧ b.length ≤ to.length + 1) → (∀ x ∈ bestF to m s b, ∃ i : Nat, i < to.length ∧ x = (i : Int)) ∧ (bestF to m s b).length ≤ to.length + 1
  | 0, s, b, _, h => h
  | m + 1, s, b, hs, h => by
    refine bestF_in hg (m := m) (s := s + 1) (b := betC to b s) (by omega) ?_
    unfold betC
    split
    · exact circ_in hg (by omega) (circL_ok hg (by omega)).2
    · exact h

/-- Names of numbers. -/
def nmL (l : List S53) (r : List Int) : List ByteArray := r.map fun i => (l.getD i.toNat z53).f0

theorem F23.l6_ok {l : List S53} {to : List (List Int)} (hg : FG to) (hlt : to.length = l.length) : ∀ (m s : Nat) (b : List Int), s + m = to.length → F23.l6 ((s : Int), l, to, b) = some (l, to, bestF to m s b)
  | 0, s, b, hs => by
    have d : decide ((s : Int) < (l.length : Int)) = false := dF (by omega)
    unfold F23.l6
    exact lim_out (by simp only [F23.l6.b, d, cF, bestF])
  | m + 1, s, b, hs => by
    have hn0 := hg.n
    have d : decide ((s : Int) < (l.length : Int)) = true := dT (by omega)
    have w : Go.IntKind.wrap .i64 ((s : Int) + 1) = ((s + 1 : Nat) : Int) := by rw [w64 (by omega) (by omega)]; rfl
    have hc := (circL_ok hg (s := s) (by omega)).1
    have hcond : ((decide (((circL to s).length : Int) > 0)) && (((b.length : Int) == 0) || (decide (((circL to s).length : Int) < (b.length : Int))))) = decide ((circL to s).length > 0 ∧ (b.length = 0 ∨ (circL to s).length < b.length)) := by
      by_cases h1 : (circL to s).length > 0
      · rw [dT (show ((circL to s).length : Int) > 0 by omega), Bool.true_and]
        by_cases h2 : b.length = 0
        · rw [qT (show (b.length : Int) = 0 by omega), Bool.true_or, dT ⟨h1, .inl h2⟩]
        · rw [qF (show ¬ (b.length : Int) = 0 by omega), Bool.false_or]
          by_cases h3 : (circL to s).length < b.length
          · rw [dT (show ((circL to s).length : Int) < (b.length : Int) by omega), dT ⟨h1, .inr h3⟩]
          · rw [dF (show ¬ ((circL to s).length : Int) < (b.length : Int) by omega), dF (fun h => h.2.elim h2 h3)]
      · rw [dF (show ¬ ((circL to s).length : Int) > 0 by omega), Bool.false_and, dF (fun h => h1 h.1)]
    simp only [bestF]
    rw [← F23.l6_ok hg hlt m (s + 1) (betC to b s) (by omega)]
    unfold F23.l6 betC
    by_cases hcc : (circL to s).length > 0 ∧ (b.length = 0 ∨ (circL to s).length < b.length)
    · rw [dT hcc] at hcond
      rw [if_pos hcc]
      exact lim_in (by simp only [F23.l6.b, d, cT, hc, bS, hcond, w])
    · rw [dF hcc] at hcond
      rw [if_neg hcc]
      exact lim_in (by simp only [F23.l6.b, d, cT, cF, hc, bS, hcond, w])

theorem F23.l8_ok {l : List S53} {to : List (List Int)} {r : List Int} (hr : ∀ x ∈ r, ∃ i : Nat, i < l.length ∧ x = (i : Int)) (hrl : r.length ≤ 5000) : F23.l8 (0, l, to, r, []) = some (to, r, nmL l r) := by
  have := lim_run (f := F23.l8.b) (fun i => ((i : Int), l, to, r, (r.take i).map fun i => (l.getD i.toNat z53).f0)) r.length (y := (to, r, nmL l r)) (fun i hi => by
    obtain ⟨j, hj, e⟩ := hr (r.getD i 0) (by rw [getD_lt hi]; exact List.getElem_mem hi)
    have d : decide ((i : Int) < (r.length : Int)) = true := dT (by omega)
    have d2 : decide ((0 : Int) ≤ (i : Int)) = true := dT (by omega)
    have d3 : decide ((0 : Int) ≤ (j : Int)) = true := dT (by omega)
    have d4 : decide ((j : Int) < (l.length : Int)) = true := dT (by omega)
    have d5 : decide ((((r.take i).map fun i => (l.getD i.toNat z53).f0).length + ((l.getD j z53).f0 :: ([] : List ByteArray)).length) ≤ 274877906944) = true := dT (by simp only [List.length_map, List.length_take, List.length_cons, List.length_nil]; omega)
    have w : Go.IntKind.wrap .i64 ((i : Int) + 1) = ((i + 1 : Nat) : Int) := by rw [w64 (by omega) (by omega)]; rfl
    have hm := map_take_succ (f := fun i : Int => (l.getD i.toNat z53).f0) (d := 0) hi
    rw [e, Int.toNat_natCast] at hm
    simp only [F23.l8.b, d, d2, d3, d4, d5, Bool.and_self, cT, Int.toNat_natCast, e, hm, w])
    (by
      have d : decide ((r.length : Int) < (r.length : Int)) = false := dF (by omega)
      simp only [F23.l8.b, d, cF, List.take_length]
      rfl)
  exact this

theorem F26.l6_ok {l : List S53} {r : List Int} (hr : ∀ x ∈ r, ∃ i : Nat, i < l.length ∧ x = (i : Int)) (hrl : r.length ≤ 5000) : F26.l6 ((r.length : Int), 0, l, r, []) = some (nmL l r) := by
  have := lim_run (f := F26.l6.b) (fun i => ((r.length : Int), (i : Int), l, r, (r.take i).map fun i => (l.getD i.toNat z53).f0)) r.length (y := nmL l r) (fun i hi => by
    obtain ⟨j, hj, e⟩ := hr (r.getD i 0) (by rw [getD_lt hi]; exact List.getElem_mem hi)
    have d : decide ((i : Int) < (r.length : Int)) = true := dT (by omega)
    have d2 : decide ((0 : Int) ≤ (i : Int)) = true := dT (by omega)
    have d3 : decide ((0 : Int) ≤ (j : Int)) = true := dT (by omega)
    have d4 : decide ((j : Int) < (l.length : Int)) = true := dT (by omega)
    have d5 : decide ((((r.take i).map fun i => (l.getD i.toNat z53).f0).length + ((l.getD j z53).f0 :: ([] : List ByteArray)).length) ≤ 274877906944) = true := dT (by simp only [List.length_map, List.length_take, List.length_cons, List.length_nil]; omega)
    have w : Go.IntKind.wrap .i64 ((i : Int) + 1) = ((i + 1 : Nat) : Int) := by rw [w64 (by omega) (by omega)]; rfl
    have hm := map_take_succ (f := fun i : Int => (l.getD i.toNat z53).f0) (d := 0) hi
    rw [e, Int.toNat_natCast] at hm
    simp only [F26.l6.b, d, d2, d3, d4, d5, Bool.and_self, cT, Int.toNat_natCast, e, hm, w])
    (by
      have d : decide ((r.length : Int) < (r.length : Int)) = false := dF (by omega)
      simp only [F26.l6.b, d, cF, List.take_length]
      rfl)
  exact this
theorem F9.l0_ok {l : List S53} {r : List Int} (hr : ∀ x ∈ r, ∃ i : Nat, i < l.length ∧ x = (i : Int)) (hrl : r.length ≤ 5000) : F9.l0 ((r.length : Int), 0, l, r, []) = some (nmL l r) := by
  have := lim_run (f := F9.l0.b) (fun i => ((r.length : Int), (i : Int), l, r, (r.take i).map fun i => (l.getD i.toNat z53).f0)) r.length (y := nmL l r) (fun i hi => by
    obtain ⟨j, hj, e⟩ := hr (r.getD i 0) (by rw [getD_lt hi]; exact List.getElem_mem hi)
    have d : decide ((i : Int) < (r.length : Int)) = true := dT (by omega)
    have d2 : decide ((0 : Int) ≤ (i : Int)) = true := dT (by omega)
    have d3 : decide ((0 : Int) ≤ (j : Int)) = true := dT (by omega)
    have d4 : decide ((j : Int) < (l.length : Int)) = true := dT (by omega)
    have d5 : decide ((((r.take i).map fun i => (l.getD i.toNat z53).f0).length + ((l.getD j z53).f0 :: ([] : List ByteArray)).length) ≤ 274877906944) = true := dT (by simp only [List.length_map, List.length_take, List.length_cons, List.length_nil]; omega)
    have w : Go.IntKind.wrap .i64 ((i : Int) + 1) = ((i + 1 : Nat) : Int) := by rw [w64 (by omega) (by omega)]; rfl
    have hm := map_take_succ (f := fun i : Int => (l.getD i.toNat z53).f0) (d := 0) hi
    rw [e, Int.toNat_natCast] at hm
    simp only [F9.l0.b, d, d2, d3, d4, d5, Bool.and_self, cT, Int.toNat_natCast, e, hm, w])
    (by
      have d : decide ((r.length : Int) < (r.length : Int)) = false := dF (by omega)
      simp only [F9.l0.b, d, cF, List.take_length]
      rfl)
  exact this
theorem F7.l0_ok {l : List S53} {r : List Int} (hr : ∀ x ∈ r, ∃ i : Nat, i < l.length ∧ x = (i : Int)) (hrl : r.length ≤ 5000) : F7.l0 (0, l, r, []) = some (nmL l r) := by
  have := lim_run (f := F7.l0.b) (fun i => ((i : Int), l, r, (r.take i).map fun i => (l.getD i.toNat z53).f0)) r.length (y := nmL l r) (fun i hi => by
    obtain ⟨j, hj, e⟩ := hr (r.getD i 0) (by rw [getD_lt hi]; exact List.getElem_mem hi)
    have d : decide ((i : Int) < (r.length : Int)) = true := dT (by omega)
    have d2 : decide ((0 : Int) ≤ (i : Int)) = true := dT (by omega)
    have d3 : decide ((0 : Int) ≤ (j : Int)) = true := dT (by omega)
    have d4 : decide ((j : Int) < (l.length : Int)) = true := dT (by omega)
    have d5 : decide ((((r.take i).map fun i => (l.getD i.toNat z53).f0).length + ((l.getD j z53).f0 :: ([] : List ByteArray)).length) ≤ 274877906944) = true := dT (by simp only [List.length_map, List.length_take, List.length_cons, List.length_nil]; omega)
    have w : Go.IntKind.wrap .i64 ((i : Int) + 1) = ((i + 1 : Nat) : Int) := by rw [w64 (by omega) (by omega)]; rfl
    have hm := map_take_succ (f := fun i : Int => (l.getD i.toNat z53).f0) (d := 0) hi
    rw [e, Int.toNat_natCast] at hm
    simp only [F7.l0.b, d, d2, d3, d4, d5, Bool.and_self, cT, Int.toNat_natCast, e, hm, w])
    (by
      have d : decide ((r.length : Int) < (r.length : Int)) = false := dF (by omega)
      simp only [F7.l0.b, d, cF, List.take_length]
      rfl)
  exact this

/-- What is wrong with features. -/
noncomputable def errR (l : List S53) : Option (Int × List ByteArray) :=
  if l.length > 4096 then some (2, []) else if l.length > 30 then some (10, []) else
  match goL badG l () with
  | .inr x => some (1, [x.f0])
  | .inl _ => match dupG [] l with
    | some x => some (7, [x.f0])
    | none => match goL (wrG l) l () with
      | .inr q => some (6, [q.1.f0, q.2])
      | .inl _ => if (bestR (rowsR l)).length = 0 then none else some (9, nmL l (bestR (rowsR l)))

theorem errR_ne {l : List S53} {e : Int × List ByteArray} (h : errR l = some e) : e.1 ≠ 0 := by
  unfold errR at h
  split at h
  · injection h with h; subst h; simp
  · split at h
    · injection h with h; subst h; simp
    · split at h
      · injection h with h; subst h; simp
      · split at h
        · injection h with h; subst h; simp
        · split at h
          · injection h with h; subst h; simp
          · split at h
            · cases h
            · injection h with h; subst h; simp

theorem errR_none {l : List S53} (h : errR l = none) : l.length ≤ 30 ∧ FG (rowsR l) ∧ (bestR (rowsR l)).length = 0 := by
  unfold errR at h
  split at h
  · cases h
  · split at h
    · cases h
    · split at h
      · cases h
      · rename_i u hb
        split at h
        · cases h
        · split at h
          · cases h
          · rename_i u' hw
            split at h
            · rename_i hz
              exact ⟨by omega, rows_fg (by omega) (badG_all hb) (wrG_all hw), hz⟩
            · cases h

theorem F23.ok (l : List S53) : F23.F l = some (match errR l with | some e => ([], e.1, e.2) | none => (rowsR l, 0, [])) := by
  unfold errR
  by_cases h1 : l.length > 4096
  · have d : decide ((l.length : Int) > 4096) = true := dT (by omega)
    rw [if_pos h1]
    simp only [F23.F, d, cT]
  · have d : decide ((l.length : Int) > 4096) = false := dF (by omega)
    rw [if_neg h1]
    by_cases h2 : l.length > 30
    · have d2 : decide ((l.length : Int) > 30) = true := dT (by omega)
      rw [if_pos h2]
      simp only [F23.F, d, d2, cT, cF]
    · have d2 : decide ((l.length : Int) > 30) = false := dF (by omega)
      rw [if_neg h2]
      have l0 := F23.l0_ok l (by omega)
      cases hb : goL badG l () with
      | inr x => rw [hb] at l0; simp only [F23.F, d, d2, cF, l0, bS, Sum.elim_inr]
      | inl u =>
        rw [hb] at l0
        have l2 := F23.l2_ok l (by omega) l.length 0 (by omega)
        rw [show ((0 : Nat) : Int) = 0 from rfl, List.take_zero, List.drop_zero] at l2
        cases hd : dupG [] l with
        | some x => rw [hd] at l2; simp only [F23.F, d, d2, cF, l0, l2, bS, Sum.elim_inl]
        | none =>
          rw [hd] at l2
          have l4 := F23.l4_ok l (by omega)
          cases hw : goL (wrG l) l () with
          | inr q => rw [hw] at l4; simp only [F23.F, d, d2, cF, l0, l2, l4, bS, Sum.elim_inl, Sum.elim_inr]
          | inl u' =>
            rw [hw] at l4
            have hg := rows_fg (by omega) (badG_all hb) (wrG_all hw)
            have hlen : (rowsR l).length = l.length := by simp [rowsR]
            have l6 := F23.l6_ok (l := l) hg hlen (rowsR l).length 0 [] (by omega)
            rw [show ((0 : Nat) : Int) = 0 from rfl, show bestF (rowsR l) (rowsR l).length 0 [] = bestR (rowsR l) from rfl] at l6
            obtain ⟨hin, hbl⟩ := bestF_in hg (m := (rowsR l).length) (s := 0) (b := []) (by omega) ⟨fun x hx => by simp at hx, by simp⟩
            rw [show bestF (rowsR l) (rowsR l).length 0 [] = bestR (rowsR l) from rfl] at hin hbl
            rw [hlen] at hin hbl
            have l8 := F23.l8_ok (to := rowsR l) hin (by omega)
            by_cases hz : (bestR (rowsR l)).length = 0
            · have d3 : decide (((bestR (rowsR l)).length : Int) > 0) = false := dF (by omega)
              have hnil : bestR (rowsR l) = [] := List.length_eq_zero_iff.1 hz
              dsimp only
              rw [if_pos hz]
              simp only [F23.F, d, d2, cF, l0, l2, l4, l6, l8, bS, Sum.elim_inl, d3]
              rw [hnil]; rfl
            · have d3 : decide (((bestR (rowsR l)).length : Int) > 0) = true := dT (by omega)
              dsimp only
              rw [if_neg hz]
              simp only [F23.F, d, d2, cF, cT, l0, l2, l4, l6, l8, bS, Sum.elim_inl, d3]

theorem F26.ok (l : List S53) : F26.F l = some (match errR l with | some e => ([], e.1, e.2) | none => (ordR (rowsR l), 0, [])) := by
  unfold errR
  by_cases h1 : l.length > 4096
  · have d : decide ((l.length : Int) > 4096) = true := dT (by omega)
    rw [if_pos h1]
    simp only [F26.F, d, cT]
  · have d : decide ((l.length : Int) > 4096) = false := dF (by omega)
    rw [if_neg h1]
    by_cases h2 : l.length > 30
    · have d2 : decide ((l.length : Int) > 30) = true := dT (by omega)
      rw [if_pos h2]
      simp only [F26.F, d, d2, cT, cF]
    · have d2 : decide ((l.length : Int) > 30) = false := dF (by omega)
      rw [if_neg h2]
      have l0 := F26.l0_ok l (by omega)
      cases hb : goL badG l () with
      | inr x => rw [hb] at l0; simp only [F26.F, d, d2, cF, l0, bS, Sum.elim_inr]
      | inl u =>
        rw [hb] at l0
        have l2 := F26.l2_ok l (by omega) l.length 0 (by omega)
        rw [show ((0 : Nat) : Int) = 0 from rfl, List.take_zero, List.drop_zero, show idxL 0 ([] : List S53) = [] from rfl] at l2
        cases hd : dupG [] l with
        | some x => rw [hd] at l2; simp only [F26.F, d, d2, cF, l0, l2, bS, Sum.elim_inl]
        | none =>
          rw [hd] at l2
          have l4 := F26.l4_ok l (by omega) (badG_all hb)
          have d0 : (((decide (0 ≤ (l.length : Int))) && (decide ((l.length : Int) ≤ (l.length : Int)))) && (decide ((l.length : Int) ≤ 274877906944))) = true := by simp; omega
          cases hw : goL (wrG l) l () with
          | inr q => rw [hw] at l4; simp only [F26.F, d, d2, d0, cF, cT, Int.toNat_natCast, l0, l2, l4, bS, Sum.elim_inl, Sum.elim_inr]
          | inl u' =>
            rw [hw] at l4
            have hg := rows_fg (by omega) (badG_all hb) (wrG_all hw)
            have hlen : (rowsR l).length = l.length := by simp [rowsR]
            have f42 := F42.ok hg
            obtain ⟨hin, hbl⟩ := bestF_in hg (m := (rowsR l).length) (s := 0) (b := []) (by omega) ⟨fun x hx => by simp at hx, by simp⟩
            rw [show bestF (rowsR l) (rowsR l).length 0 [] = bestR (rowsR l) from rfl] at hin hbl
            rw [hlen] at hin hbl
            by_cases hz : (bestR (rowsR l)).length = 0
            · rw [if_pos hz] at f42
              have l8 := F26.l8_ok hg (no_circle hg hz) l hlen.symm (rowsR l).length [] (List.replicate (rowsR l).length false) (unseen_rep _) (by simp) (by simp)
              rw [show ordF (rowsR l) (rowsR l).length [] (List.replicate (rowsR l).length false) = ordR (rowsR l) from rfl, hlen] at l8
              dsimp only
              rw [if_pos hz]
              simp only [F26.F, d, d2, d0, cF, cT, Int.toNat_natCast, l0, l2, l4, f42, l8, bS, Sum.elim_inl]
            · rw [if_neg hz] at f42
              have l6 := F26.l6_ok (l := l) hin (by omega)
              have d3 : decide (0 < ((bestR (rowsR l)).length : Int)) = true := dT (by omega)
              dsimp only
              rw [if_neg hz]
              simp only [F26.F, d, d2, d0, d3, cF, cT, Int.toNat_natCast, l0, l2, l4, f42, l6, bS, Sum.elim_inl]

theorem ord_in {to : List (List Int)} : (∀ x ∈ ordR to, ∃ i : Nat, i < to.length ∧ x = (i : Int)) ∧ (ordR to).length ≤ to.length := by
  refine ⟨ordF_lt fun x hx => by simp at hx, ?_⟩
  have := ordF_len (to := to) (m := to.length) (order := []) (done := List.replicate to.length false)
  unfold ordR
  simpa using this

/-- What is answered of features. -/
noncomputable def ansR (l : List S53) : List ByteArray × Int × List ByteArray := match errR l with
  | some e => ([], e.1, e.2)
  | none => (nmL l (ordR (rowsR l)), 0, [])

theorem F7.ok (l : List S53) : F7.F l = some (ansR l) := by
  have f23 := F23.ok l
  unfold ansR
  cases he : errR l with
  | some e =>
    rw [he] at f23
    have q : (e.1 != 0) = true := nT (errR_ne he)
    simp only [F7.F, f23, bS, q, cT]
  | none =>
    rw [he] at f23
    obtain ⟨h1, hg, hz⟩ := errR_none he
    have hlen : (rowsR l).length = l.length := by simp [rowsR]
    have q : ((0 : Int) != 0) = false := rfl
    have f24 := F24.ok hg (no_circle hg hz)
    obtain ⟨o1, o2⟩ := ord_in (to := rowsR l)
    rw [hlen] at o1 o2
    have l0 := F7.l0_ok (l := l) o1 (by omega)
    simp only [F7.F, f23, bS, q, cF, f24, l0]

theorem F9.ok (l : List S53) : F9.F l = some (ansR l) := by
  have f26 := F26.ok l
  unfold ansR
  cases he : errR l with
  | some e =>
    rw [he] at f26
    have q : (e.1 != 0) = true := nT (errR_ne he)
    simp only [F9.F, f26, bS, q, cT]
  | none =>
    rw [he] at f26
    obtain ⟨h1, hg, hz⟩ := errR_none he
    have hlen : (rowsR l).length = l.length := by simp [rowsR]
    have q : ((0 : Int) != 0) = false := rfl
    obtain ⟨o1, o2⟩ := ord_in (to := rowsR l)
    rw [hlen] at o1 o2
    have l0 := F9.l0_ok (l := l) o1 (by omega)
    simp only [F9.F, f26, bS, q, cF, l0]

end Go.Proofs.YtiogkndjoinpoaaDoor.AX

/- The function 10 of the program in the small machine. No conditions. -/
namespace Go.Proofs.YtiogkndjoinpoaaDoor.AX.F10
open Go Go.Proofs.Tryd
noncomputable def code : Code := bodyOf f10
abbrev Y : Type := Bool
def cp : Cod uni ((List ByteArray) × (List ByteArray)) := (codC (iRow 1) (cod1 (iRow 1)))
def cr : Coz uni Bool := (cozR (cod1 iBool) (codD (codD cod0)))
noncomputable def es : List (Ent prog uni) := []
theorem get : prog.funcs[10]? = some f10 := by kernel_rfl

def l0.A : Ann := ⟨[(0, .slc 5000000 []), (1, .slc 5000064 []), (5, .sc)], [], [(5000000, false, 1), (5000064, false, 1)], []⟩
def l0.c : Cod uni (Int × (List ByteArray) × (List ByteArray)) := (codC (iInt .i64) (codC (iRow 1) (cod1 (iRow 1))))
def l0.xs : List (AExit × Ann) := [(.ret, ⟨[(4, .sc)], [], [], []⟩), ((.exit 0), ⟨[], [], [], []⟩)]
def l0.y : Coy uni (Bool ⊕ Unit) := (coyS (cod1 iBool) (coy1 cod0))
noncomputable def l0.b : Int × (List ByteArray) × (List ByteArray) → Option ((Int × (List ByteArray) × (List ByteArray)) ⊕ (Bool ⊕ Unit))
  | (v5, r0, r64) =>
  let x0 := (decide (v5 < ((List.length r0) : Int)))
  cond x0 (
   cond ((decide (0 ≤ v5)) && x0) (
    cond ((decide (0 ≤ v5)) && (decide (v5 < ((List.length r64) : Int)))) (
     cond (!((ByteArray.toList (List.getD r0 (Int.toNat v5) (ByteArray.mk (Array.mk ([] : List UInt8))))) == (ByteArray.toList (List.getD r64 (Int.toNat v5) (ByteArray.mk (Array.mk ([] : List UInt8))))))) (
      some (.inr (.inl false))) (
      some (.inl ((Go.IntKind.wrap (Go.IntKind.i64 ) (v5 + 1)), r0, r64)))) none) none) (
   some (.inr (.inr ())))
noncomputable def l0 (x : Int × (List ByteArray) × (List ByteArray)) : Option (Bool ⊕ Unit) := lim l0.b x
theorem l0.eq : ∀ x, l0.b x = roundX (mkE tab es 26 [] []) (loopAt 0 code) (cutOf l0.A l0.c) (cutsOf l0.xs l0.y) x := fun x => by kernel_rfl
theorem l0.owed {R : Type} : owed (mkE (R := R) tab es 26 [] []) (loopAt 0 code) = [] := by kernel_rfl
theorem l0.ok (w0 : World) (M : Own) (h : Pinned M []) {R : Type} : SoundO prog w0 M 26 (.block 0 (.loop (loopAt 0 code))) (loopO (R := R) 0 (cutOf l0.A l0.c) (cutsOf l0.xs l0.y) l0) :=
  loop_ok tabOk uniOk mixed l0.eq (h.sub rfl) (h.sub rfl) fun x hx => by rw [l0.owed] at hx; exact absurd hx List.not_mem_nil

noncomputable def F : ((List ByteArray) × (List ByteArray)) → Option (Bool)
  | (p0, p1) =>
  cond (((List.length p0) : Int) != ((List.length p1) : Int)) (
   some false) (
   (l0 (0, p0, p1)).bind fun q => match q with
   | (.inl yl0) =>
    some yl0
   | (.inr yl0) =>
    some true)
theorem F.eq : ∀ x, F x = runF (mkE tab es 26 [(0, some (loopO 0 (cutOf l0.A l0.c) (cutsOf l0.xs l0.y) l0))] []) code [.row 1 0, .row 1 0] [.sc] [.tmp 4] (Coz.dec cr) (cp.enc x) := fun x => by kernel_rfl
theorem F.owed : owed (mkE (R := Bool) tab es 26 [(0, some (loopO 0 (cutOf l0.A l0.c) (cutsOf l0.xs l0.y) l0))] []) code = [((.block 0 (.loop (loopAt 0 code))), (loopO (R := _) 0 (cutOf l0.A l0.c) (cutsOf l0.xs l0.y) l0))] := by kernel_rfl
theorem con : ∀ x y, F x = some y → Con prog 10 [.row 1 0, .row 1 0] [.sc] (cp.enc x) (cr.enc y).1 (cr.enc y).2 :=
  func_ok (c := code) (n := 26) (pf := [.row 1 0, .row 1 0]) (res := [.tmp 4]) tabOk uniOk mixed get (by kernel_rfl) (by kernel_rfl) (by kernel_rfl) (by decide) F.eq fun w0 M h x hx => by rw [F.owed] at hx; rcases List.mem_cons.1 hx with rfl | hx; exact l0.ok w0 M h; exact absurd hx List.not_mem_nil
noncomputable def ent : Ent prog uni := Ent.of 10 [.row 1 0, .row 1 0] [.sc] cp cr F con fun args w => enters_of get (by kernel_rfl) rfl args w
end Go.Proofs.YtiogkndjoinpoaaDoor.AX.F10

/- The function 13 of the program in the small machine. No conditions. -/
namespace Go.Proofs.YtiogkndjoinpoaaDoor.AX.F13
open Go Go.Proofs.Tryd
noncomputable def code : Code := bodyOf f13
abbrev Y : Type := (Int × ((List ByteArray) × Unit))
def cp : Cod uni ((List ByteArray) × Int) := (codC (iRow 1) (cod1 (iInt .i64)))
def cr : Coz uni (Int × ((List ByteArray) × Unit)) := (cozRM (cod1 (iInt .i64)) (codC (iRow 1) (codD cod0)))
noncomputable def es : List (Ent prog uni) := [F28.ent]
theorem get : prog.funcs[13]? = some f13 := by kernel_rfl

def l0.A : Ann := ⟨[(0, .slc 4194304 []), (1, .sc), (5, .sc)], [], [(4194304, true, 1)], [4194304]⟩
def l0.c : Cod uni (Int × Int × (List ByteArray)) := (codC (iInt .i64) (codC (iInt .i64) (cod1 (iRow 1))))
def l0.xs : List (AExit × Ann) := [((.exit 0), ⟨[(0, .slc 4194304 []), (1, .sc)], [], [(4194304, true, 1)], [4194304]⟩)]
def l0.y : Coy uni ((Int × (List ByteArray))) := (coy1 (codC (iInt .i64) (cod1 (iRow 1))))
noncomputable def l0.b : Int × Int × (List ByteArray) → Option ((Int × Int × (List ByteArray)) ⊕ ((Int × (List ByteArray))))
  | (v1, v5, r94304) =>
  let x0 := (decide (v5 < ((List.length r94304) : Int)))
  cond x0 (
   (F28.F v1).bind fun y28 =>
   cond ((decide (0 ≤ v5)) && x0) (
    some (.inl ((Go.IntKind.wrap (Go.IntKind.i64 ) (v1 + 1)), (Go.IntKind.wrap (Go.IntKind.i64 ) (v5 + 1)), (List.set r94304 (Int.toNat v5) y28)))) none) (
   some (.inr (v1, r94304)))
noncomputable def l0 (x : Int × Int × (List ByteArray)) : Option ((Int × (List ByteArray))) := lim l0.b x
theorem l0.eq : ∀ x, l0.b x = roundX (mkE tab es 20 [] []) (loopAt 0 code) (cutOf l0.A l0.c) (cutsOf l0.xs l0.y) x := fun x => by kernel_rfl
theorem l0.owed {R : Type} : owed (mkE (R := R) tab es 20 [] []) (loopAt 0 code) = [] := by kernel_rfl
theorem l0.ok (w0 : World) (M : Own) (h : Pinned M [4194304]) {R : Type} : SoundO prog w0 M 20 (.block 0 (.loop (loopAt 0 code))) (loopO (R := R) 0 (cutOf l0.A l0.c) (cutsOf l0.xs l0.y) l0) :=
  loop_ok tabOk uniOk mixed l0.eq (h.sub rfl) (h.sub rfl) fun x hx => by rw [l0.owed] at hx; exact absurd hx List.not_mem_nil

noncomputable def F : ((List ByteArray) × Int) → Option ((Int × ((List ByteArray) × Unit)))
  | (p0, p1) =>
  (l0 (p1, 0, p0)).bind fun yl0 =>
  some (yl0.1, (yl0.2, ()))
theorem F.eq : ∀ x, F x = runF (mkE tab es 20 [(0, some (loopO 0 (cutOf l0.A l0.c) (cutsOf l0.xs l0.y) l0))] []) code [.row 1 1, .sc] [.sc] [.tmp 4] (Coz.dec cr) (cp.enc x) := fun x => by kernel_rfl
theorem F.owed : owed (mkE (R := (Int × ((List ByteArray) × Unit))) tab es 20 [(0, some (loopO 0 (cutOf l0.A l0.c) (cutsOf l0.xs l0.y) l0))] []) code = [((.block 0 (.loop (loopAt 0 code))), (loopO (R := _) 0 (cutOf l0.A l0.c) (cutsOf l0.xs l0.y) l0))] := by kernel_rfl
theorem con : ∀ x y, F x = some y → Con prog 13 [.row 1 1, .sc] [.sc] (cp.enc x) (cr.enc y).1 (cr.enc y).2 :=
  func_ok (c := code) (n := 20) (pf := [.row 1 1, .sc]) (res := [.tmp 4]) tabOk uniOk mixed get (by kernel_rfl) (by kernel_rfl) (by kernel_rfl) (by decide) F.eq fun w0 M h x hx => by rw [F.owed] at hx; rcases List.mem_cons.1 hx with rfl | hx; exact l0.ok w0 M h; exact absurd hx List.not_mem_nil
noncomputable def ent : Ent prog uni := Ent.of 13 [.row 1 1, .sc] [.sc] cp cr F con fun args w => enters_of get (by kernel_rfl) rfl args w
end Go.Proofs.YtiogkndjoinpoaaDoor.AX.F13

/- The function 14 of the program in the small machine. No conditions. -/
namespace Go.Proofs.YtiogkndjoinpoaaDoor.AX.F14
open Go Go.Proofs.Tryd
noncomputable def code : Code := bodyOf f14
abbrev Y : Type := Int
def cp : Cod uni ((List ByteArray) × Int) := (codC (iRow 1) (cod1 (iInt .i64)))
def cr : Coz uni Int := (cozR (cod1 (iInt .i64)) (codD (codD cod0)))
noncomputable def es : List (Ent prog uni) := [F28.ent]
theorem get : prog.funcs[14]? = some f14 := by kernel_rfl

def l0.A : Ann := ⟨[(0, .slc 5000000 []), (1, .sc), (5, .sc)], [], [(5000000, false, 1)], []⟩
def l0.c : Cod uni (Int × Int × (List ByteArray)) := (codC (iInt .i64) (codC (iInt .i64) (cod1 (iRow 1))))
def l0.xs : List (AExit × Ann) := [(.ret, ⟨[(4, .sc)], [], [], []⟩), ((.exit 0), ⟨[(1, .sc)], [], [], []⟩)]
def l0.y : Coy uni (Int ⊕ Int) := (coyS (cod1 (iInt .i64)) (coy1 (cod1 (iInt .i64))))
noncomputable def l0.b : Int × Int × (List ByteArray) → Option ((Int × Int × (List ByteArray)) ⊕ (Int ⊕ Int))
  | (v1, v5, r0) =>
  let x0 := (decide (v5 < ((List.length r0) : Int)))
  cond x0 (
   cond ((decide (0 ≤ v5)) && x0) (
    (F28.F v1).bind fun y28 =>
    cond (!((ByteArray.toList (List.getD r0 (Int.toNat v5) (ByteArray.mk (Array.mk ([] : List UInt8))))) == (ByteArray.toList y28))) (
     some (.inr (.inl (-1)))) (
     some (.inl ((Go.IntKind.wrap (Go.IntKind.i64 ) (v1 + 1)), (Go.IntKind.wrap (Go.IntKind.i64 ) (v5 + 1)), r0)))) none) (
   some (.inr (.inr v1)))
noncomputable def l0 (x : Int × Int × (List ByteArray)) : Option (Int ⊕ Int) := lim l0.b x
theorem l0.eq : ∀ x, l0.b x = roundX (mkE tab es 22 [] []) (loopAt 0 code) (cutOf l0.A l0.c) (cutsOf l0.xs l0.y) x := fun x => by kernel_rfl
theorem l0.owed {R : Type} : owed (mkE (R := R) tab es 22 [] []) (loopAt 0 code) = [] := by kernel_rfl
theorem l0.ok (w0 : World) (M : Own) (h : Pinned M []) {R : Type} : SoundO prog w0 M 22 (.block 0 (.loop (loopAt 0 code))) (loopO (R := R) 0 (cutOf l0.A l0.c) (cutsOf l0.xs l0.y) l0) :=
  loop_ok tabOk uniOk mixed l0.eq (h.sub rfl) (h.sub rfl) fun x hx => by rw [l0.owed] at hx; exact absurd hx List.not_mem_nil

noncomputable def F : ((List ByteArray) × Int) → Option (Int)
  | (p0, p1) =>
  (l0 (p1, 0, p0)).bind fun q => match q with
  | (.inl yl0) =>
   some yl0
  | (.inr yl0) =>
   some yl0
theorem F.eq : ∀ x, F x = runF (mkE tab es 22 [(0, some (loopO 0 (cutOf l0.A l0.c) (cutsOf l0.xs l0.y) l0))] []) code [.row 1 0, .sc] [.sc] [.tmp 4] (Coz.dec cr) (cp.enc x) := fun x => by kernel_rfl
theorem F.owed : owed (mkE (R := Int) tab es 22 [(0, some (loopO 0 (cutOf l0.A l0.c) (cutsOf l0.xs l0.y) l0))] []) code = [((.block 0 (.loop (loopAt 0 code))), (loopO (R := _) 0 (cutOf l0.A l0.c) (cutsOf l0.xs l0.y) l0))] := by kernel_rfl
theorem con : ∀ x y, F x = some y → Con prog 14 [.row 1 0, .sc] [.sc] (cp.enc x) (cr.enc y).1 (cr.enc y).2 :=
  func_ok (c := code) (n := 22) (pf := [.row 1 0, .sc]) (res := [.tmp 4]) tabOk uniOk mixed get (by kernel_rfl) (by kernel_rfl) (by kernel_rfl) (by decide) F.eq fun w0 M h x hx => by rw [F.owed] at hx; rcases List.mem_cons.1 hx with rfl | hx; exact l0.ok w0 M h; exact absurd hx List.not_mem_nil
noncomputable def ent : Ent prog uni := Ent.of 14 [.row 1 0, .sc] [.sc] cp cr F con fun args w => enters_of get (by kernel_rfl) rfl args w
end Go.Proofs.YtiogkndjoinpoaaDoor.AX.F14

/- The function 3 of the program in the small machine. No conditions. -/
namespace Go.Proofs.YtiogkndjoinpoaaDoor.AX.F3
open Go Go.Proofs.Tryd
noncomputable def code : Code := bodyOf f3
abbrev Y : Type := Bool
def cp : Cod uni (List S45) := (cod1 (iRow 0))
def cr : Coz uni Bool := (cozR (cod1 iBool) (codD cod0))
noncomputable def es : List (Ent prog uni) := [F6.ent, F8.ent, F7.ent, F9.ent, F10.ent, F11.ent, F12.ent, F13.ent, F14.ent]
theorem get : prog.funcs[3]? = some f3 := by kernel_rfl

noncomputable def F : (List S45) → Option (Bool)
  | p0 =>
  (F6.F (p0, 1048576)).bind fun y6 =>
  cond (decide (y6 < 0)) (
   some true) (
   (F8.F p0).bind fun y8 =>
   (F7.F y8).bind fun y7 =>
   (F8.F p0).bind fun y8x2 =>
   (F9.F y8x2).bind fun y9 =>
   (F10.F (y9.1, y7.1)).bind fun y10 =>
   let x7 := ((!y10) || (y9.2.1 != y7.2.1))
   let x8 := (F10.F (y9.2.2, y7.2.2))
   cond (!x7) (
    x8.bind fun y10x2 =>
    cond (x7 || (!y10x2)) (
     some false) (
     (F8.F p0).bind fun y8x3 =>
     (F11.F (y8x2, y8x3)).bind fun y11 =>
     cond (!y11) (
      some false) (
      (F12.F (y8x2, 1)).bind fun y12 =>
      cond (!(decide (y12.1 < 0))) (
       (F10.F (y9.1, y7.1)).bind fun y10x3 =>
       let x0 := (((decide (y12.1 < 0)) || (!y10x3)) || (y9.2.1 != y7.2.1))
       cond (!x0) (
        x8.bind fun y10x4 =>
        cond (x0 || (!y10x4)) (
         some false) (
         (F13.F (y9.1, 1)).bind fun y13 =>
         (F13.F (y9.2.2, y13.1)).bind fun y13x2 =>
         (F14.F (y13.2.1, 1)).bind fun y14 =>
         cond (decide (y14 < 0)) (
          some false) (
          (F14.F (y13x2.2.1, y14)).bind fun y14x2 =>
          cond (decide (y14x2 < 0)) (
           some false) (
           cond (y14x2 != y13x2.1) (
            some false) (
            (F8.F p0).bind fun y8x4 =>
            (F9.F y8x4).bind fun y9x2 =>
            (F10.F (y9x2.1, y7.1)).bind fun y10x5 =>
            let x3 := ((!y10x5) || (y9x2.2.1 != y7.2.1))
            cond (!x3) (
             (F10.F (y9x2.2.2, y7.2.2)).bind fun y10x6 =>
             cond (x3 || (!y10x6)) (
              some false) (
              (F14.F (y13.2.1, 1)).bind fun y14x3 =>
              cond (decide (y14x3 < 0)) (
               some false) (
               (F14.F (y13x2.2.1, y14x3)).bind fun y14x4 =>
               cond (decide (y14x4 < 0)) (
                some false) (
                cond (y14x4 != y13x2.1) (
                 some false) (
                 some true))))) (
             cond (x3 || true) (
              some false) (
              (F14.F (y13.2.1, 1)).bind fun y14x3 =>
              cond (decide (y14x3 < 0)) (
               some false) (
               (F14.F (y13x2.2.1, y14x3)).bind fun y14x4 =>
               cond (decide (y14x4 < 0)) (
                some false) (
                cond (y14x4 != y13x2.1) (
                 some false) (
                 some true)))))))))) (
        cond (x0 || true) (
         some false) (
         (F13.F (y9.1, 1)).bind fun y13 =>
         (F13.F (y9.2.2, y13.1)).bind fun y13x2 =>
         (F14.F (y13.2.1, 1)).bind fun y14 =>
         cond (decide (y14 < 0)) (
          some false) (
          (F14.F (y13x2.2.1, y14)).bind fun y14x2 =>
          cond (decide (y14x2 < 0)) (
           some false) (
           cond (y14x2 != y13x2.1) (
            some false) (
            (F8.F p0).bind fun y8x4 =>
            (F9.F y8x4).bind fun y9x2 =>
            (F10.F (y9x2.1, y7.1)).bind fun y10x4 =>
            let x4 := ((!y10x4) || (y9x2.2.1 != y7.2.1))
            cond (!x4) (
             (F10.F (y9x2.2.2, y7.2.2)).bind fun y10x5 =>
             cond (x4 || (!y10x5)) (
              some false) (
              (F14.F (y13.2.1, 1)).bind fun y14x3 =>
              cond (decide (y14x3 < 0)) (
               some false) (
               (F14.F (y13x2.2.1, y14x3)).bind fun y14x4 =>
               cond (decide (y14x4 < 0)) (
                some false) (
                cond (y14x4 != y13x2.1) (
                 some false) (
                 some true))))) (
             cond (x4 || true) (
              some false) (
              (F14.F (y13.2.1, 1)).bind fun y14x3 =>
              cond (decide (y14x3 < 0)) (
               some false) (
               (F14.F (y13x2.2.1, y14x3)).bind fun y14x4 =>
               cond (decide (y14x4 < 0)) (
                some false) (
                cond (y14x4 != y13x2.1) (
                 some false) (
                 some true))))))))))) (
       let x2 := (((decide (y12.1 < 0)) || true) || (y9.2.1 != y7.2.1))
       cond (!x2) (
        x8.bind fun y10x3 =>
        cond (x2 || (!y10x3)) (
         some false) (
         (F13.F (y9.1, 1)).bind fun y13 =>
         (F13.F (y9.2.2, y13.1)).bind fun y13x2 =>
         (F14.F (y13.2.1, 1)).bind fun y14 =>
         cond (decide (y14 < 0)) (
          some false) (
          (F14.F (y13x2.2.1, y14)).bind fun y14x2 =>
          cond (decide (y14x2 < 0)) (
           some false) (
           cond (y14x2 != y13x2.1) (
            some false) (
            (F8.F p0).bind fun y8x4 =>
            (F9.F y8x4).bind fun y9x2 =>
            (F10.F (y9x2.1, y7.1)).bind fun y10x4 =>
            let x4 := ((!y10x4) || (y9x2.2.1 != y7.2.1))
            cond (!x4) (
             (F10.F (y9x2.2.2, y7.2.2)).bind fun y10x5 =>
             cond (x4 || (!y10x5)) (
              some false) (
              (F14.F (y13.2.1, 1)).bind fun y14x3 =>
              cond (decide (y14x3 < 0)) (
               some false) (
               (F14.F (y13x2.2.1, y14x3)).bind fun y14x4 =>
               cond (decide (y14x4 < 0)) (
                some false) (
                cond (y14x4 != y13x2.1) (
                 some false) (
                 some true))))) (
             cond (x4 || true) (
              some false) (
              (F14.F (y13.2.1, 1)).bind fun y14x3 =>
              cond (decide (y14x3 < 0)) (
               some false) (
               (F14.F (y13x2.2.1, y14x3)).bind fun y14x4 =>
               cond (decide (y14x4 < 0)) (
                some false) (
                cond (y14x4 != y13x2.1) (
                 some false) (
                 some true)))))))))) (
        cond (x2 || true) (
         some false) (
         (F13.F (y9.1, 1)).bind fun y13 =>
         (F13.F (y9.2.2, y13.1)).bind fun y13x2 =>
         (F14.F (y13.2.1, 1)).bind fun y14 =>
         cond (decide (y14 < 0)) (
          some false) (
          (F14.F (y13x2.2.1, y14)).bind fun y14x2 =>
          cond (decide (y14x2 < 0)) (
           some false) (
           cond (y14x2 != y13x2.1) (
            some false) (
            (F8.F p0).bind fun y8x4 =>
            (F9.F y8x4).bind fun y9x2 =>
            (F10.F (y9x2.1, y7.1)).bind fun y10x3 =>
            let x5 := ((!y10x3) || (y9x2.2.1 != y7.2.1))
            cond (!x5) (
             (F10.F (y9x2.2.2, y7.2.2)).bind fun y10x4 =>
             cond (x5 || (!y10x4)) (
              some false) (
              (F14.F (y13.2.1, 1)).bind fun y14x3 =>
              cond (decide (y14x3 < 0)) (
               some false) (
               (F14.F (y13x2.2.1, y14x3)).bind fun y14x4 =>
               cond (decide (y14x4 < 0)) (
                some false) (
                cond (y14x4 != y13x2.1) (
                 some false) (
                 some true))))) (
             cond (x5 || true) (
              some false) (
              (F14.F (y13.2.1, 1)).bind fun y14x3 =>
              cond (decide (y14x3 < 0)) (
               some false) (
               (F14.F (y13x2.2.1, y14x3)).bind fun y14x4 =>
               cond (decide (y14x4 < 0)) (
                some false) (
                cond (y14x4 != y13x2.1) (
                 some false) (
                 some true)))))))))))))) (
    cond (x7 || true) (
     some false) (
     (F8.F p0).bind fun y8x3 =>
     (F11.F (y8x2, y8x3)).bind fun y11 =>
     cond (!y11) (
      some false) (
      (F12.F (y8x2, 1)).bind fun y12 =>
      cond (!(decide (y12.1 < 0))) (
       (F10.F (y9.1, y7.1)).bind fun y10x2 =>
       let x1 := (((decide (y12.1 < 0)) || (!y10x2)) || (y9.2.1 != y7.2.1))
       cond (!x1) (
        x8.bind fun y10x3 =>
        cond (x1 || (!y10x3)) (
         some false) (
         (F13.F (y9.1, 1)).bind fun y13 =>
         (F13.F (y9.2.2, y13.1)).bind fun y13x2 =>
         (F14.F (y13.2.1, 1)).bind fun y14 =>
         cond (decide (y14 < 0)) (
          some false) (
          (F14.F (y13x2.2.1, y14)).bind fun y14x2 =>
          cond (decide (y14x2 < 0)) (
           some false) (
           cond (y14x2 != y13x2.1) (
            some false) (
            (F8.F p0).bind fun y8x4 =>
            (F9.F y8x4).bind fun y9x2 =>
            (F10.F (y9x2.1, y7.1)).bind fun y10x4 =>
            let x4 := ((!y10x4) || (y9x2.2.1 != y7.2.1))
            cond (!x4) (
             (F10.F (y9x2.2.2, y7.2.2)).bind fun y10x5 =>
             cond (x4 || (!y10x5)) (
              some false) (
              (F14.F (y13.2.1, 1)).bind fun y14x3 =>
              cond (decide (y14x3 < 0)) (
               some false) (
               (F14.F (y13x2.2.1, y14x3)).bind fun y14x4 =>
               cond (decide (y14x4 < 0)) (
                some false) (
                cond (y14x4 != y13x2.1) (
                 some false) (
                 some true))))) (
             cond (x4 || true) (
              some false) (
              (F14.F (y13.2.1, 1)).bind fun y14x3 =>
              cond (decide (y14x3 < 0)) (
               some false) (
               (F14.F (y13x2.2.1, y14x3)).bind fun y14x4 =>
               cond (decide (y14x4 < 0)) (
                some false) (
                cond (y14x4 != y13x2.1) (
                 some false) (
                 some true)))))))))) (
        cond (x1 || true) (
         some false) (
         (F13.F (y9.1, 1)).bind fun y13 =>
         (F13.F (y9.2.2, y13.1)).bind fun y13x2 =>
         (F14.F (y13.2.1, 1)).bind fun y14 =>
         cond (decide (y14 < 0)) (
          some false) (
          (F14.F (y13x2.2.1, y14)).bind fun y14x2 =>
          cond (decide (y14x2 < 0)) (
           some false) (
           cond (y14x2 != y13x2.1) (
            some false) (
            (F8.F p0).bind fun y8x4 =>
            (F9.F y8x4).bind fun y9x2 =>
            (F10.F (y9x2.1, y7.1)).bind fun y10x3 =>
            let x5 := ((!y10x3) || (y9x2.2.1 != y7.2.1))
            cond (!x5) (
             (F10.F (y9x2.2.2, y7.2.2)).bind fun y10x4 =>
             cond (x5 || (!y10x4)) (
              some false) (
              (F14.F (y13.2.1, 1)).bind fun y14x3 =>
              cond (decide (y14x3 < 0)) (
               some false) (
               (F14.F (y13x2.2.1, y14x3)).bind fun y14x4 =>
               cond (decide (y14x4 < 0)) (
                some false) (
                cond (y14x4 != y13x2.1) (
                 some false) (
                 some true))))) (
             cond (x5 || true) (
              some false) (
              (F14.F (y13.2.1, 1)).bind fun y14x3 =>
              cond (decide (y14x3 < 0)) (
               some false) (
               (F14.F (y13x2.2.1, y14x3)).bind fun y14x4 =>
               cond (decide (y14x4 < 0)) (
                some false) (
                cond (y14x4 != y13x2.1) (
                 some false) (
                 some true))))))))))) (
       let x2 := (((decide (y12.1 < 0)) || true) || (y9.2.1 != y7.2.1))
       cond (!x2) (
        x8.bind fun y10x2 =>
        cond (x2 || (!y10x2)) (
         some false) (
         (F13.F (y9.1, 1)).bind fun y13 =>
         (F13.F (y9.2.2, y13.1)).bind fun y13x2 =>
         (F14.F (y13.2.1, 1)).bind fun y14 =>
         cond (decide (y14 < 0)) (
          some false) (
          (F14.F (y13x2.2.1, y14)).bind fun y14x2 =>
          cond (decide (y14x2 < 0)) (
           some false) (
           cond (y14x2 != y13x2.1) (
            some false) (
            (F8.F p0).bind fun y8x4 =>
            (F9.F y8x4).bind fun y9x2 =>
            (F10.F (y9x2.1, y7.1)).bind fun y10x3 =>
            let x5 := ((!y10x3) || (y9x2.2.1 != y7.2.1))
            cond (!x5) (
             (F10.F (y9x2.2.2, y7.2.2)).bind fun y10x4 =>
             cond (x5 || (!y10x4)) (
              some false) (
              (F14.F (y13.2.1, 1)).bind fun y14x3 =>
              cond (decide (y14x3 < 0)) (
               some false) (
               (F14.F (y13x2.2.1, y14x3)).bind fun y14x4 =>
               cond (decide (y14x4 < 0)) (
                some false) (
                cond (y14x4 != y13x2.1) (
                 some false) (
                 some true))))) (
             cond (x5 || true) (
              some false) (
              (F14.F (y13.2.1, 1)).bind fun y14x3 =>
              cond (decide (y14x3 < 0)) (
               some false) (
               (F14.F (y13x2.2.1, y14x3)).bind fun y14x4 =>
               cond (decide (y14x4 < 0)) (
                some false) (
                cond (y14x4 != y13x2.1) (
                 some false) (
                 some true)))))))))) (
        cond (x2 || true) (
         some false) (
         (F13.F (y9.1, 1)).bind fun y13 =>
         (F13.F (y9.2.2, y13.1)).bind fun y13x2 =>
         (F14.F (y13.2.1, 1)).bind fun y14 =>
         cond (decide (y14 < 0)) (
          some false) (
          (F14.F (y13x2.2.1, y14)).bind fun y14x2 =>
          cond (decide (y14x2 < 0)) (
           some false) (
           cond (y14x2 != y13x2.1) (
            some false) (
            (F8.F p0).bind fun y8x4 =>
            (F9.F y8x4).bind fun y9x2 =>
            (F10.F (y9x2.1, y7.1)).bind fun y10x2 =>
            let x6 := ((!y10x2) || (y9x2.2.1 != y7.2.1))
            cond (!x6) (
             (F10.F (y9x2.2.2, y7.2.2)).bind fun y10x3 =>
             cond (x6 || (!y10x3)) (
              some false) (
              (F14.F (y13.2.1, 1)).bind fun y14x3 =>
              cond (decide (y14x3 < 0)) (
               some false) (
               (F14.F (y13x2.2.1, y14x3)).bind fun y14x4 =>
               cond (decide (y14x4 < 0)) (
                some false) (
                cond (y14x4 != y13x2.1) (
                 some false) (
                 some true))))) (
             cond (x6 || true) (
              some false) (
              (F14.F (y13.2.1, 1)).bind fun y14x3 =>
              cond (decide (y14x3 < 0)) (
               some false) (
               (F14.F (y13x2.2.1, y14x3)).bind fun y14x4 =>
               cond (decide (y14x4 < 0)) (
                some false) (
                cond (y14x4 != y13x2.1) (
                 some false) (
                 some true)))))))))))))))
theorem F.eq : ∀ x, F x = runF (mkE tab es 133 [] []) code [.row 0 0] [.sc] [.tmp 2] (Coz.dec cr) (cp.enc x) := fun x => by kernel_rfl
theorem F.owed : owed (mkE (R := Bool) tab es 133 [] []) code = [] := by kernel_rfl
theorem con : ∀ x y, F x = some y → Con prog 3 [.row 0 0] [.sc] (cp.enc x) (cr.enc y).1 (cr.enc y).2 :=
  func_ok (c := code) (n := 133) (pf := [.row 0 0]) (res := [.tmp 2]) tabOk uniOk mixed get (by kernel_rfl) (by kernel_rfl) (by kernel_rfl) (by decide) F.eq fun w0 M h x hx => by rw [F.owed] at hx; exact absurd hx List.not_mem_nil
noncomputable def ent : Ent prog uni := Ent.of 3 [.row 0 0] [.sc] cp cr F con fun args w => enters_of get (by kernel_rfl) rfl args w
end Go.Proofs.YtiogkndjoinpoaaDoor.AX.F3

/- What the functions of the laws of features answer. No conditions. -/
namespace Go.Proofs.YtiogkndjoinpoaaDoor.AX
open Go

def c45 (x : S45) : S53 := ⟨x.f0, x.f1, x.f2, x.f3, x.f4, x.f5, x.f6, x.f7, x.f8, x.f9, x.f10, x.f11, x.f12, x.f13, x.f14⟩
theorem F8.ok (l : List S45) (h : l.length ≤ 1048576) : F8.F l = some (l.map c45) := by
  have := lim_run (f := F8.l0.b) (fun i => ((i : Int), l, upTo c45 z53 l i)) l.length (y := l.map c45) (fun i hi => by
    have e := upTo_set (c := c45) (z := z53) (d := z45) hi
    have d1 : decide ((i : Int) < (l.length : Int)) = true := dT (by omega)
    have d2 : decide ((0 : Int) ≤ (i : Int)) = true := dT (by omega)
    have d3 : decide ((i : Int) < ((upTo c45 z53 l i).length : Int)) = true := dT (by rw [upTo_len (by omega)]; omega)
    have w : Go.IntKind.wrap .i64 ((i : Int) + 1) = ((i + 1 : Nat) : Int) := by rw [w64 (by omega) (by omega)]; rfl
    
    simp only [F8.l0.b, F25.F, F40.F, d1, d2, d3, w, Bool.and_self, cT, bS, Int.toNat_natCast]
    exact congrArg (fun q => some (Sum.inl (((i + 1 : Nat) : Int), l, q))) e)
    (by
      have d1 : decide ((l.length : Int) < (l.length : Int)) = false := dF (by omega)
      simp only [F8.l0.b, d1, cF, upTo_all])
  have d0 : (((decide (0 ≤ (l.length : Int))) && (decide ((l.length : Int) ≤ (l.length : Int)))) && (decide ((l.length : Int) ≤ 274877906944))) = true := by simp; omega
  simp only [F8.F, d0, cT, Int.toNat_natCast, ← upTo_zero (c := c45) (z := z53) (l := l)]
  exact congrArg (fun q => Option.bind q fun y => some y) this

theorem beqS (s : ByteArray) : (s.toList == s.toList) = true := by simp
theorem F43.ok (a b c d e f : Int) : F43.F ((a, b, c, d, e, f), (a, b, c, d, e, f)) = some true := by simp (disch := rfl) only [F43.F, nF, cF]
theorem F27.ok (x : S53) : F27.F ((x.f0, x.f1, x.f2, x.f3, x.f4, x.f5, x.f6, x.f7, x.f8, x.f9, x.f10, x.f11, x.f12, x.f13, x.f14), (x.f0, x.f1, x.f2, x.f3, x.f4, x.f5, x.f6, x.f7, x.f8, x.f9, x.f10, x.f11, x.f12, x.f13, x.f14)) = some true := by
  simp (disch := rfl) only [F27.F, F43.ok, beqS, nF, cF, bS, Bool.not_true]
theorem F10.ok (p : List ByteArray) (h : p.length ≤ 1048576) : F10.F (p, p) = some true := by
  have := lim_run (f := F10.l0.b) (fun i => ((i : Int), p, p)) p.length (y := .inr ()) (fun i hi => by
    have d1 : decide ((i : Int) < (p.length : Int)) = true := dT (by omega)
    have d2 : decide ((0 : Int) ≤ (i : Int)) = true := dT (by omega)
    have w : Go.IntKind.wrap .i64 ((i : Int) + 1) = ((i + 1 : Nat) : Int) := by rw [w64 (by omega) (by omega)]; rfl
    simp only [F10.l0.b, d1, d2, beqS, w, Bool.and_self, cT, cF, bS, Bool.not_true])
    (by
      have d1 : decide ((p.length : Int) < (p.length : Int)) = false := dF (by omega)
      simp only [F10.l0.b, d1, cF])
  have n0 : (((p.length : Int)) != (p.length : Int)) = false := nF rfl
  simp only [F10.F, n0, cF]
  exact congrArg (fun q : Option (Bool ⊕ Unit) => q.bind fun q => match q with | .inl y => some y | .inr y => some true) this

theorem F11.ok (p : List S53) (h : p.length ≤ 1048576) : F11.F (p, p) = some true := by
  have := lim_run (f := F11.l0.b) (fun i => ((i : Int), p, p)) p.length (y := .inr ()) (fun i hi => by
    have d1 : decide ((i : Int) < (p.length : Int)) = true := dT (by omega)
    have d2 : decide ((0 : Int) ≤ (i : Int)) = true := dT (by omega)
    have w : Go.IntKind.wrap .i64 ((i : Int) + 1) = ((i + 1 : Nat) : Int) := by rw [w64 (by omega) (by omega)]; rfl
    simp only [F11.l0.b, d1, d2, F27.ok, w, Bool.and_self, cT, cF, bS, Bool.not_true])
    (by
      have d1 : decide ((p.length : Int) < (p.length : Int)) = false := dF (by omega)
      simp only [F11.l0.b, d1, cF])
  have n0 : (((p.length : Int)) != (p.length : Int)) = false := nF rfl
  simp only [F11.F, n0, cF]
  exact congrArg (fun q : Option (Bool ⊕ Unit) => q.bind fun q => match q with | .inl y => some y | .inr y => some true) this

/- marks -/
theorem F28.l0_ok : ∀ (n : Nat) (k : Int) (t : ByteArray), 0 ≤ k → k.toNat ≤ n → k ≤ 1000000000 → t.size + k.toNat ≤ 2000000000 → ∃ t', F28.l0 (k, t) = some t' ∧ t'.size ≤ 2000000000
  | n, k, t, hk, hn, hk2, ht => by
    by_cases h0 : k > 0
    · cases n with
      | zero => omega
      | succ n =>
        have hs : (strRow (U := uni) 3 ((Go.IntKind.wrap (Go.IntKind.u8 ) (Go.IntKind.wrap (Go.IntKind.i64 ) (48 + (Int.tmod k 10)))) :: [])).size = 1 := by
          unfold strRow; rw [strOfNums_size]; rfl
        have hd : 0 ≤ Int.tdiv k 10 ∧ Int.tdiv k 10 < k := by rw [Int.tdiv_eq_ediv_of_nonneg hk]; omega
        have w : Go.IntKind.wrap .i64 (Int.tdiv k 10) = Int.tdiv k 10 := w64 (by omega) (by omega)
        obtain ⟨t', h1, h2⟩ := F28.l0_ok n (Int.tdiv k 10) (strRow (U := uni) 3 ((Go.IntKind.wrap (Go.IntKind.u8 ) (Go.IntKind.wrap (Go.IntKind.i64 ) (48 + (Int.tmod k 10)))) :: []) ++ t) hd.1 (by omega) (by omega) (by rw [ByteArray.size_append, hs]; omega)
        refine ⟨t', ?_, h2⟩
        rw [← h1]
        have d : decide (((strRow (U := uni) 3 ((Go.IntKind.wrap (Go.IntKind.u8 ) (Go.IntKind.wrap (Go.IntKind.i64 ) (48 + (Int.tmod k 10)))) :: [])).size + t.size) ≤ 274877906944) = true := dT (by rw [hs]; omega)
        unfold F28.l0
        exact lim_in (by simp only [F28.l0.b, dT h0, cT, d, w])
    · exact ⟨t, by unfold F28.l0; exact lim_out (by simp only [F28.l0.b, dF h0, cF]), by omega⟩

theorem F28.ex (k : Int) (hk : 0 ≤ k) (hk2 : k ≤ 1000000000) : ∃ t, F28.F k = some t := by
  by_cases h0 : k ≤ 0
  · exact ⟨_, by simp only [F28.F, dT h0, cT]; rfl⟩
  · have hz : (ByteArray.mk (Array.mk ([] : List UInt8))).size = 0 := rfl
    obtain ⟨t, h1, h2⟩ := F28.l0_ok k.toNat k (ByteArray.mk (Array.mk ([] : List UInt8))) hk (Nat.le_refl _) hk2 (by rw [hz]; omega)
    have d : decide (((ByteArray.size (ByteArray.mk (Array.mk (109 :: [])))) + (ByteArray.size t)) ≤ 274877906944) = true := dT (by rw [show (ByteArray.mk (Array.mk ((109 : UInt8) :: []))).size = 1 from rfl]; omega)
    exact ⟨_, by simp only [F28.F, dF h0, cF, h1, bS, d, cT]; rfl⟩
/-- A mark's text. -/
noncomputable def mT (k : Int) : ByteArray := (F28.F k).getD E0
theorem F28.ok {k : Int} (hk : 0 ≤ k) (hk2 : k ≤ 1000000000) : F28.F k = some (mT k) := by
  obtain ⟨t, h⟩ := F28.ex k hk hk2
  unfold mT
  rw [h]; rfl

noncomputable def gT (k : Int) (_ : ByteArray) : ByteArray := mT k
theorem F13.ok (l : List ByteArray) (k : Int) (h : l.length ≤ 1048576) (hk : 0 ≤ k) (hk2 : k ≤ 100000000) : F13.F (l, k) = some (k + (l.length : Int), mkL gT (fun _ => 1) k l, ()) := by
  have := lim_run (f := F13.l0.b) (fun i => (mkK (fun _ => 1) k (l.take i), (i : Int), mkAt gT (fun _ => 1) k l i)) l.length (y := (k + (l.length : Int), mkL gT (fun _ => 1) k l)) (fun i hi => by
    have e := mkAt_set (g := gT) (c := fun _ => 1) (k := k) (d := E0) hi
    have e2 : mkK (fun _ => (1 : Int)) k (l.take i) = k + i := by rw [mkK_const]; simp; omega
    have e3 : mkK (fun _ => (1 : Int)) k (l.take (i + 1)) = k + (i + 1 : Nat) := by rw [mkK_const]; simp; omega
    have hl : (mkAt gT (fun _ => 1) k l i).length = l.length := mkAt_len
    rw [e2] at e ⊢
    rw [e3]
    have hm : F28.F (k + (i : Int)) = some (gT (k + (i : Int)) (l.getD i E0)) := F28.ok (by omega) (by omega)
    have d1 : decide ((i : Int) < ((mkAt gT (fun _ => 1) k l i).length : Int)) = true := dT (by omega)
    have d2 : decide ((0 : Int) ≤ (i : Int)) = true := dT (by omega)
    have w : Go.IntKind.wrap .i64 ((i : Int) + 1) = ((i + 1 : Nat) : Int) := by rw [w64 (by omega) (by omega)]; rfl
    have w2 : Go.IntKind.wrap .i64 (k + (i : Int) + 1) = k + ((i + 1 : Nat) : Int) := by rw [w64 (by omega) (by omega)]; omega
    simp only [F13.l0.b, d1, d2, Bool.and_self, cT, hm, bS, w, w2, Int.toNat_natCast, e])
    (by
      have d1 : decide ((l.length : Int) < ((mkL gT (fun _ => 1) k l).length : Int)) = false := dF (by rw [mkL_len]; omega)
      simp only [F13.l0.b, mkAt_all, d1, cF, List.take_length, mkK_const, Int.one_mul])
  simp only [F13.F]
  exact congrArg (fun q : Option (Int × List ByteArray) => q.bind fun y => some (y.1, y.2, ())) (by simpa [mkAt_zero, mkK] using this)

theorem F14.ok (l : List ByteArray) (k : Int) (h : l.length ≤ 1048576) (hk : 0 ≤ k) (hk2 : k ≤ 100000000) : F14.F (mkL gT (fun _ => 1) k l, k) = some (k + (l.length : Int)) := by
  have := lim_run (f := F14.l0.b) (fun i => (mkK (fun _ => 1) k (l.take i), (i : Int), mkL gT (fun _ => 1) k l)) l.length (y := .inr (k + (l.length : Int))) (fun i hi => by
    have e := mkL_get (g := gT) (c := fun _ => 1) (k := k) (d := E0) hi
    have e2 : mkK (fun _ => (1 : Int)) k (l.take i) = k + i := by rw [mkK_const]; simp; omega
    have e3 : mkK (fun _ => (1 : Int)) k (l.take (i + 1)) = k + (i + 1 : Nat) := by rw [mkK_const]; simp; omega
    rw [e2] at e ⊢
    rw [e3]
    have hm : F28.F (k + (i : Int)) = some (gT (k + (i : Int)) (l.getD i E0)) := F28.ok (by omega) (by omega)
    have d1 : decide ((i : Int) < ((mkL gT (fun _ => 1) k l).length : Int)) = true := dT (by rw [mkL_len]; omega)
    have d2 : decide ((0 : Int) ≤ (i : Int)) = true := dT (by omega)
    have w : Go.IntKind.wrap .i64 ((i : Int) + 1) = ((i + 1 : Nat) : Int) := by rw [w64 (by omega) (by omega)]; rfl
    have w2 : Go.IntKind.wrap .i64 (k + (i : Int) + 1) = k + ((i + 1 : Nat) : Int) := by rw [w64 (by omega) (by omega)]; omega
    simp only [F14.l0.b, d1, d2, Bool.and_self, cT, cF, hm, bS, w, w2, Int.toNat_natCast, e, beqS, Bool.not_true])
    (by
      have d1 : decide ((l.length : Int) < ((mkL gT (fun _ => 1) k l).length : Int)) = false := dF (by rw [mkL_len]; omega)
      simp only [F14.l0.b, d1, cF, List.take_length, mkK_const, Int.one_mul])
  simp only [F14.F]
  exact congrArg (fun q : Option (Int ⊕ Int) => q.bind fun q => match q with | .inl y => some y | .inr y => some y) (by simpa [mkK] using this)

theorem F12.t32_ex (k : Int) (i : Nat) (row : List S53) (hi : i < row.length) (hl : row.length ≤ 1048576) (hk : 0 ≤ k) (hk2 : k ≤ 500000099) : ∃ r, F12.t32 (k, (i : Int), row) = some (k + 1, (i : Int), r) ∧ r.length = row.length := by
  have d1 : decide ((0 : Int) ≤ (i : Int)) = true := dT (by omega)
  have d2 : decide ((i : Int) < (row.length : Int)) = true := dT (by omega)
  have w0 : Go.IntKind.wrap .i64 (k + 1) = k + 1 := w64 (by omega) (by omega)
  exact ⟨_, by
    simp (disch := (first | omega | (simp only [List.length_set]; omega))) only [F12.t32, d1, d2, Bool.and_self, cT, Int.toNat_natCast, List.length_set, w0, bS]
    rfl, by simp (disch := (first | omega | (simp only [List.length_set]; omega))) only [List.length_set]⟩
noncomputable def F12.n32 (k : Int) (i : Nat) (row : List S53) : List S53 := ((F12.t32 (k, (i : Int), row)).getD (0, 0, [])).2.2
theorem F12.t32_eq (k : Int) (i : Nat) (row : List S53) (hi : i < row.length) (hl : row.length ≤ 1048576) (hk : 0 ≤ k) (hk2 : k ≤ 500000099) : F12.t32 (k, (i : Int), row) = some (k + 1, (i : Int), F12.n32 k i row) := by
  obtain ⟨r, h, _⟩ := F12.t32_ex k i row hi hl hk hk2
  unfold F12.n32
  rw [h]; rfl
theorem F12.n32_len (k : Int) (i : Nat) (row : List S53) (hi : i < row.length) (hl : row.length ≤ 1048576) (hk : 0 ≤ k) (hk2 : k ≤ 500000099) : (F12.n32 k i row).length = row.length := by
  obtain ⟨r, h, hr⟩ := F12.t32_ex k i row hi hl hk hk2
  unfold F12.n32
  rw [h]; exact hr
theorem F12.t29_ex (k : Int) (i : Nat) (row : List S53) (hi : i < row.length) (hl : row.length ≤ 1048576) (hk : 0 ≤ k) (hk2 : k ≤ 500000097) : ∃ r, F12.t29 (k, (i : Int), row) = some (k + 1 + 1 + 1, (i : Int), r) ∧ r.length = row.length := by
  have d1 : decide ((0 : Int) ≤ (i : Int)) = true := dT (by omega)
  have d2 : decide ((i : Int) < (row.length : Int)) = true := dT (by omega)
  have w0 : Go.IntKind.wrap .i64 (k + 1) = k + 1 := w64 (by omega) (by omega) 
  have w1 : Go.IntKind.wrap .i64 (k + 1 + 1) = k + 1 + 1 := w64 (by omega) (by omega)
  exact ⟨_, by
    simp (disch := (first | omega | (simp only [List.length_set]; omega))) only [F12.t29, d1, d2, Bool.and_self, cT, Int.toNat_natCast, List.length_set, w0, w1, bS, F12.t32_eq]
    rfl, by simp (disch := (first | omega | (simp only [List.length_set]; omega))) only [List.length_set, F12.n32_len]⟩
noncomputable def F12.n29 (k : Int) (i : Nat) (row : List S53) : List S53 := ((F12.t29 (k, (i : Int), row)).getD (0, 0, [])).2.2
theorem F12.t29_eq (k : Int) (i : Nat) (row : List S53) (hi : i < row.length) (hl : row.length ≤ 1048576) (hk : 0 ≤ k) (hk2 : k ≤ 500000097) : F12.t29 (k, (i : Int), row) = some (k + 1 + 1 + 1, (i : Int), F12.n29 k i row) := by
  obtain ⟨r, h, _⟩ := F12.t29_ex k i row hi hl hk hk2
  unfold F12.n29
  rw [h]; rfl
theorem F12.n29_len (k : Int) (i : Nat) (row : List S53) (hi : i < row.length) (hl : row.length ≤ 1048576) (hk : 0 ≤ k) (hk2 : k ≤ 500000097) : (F12.n29 k i row).length = row.length := by
  obtain ⟨r, h, hr⟩ := F12.t29_ex k i row hi hl hk hk2
  unfold F12.n29
  rw [h]; exact hr
theorem F12.t26_ex (k : Int) (i : Nat) (row : List S53) (hi : i < row.length) (hl : row.length ≤ 1048576) (hk : 0 ≤ k) (hk2 : k ≤ 500000096) : ∃ r, F12.t26 (k, (i : Int), row) = some (k + 1 + 1 + 1 + 1, (i : Int), r) ∧ r.length = row.length := by
  have d1 : decide ((0 : Int) ≤ (i : Int)) = true := dT (by omega)
  have d2 : decide ((i : Int) < (row.length : Int)) = true := dT (by omega)
  have w0 : Go.IntKind.wrap .i64 (k + 1) = k + 1 := w64 (by omega) (by omega)
  exact ⟨_, by
    simp (disch := (first | omega | (simp only [List.length_set]; omega))) only [F12.t26, d1, d2, Bool.and_self, cT, Int.toNat_natCast, List.length_set, w0, bS, F12.t29_eq]
    rfl, by simp (disch := (first | omega | (simp only [List.length_set]; omega))) only [List.length_set, F12.n29_len]⟩
noncomputable def F12.n26 (k : Int) (i : Nat) (row : List S53) : List S53 := ((F12.t26 (k, (i : Int), row)).getD (0, 0, [])).2.2
theorem F12.t26_eq (k : Int) (i : Nat) (row : List S53) (hi : i < row.length) (hl : row.length ≤ 1048576) (hk : 0 ≤ k) (hk2 : k ≤ 500000096) : F12.t26 (k, (i : Int), row) = some (k + 1 + 1 + 1 + 1, (i : Int), F12.n26 k i row) := by
  obtain ⟨r, h, _⟩ := F12.t26_ex k i row hi hl hk hk2
  unfold F12.n26
  rw [h]; rfl
theorem F12.n26_len (k : Int) (i : Nat) (row : List S53) (hi : i < row.length) (hl : row.length ≤ 1048576) (hk : 0 ≤ k) (hk2 : k ≤ 500000096) : (F12.n26 k i row).length = row.length := by
  obtain ⟨r, h, hr⟩ := F12.t26_ex k i row hi hl hk hk2
  unfold F12.n26
  rw [h]; exact hr
theorem F12.t23_ex (k : Int) (i : Nat) (row : List S53) (hi : i < row.length) (hl : row.length ≤ 1048576) (hk : 0 ≤ k) (hk2 : k ≤ 500000094) : ∃ r, F12.t23 (k, (i : Int), row) = some (k + 1 + 1 + 1 + 1 + 1 + 1, (i : Int), r) ∧ r.length = row.length := by
  have d1 : decide ((0 : Int) ≤ (i : Int)) = true := dT (by omega)
  have d2 : decide ((i : Int) < (row.length : Int)) = true := dT (by omega)
  have w0 : Go.IntKind.wrap .i64 (k + 1) = k + 1 := w64 (by omega) (by omega) 
  have w1 : Go.IntKind.wrap .i64 (k + 1 + 1) = k + 1 + 1 := w64 (by omega) (by omega)
  exact ⟨_, by
    simp (disch := (first | omega | (simp only [List.length_set]; omega))) only [F12.t23, d1, d2, Bool.and_self, cT, Int.toNat_natCast, List.length_set, w0, w1, bS, F12.t26_eq]
    rfl, by simp (disch := (first | omega | (simp only [List.length_set]; omega))) only [List.length_set, F12.n26_len]⟩
noncomputable def F12.n23 (k : Int) (i : Nat) (row : List S53) : List S53 := ((F12.t23 (k, (i : Int), row)).getD (0, 0, [])).2.2
theorem F12.t23_eq (k : Int) (i : Nat) (row : List S53) (hi : i < row.length) (hl : row.length ≤ 1048576) (hk : 0 ≤ k) (hk2 : k ≤ 500000094) : F12.t23 (k, (i : Int), row) = some (k + 1 + 1 + 1 + 1 + 1 + 1, (i : Int), F12.n23 k i row) := by
  obtain ⟨r, h, _⟩ := F12.t23_ex k i row hi hl hk hk2
  unfold F12.n23
  rw [h]; rfl
theorem F12.n23_len (k : Int) (i : Nat) (row : List S53) (hi : i < row.length) (hl : row.length ≤ 1048576) (hk : 0 ≤ k) (hk2 : k ≤ 500000094) : (F12.n23 k i row).length = row.length := by
  obtain ⟨r, h, hr⟩ := F12.t23_ex k i row hi hl hk hk2
  unfold F12.n23
  rw [h]; exact hr
theorem F12.t20_ex (k : Int) (i : Nat) (row : List S53) (hi : i < row.length) (hl : row.length ≤ 1048576) (hk : 0 ≤ k) (hk2 : k ≤ 500000093) : ∃ r, F12.t20 (k, (i : Int), row) = some (k + 1 + 1 + 1 + 1 + 1 + 1 + 1, (i : Int), r) ∧ r.length = row.length := by
  have d1 : decide ((0 : Int) ≤ (i : Int)) = true := dT (by omega)
  have d2 : decide ((i : Int) < (row.length : Int)) = true := dT (by omega)
  have w0 : Go.IntKind.wrap .i64 (k + 1) = k + 1 := w64 (by omega) (by omega)
  exact ⟨_, by
    simp (disch := (first | omega | (simp only [List.length_set]; omega))) only [F12.t20, d1, d2, Bool.and_self, cT, Int.toNat_natCast, List.length_set, w0, bS, F12.t23_eq]
    rfl, by simp (disch := (first | omega | (simp only [List.length_set]; omega))) only [List.length_set, F12.n23_len]⟩
noncomputable def F12.n20 (k : Int) (i : Nat) (row : List S53) : List S53 := ((F12.t20 (k, (i : Int), row)).getD (0, 0, [])).2.2
theorem F12.t20_eq (k : Int) (i : Nat) (row : List S53) (hi : i < row.length) (hl : row.length ≤ 1048576) (hk : 0 ≤ k) (hk2 : k ≤ 500000093) : F12.t20 (k, (i : Int), row) = some (k + 1 + 1 + 1 + 1 + 1 + 1 + 1, (i : Int), F12.n20 k i row) := by
  obtain ⟨r, h, _⟩ := F12.t20_ex k i row hi hl hk hk2
  unfold F12.n20
  rw [h]; rfl
theorem F12.n20_len (k : Int) (i : Nat) (row : List S53) (hi : i < row.length) (hl : row.length ≤ 1048576) (hk : 0 ≤ k) (hk2 : k ≤ 500000093) : (F12.n20 k i row).length = row.length := by
  obtain ⟨r, h, hr⟩ := F12.t20_ex k i row hi hl hk hk2
  unfold F12.n20
  rw [h]; exact hr
theorem F12.t17_ex (k : Int) (i : Nat) (row : List S53) (hi : i < row.length) (hl : row.length ≤ 1048576) (hk : 0 ≤ k) (hk2 : k ≤ 500000091) : ∃ r, F12.t17 (k, (i : Int), row) = some (k + 1 + 1 + 1 + 1 + 1 + 1 + 1 + 1 + 1, (i : Int), r) ∧ r.length = row.length := by
  have d1 : decide ((0 : Int) ≤ (i : Int)) = true := dT (by omega)
  have d2 : decide ((i : Int) < (row.length : Int)) = true := dT (by omega)
  have w0 : Go.IntKind.wrap .i64 (k + 1) = k + 1 := w64 (by omega) (by omega) 
  have w1 : Go.IntKind.wrap .i64 (k + 1 + 1) = k + 1 + 1 := w64 (by omega) (by omega)
  exact ⟨_, by
    simp (disch := (first | omega | (simp only [List.length_set]; omega))) only [F12.t17, d1, d2, Bool.and_self, cT, Int.toNat_natCast, List.length_set, w0, w1, bS, F12.t20_eq]
    rfl, by simp (disch := (first | omega | (simp only [List.length_set]; omega))) only [List.length_set, F12.n20_len]⟩
noncomputable def F12.n17 (k : Int) (i : Nat) (row : List S53) : List S53 := ((F12.t17 (k, (i : Int), row)).getD (0, 0, [])).2.2
theorem F12.t17_eq (k : Int) (i : Nat) (row : List S53) (hi : i < row.length) (hl : row.length ≤ 1048576) (hk : 0 ≤ k) (hk2 : k ≤ 500000091) : F12.t17 (k, (i : Int), row) = some (k + 1 + 1 + 1 + 1 + 1 + 1 + 1 + 1 + 1, (i : Int), F12.n17 k i row) := by
  obtain ⟨r, h, _⟩ := F12.t17_ex k i row hi hl hk hk2
  unfold F12.n17
  rw [h]; rfl
theorem F12.n17_len (k : Int) (i : Nat) (row : List S53) (hi : i < row.length) (hl : row.length ≤ 1048576) (hk : 0 ≤ k) (hk2 : k ≤ 500000091) : (F12.n17 k i row).length = row.length := by
  obtain ⟨r, h, hr⟩ := F12.t17_ex k i row hi hl hk hk2
  unfold F12.n17
  rw [h]; exact hr
theorem F12.t14_ex (k : Int) (i : Nat) (row : List S53) (hi : i < row.length) (hl : row.length ≤ 1048576) (hk : 0 ≤ k) (hk2 : k ≤ 500000090) : ∃ r, F12.t14 (k, (i : Int), row) = some (k + 1 + 1 + 1 + 1 + 1 + 1 + 1 + 1 + 1 + 1, (i : Int), r) ∧ r.length = row.length := by
  have d1 : decide ((0 : Int) ≤ (i : Int)) = true := dT (by omega)
  have d2 : decide ((i : Int) < (row.length : Int)) = true := dT (by omega)
  have w0 : Go.IntKind.wrap .i64 (k + 1) = k + 1 := w64 (by omega) (by omega)
  exact ⟨_, by
    simp (disch := (first | omega | (simp only [List.length_set]; omega))) only [F12.t14, d1, d2, Bool.and_self, cT, Int.toNat_natCast, List.length_set, w0, bS, F12.t17_eq]
    rfl, by simp (disch := (first | omega | (simp only [List.length_set]; omega))) only [List.length_set, F12.n17_len]⟩
noncomputable def F12.n14 (k : Int) (i : Nat) (row : List S53) : List S53 := ((F12.t14 (k, (i : Int), row)).getD (0, 0, [])).2.2
theorem F12.t14_eq (k : Int) (i : Nat) (row : List S53) (hi : i < row.length) (hl : row.length ≤ 1048576) (hk : 0 ≤ k) (hk2 : k ≤ 500000090) : F12.t14 (k, (i : Int), row) = some (k + 1 + 1 + 1 + 1 + 1 + 1 + 1 + 1 + 1 + 1, (i : Int), F12.n14 k i row) := by
  obtain ⟨r, h, _⟩ := F12.t14_ex k i row hi hl hk hk2
  unfold F12.n14
  rw [h]; rfl
theorem F12.n14_len (k : Int) (i : Nat) (row : List S53) (hi : i < row.length) (hl : row.length ≤ 1048576) (hk : 0 ≤ k) (hk2 : k ≤ 500000090) : (F12.n14 k i row).length = row.length := by
  obtain ⟨r, h, hr⟩ := F12.t14_ex k i row hi hl hk hk2
  unfold F12.n14
  rw [h]; exact hr
theorem F12.t11_ex (k : Int) (i : Nat) (row : List S53) (hi : i < row.length) (hl : row.length ≤ 1048576) (hk : 0 ≤ k) (hk2 : k ≤ 500000088) : ∃ r, F12.t11 (k, (i : Int), row) = some (k + 1 + 1 + 1 + 1 + 1 + 1 + 1 + 1 + 1 + 1 + 1 + 1, (i : Int), r) ∧ r.length = row.length := by
  have d1 : decide ((0 : Int) ≤ (i : Int)) = true := dT (by omega)
  have d2 : decide ((i : Int) < (row.length : Int)) = true := dT (by omega)
  have w0 : Go.IntKind.wrap .i64 (k + 1) = k + 1 := w64 (by omega) (by omega) 
  have w1 : Go.IntKind.wrap .i64 (k + 1 + 1) = k + 1 + 1 := w64 (by omega) (by omega)
  exact ⟨_, by
    simp (disch := (first | omega | (simp only [List.length_set]; omega))) only [F12.t11, d1, d2, Bool.and_self, cT, Int.toNat_natCast, List.length_set, w0, w1, bS, F12.t14_eq]
    rfl, by simp (disch := (first | omega | (simp only [List.length_set]; omega))) only [List.length_set, F12.n14_len]⟩
noncomputable def F12.n11 (k : Int) (i : Nat) (row : List S53) : List S53 := ((F12.t11 (k, (i : Int), row)).getD (0, 0, [])).2.2
theorem F12.t11_eq (k : Int) (i : Nat) (row : List S53) (hi : i < row.length) (hl : row.length ≤ 1048576) (hk : 0 ≤ k) (hk2 : k ≤ 500000088) : F12.t11 (k, (i : Int), row) = some (k + 1 + 1 + 1 + 1 + 1 + 1 + 1 + 1 + 1 + 1 + 1 + 1, (i : Int), F12.n11 k i row) := by
  obtain ⟨r, h, _⟩ := F12.t11_ex k i row hi hl hk hk2
  unfold F12.n11
  rw [h]; rfl
theorem F12.n11_len (k : Int) (i : Nat) (row : List S53) (hi : i < row.length) (hl : row.length ≤ 1048576) (hk : 0 ≤ k) (hk2 : k ≤ 500000088) : (F12.n11 k i row).length = row.length := by
  obtain ⟨r, h, hr⟩ := F12.t11_ex k i row hi hl hk hk2
  unfold F12.n11
  rw [h]; exact hr
theorem F12.t8_ex (k : Int) (i : Nat) (row : List S53) (hi : i < row.length) (hl : row.length ≤ 1048576) (hk : 0 ≤ k) (hk2 : k ≤ 500000087) : ∃ r, F12.t8 (k, (i : Int), row) = some (k + 1 + 1 + 1 + 1 + 1 + 1 + 1 + 1 + 1 + 1 + 1 + 1 + 1, (i : Int), r) ∧ r.length = row.length := by
  have d1 : decide ((0 : Int) ≤ (i : Int)) = true := dT (by omega)
  have d2 : decide ((i : Int) < (row.length : Int)) = true := dT (by omega)
  have w0 : Go.IntKind.wrap .i64 (k + 1) = k + 1 := w64 (by omega) (by omega)
  have hm := F28.ok (k := k) (by omega) (by omega)
  exact ⟨_, by
    simp (disch := (first | omega | (simp only [List.length_set]; omega))) only [F12.t8, d1, d2, Bool.and_self, cT, Int.toNat_natCast, List.length_set, w0, hm, bS, F12.t11_eq]
    rfl, by simp (disch := (first | omega | (simp only [List.length_set]; omega))) only [List.length_set, F12.n11_len]⟩
noncomputable def F12.n8 (k : Int) (i : Nat) (row : List S53) : List S53 := ((F12.t8 (k, (i : Int), row)).getD (0, 0, [])).2.2
theorem F12.t8_eq (k : Int) (i : Nat) (row : List S53) (hi : i < row.length) (hl : row.length ≤ 1048576) (hk : 0 ≤ k) (hk2 : k ≤ 500000087) : F12.t8 (k, (i : Int), row) = some (k + 1 + 1 + 1 + 1 + 1 + 1 + 1 + 1 + 1 + 1 + 1 + 1 + 1, (i : Int), F12.n8 k i row) := by
  obtain ⟨r, h, _⟩ := F12.t8_ex k i row hi hl hk hk2
  unfold F12.n8
  rw [h]; rfl
theorem F12.n8_len (k : Int) (i : Nat) (row : List S53) (hi : i < row.length) (hl : row.length ≤ 1048576) (hk : 0 ≤ k) (hk2 : k ≤ 500000087) : (F12.n8 k i row).length = row.length := by
  obtain ⟨r, h, hr⟩ := F12.t8_ex k i row hi hl hk hk2
  unfold F12.n8
  rw [h]; exact hr

theorem F12.l0_ok : ∀ (m i : Nat) (k : Int) (row : List S53), i + m = row.length → row.length ≤ 1048576 → 0 ≤ k → k + 15 * (m : Int) ≤ 400000000 → ∃ r, F12.l0 (k, (i : Int), row) = some (k + 15 * (m : Int), r)
  | 0, i, k, row, hi, hl, hk, hk2 => by
    have d : decide ((i : Int) < (row.length : Int)) = false := dF (by omega)
    exact ⟨row, by unfold F12.l0; exact lim_out (by simp only [F12.l0.b, d, cF]; simp)⟩
  | m + 1, i, k, row, hi, hl, hk, hk2 => by
    have hlt : i < row.length := by omega
    have d : decide ((i : Int) < (row.length : Int)) = true := dT (by omega)
    have d2 : decide ((0 : Int) ≤ (i : Int)) = true := dT (by omega)
    have w : Go.IntKind.wrap .i64 ((i : Int) + 1) = ((i + 1 : Nat) : Int) := by rw [w64 (by omega) (by omega)]; rfl
    have w0 : Go.IntKind.wrap .i64 (k + 1) = k + 1 := w64 (by omega) (by omega)
    have w1 : Go.IntKind.wrap .i64 (k + 1 + 1) = k + 1 + 1 := w64 (by omega) (by omega)
    have hm := F28.ok (k := k) (by omega) (by omega)
    have hm1 := F28.ok (k := k + 1) (by omega) (by omega)
    have step : ∃ r, F12.l0.b (k, (i : Int), row) = some (.inl (k + 1 + 1 + 1 + 1 + 1 + 1 + 1 + 1 + 1 + 1 + 1 + 1 + 1 + 1 + 1, ((i + 1 : Nat) : Int), r)) ∧ r.length = row.length := by
      exact ⟨_, by
        simp (disch := (first | omega | (simp only [List.length_set]; omega))) only [F12.l0.b, d, d2, Bool.and_self, cT, Int.toNat_natCast, List.length_set, w, w0, w1, hm, hm1, bS, F12.t8_eq]
        rfl, by simp (disch := (first | omega | (simp only [List.length_set]; omega))) only [List.length_set, F12.n8_len]⟩
    obtain ⟨r, h1, h2⟩ := step
    obtain ⟨r', h3⟩ := F12.l0_ok m (i + 1) (k + 1 + 1 + 1 + 1 + 1 + 1 + 1 + 1 + 1 + 1 + 1 + 1 + 1 + 1 + 1) r (by omega) (by omega) (by omega) (by omega)
    refine ⟨r', ?_⟩
    rw [show k + 15 * ((m + 1 : Nat) : Int) = k + 1 + 1 + 1 + 1 + 1 + 1 + 1 + 1 + 1 + 1 + 1 + 1 + 1 + 1 + 1 + 15 * (m : Int) by omega, ← h3]
    unfold F12.l0
    exact lim_in h1
theorem F12.ok (l : List S53) (hl : l.length ≤ 1048576) : ∃ r, F12.F (l, 1) = some (1 + 15 * (l.length : Int), r, ()) := by
  obtain ⟨r, h⟩ := F12.l0_ok l.length 0 1 l (by omega) hl (by decide) (by omega)
  rw [show ((0 : Nat) : Int) = 0 from rfl] at h
  exact ⟨r, by simp only [F12.F, h, bS]⟩

/- sizes -/
def sz45 (x : S45) : Int := (x.f0.size : Int) + (x.f1.size : Int) + (x.f2.size : Int)
def totJ : List S45 → Int
  | [] => 0
  | x :: l => sz45 x + totJ l
theorem sz45_nn (x : S45) : 0 ≤ sz45 x := by unfold sz45; omega
theorem totJ_nn : ∀ l : List S45, 0 ≤ totJ l
  | [] => by simp [totJ]
  | x :: l => by have := totJ_nn l; have := sz45_nn x; simp only [totJ]; omega
def okSz (x : S45) : Prop := (x.f0.size : Int) ≤ 9223372036854775807 ∧ (x.f1.size : Int) ≤ 9223372036854775807 ∧ (x.f2.size : Int) ≤ 9223372036854775807
theorem F22.ok (x : S45) (k : Int) (h : okSz x) (hk : 0 ≤ k) (hk2 : k ≤ 1048576) : F22.F ((x.f0, x.f1, x.f2, x.f3, x.f4, x.f5, x.f6, x.f7, x.f8, x.f9, x.f10, x.f11, x.f12, x.f13, x.f14), k) = some (if k - sz45 x < 0 then -1 else k - sz45 x) := by
  obtain ⟨h0, h1, h2⟩ := h
  unfold sz45
  have w0 : Go.IntKind.wrap .i64 (k - (x.f0.size : Int)) = k - x.f0.size := w64 (by omega) (by omega)
  by_cases c0 : k - (x.f0.size : Int) < 0
  · rw [if_pos (by omega)]; simp only [F22.F, w0, dT c0, cT]
  have w1 : Go.IntKind.wrap .i64 (k - (x.f0.size : Int) - (x.f1.size : Int)) = k - x.f0.size - x.f1.size := w64 (by omega) (by omega)
  by_cases c1 : k - (x.f0.size : Int) - (x.f1.size : Int) < 0
  · rw [if_pos (by omega)]; simp only [F22.F, w0, w1, dF c0, dT c1, cT, cF]
  have w2 : Go.IntKind.wrap .i64 (k - (x.f0.size : Int) - (x.f1.size : Int) - (x.f2.size : Int)) = k - x.f0.size - x.f1.size - x.f2.size := w64 (by omega) (by omega)
  by_cases c2 : k - (x.f0.size : Int) - (x.f1.size : Int) - (x.f2.size : Int) < 0
  · rw [if_pos (by omega)]; simp only [F22.F, w0, w1, w2, dF c0, dF c1, dT c2, cT, cF]
  · rw [if_neg (by omega), show k - ((x.f0.size : Int) + (x.f1.size : Int) + (x.f2.size : Int)) = k - x.f0.size - x.f1.size - x.f2.size by omega]; simp only [F22.F, w0, w1, w2, dF c0, dF c1, dF c2, cF]

theorem F6.l0_ok (l : List S45) (hl : l.length ≤ 1048576) (h : ∀ x ∈ l, okSz x) : ∀ (n i : Nat) (k : Int), i + n = l.length → 0 ≤ k → k ≤ 1048576 →
    F6.l0 (k, (i : Int), l) = some (if k - totJ (l.drop i) < 0 then .inl (-1) else .inr (k - totJ (l.drop i)))
  | 0, i, k, hi, hk, hk2 => by
    rw [List.drop_eq_nil_of_le (by omega)]
    have d : decide ((i : Int) < (l.length : Int)) = false := dF (by omega)
    simp only [totJ, Int.sub_zero]
    rw [if_neg (by omega)]
    unfold F6.l0; exact lim_out (by simp only [F6.l0.b, d, cF])
  | n + 1, i, k, hi, hk, hk2 => by
    have hlt : i < l.length := by omega
    rw [drop_cons hlt]
    have hd := totJ_nn (l.drop (i + 1))
    have hg : l.getD i z45 = l[i] := getD_lt hlt
    have hx2 := h l[i] (List.getElem_mem hlt)
    generalize hx : l[i] = x at hg hx2 ⊢
    rw [show totJ (x :: l.drop (i + 1)) = sz45 x + totJ (l.drop (i + 1)) from rfl]
    have d : decide ((i : Int) < (l.length : Int)) = true := dT (by omega)
    have d2 : decide ((0 : Int) ≤ (i : Int)) = true := dT (by omega)
    have w : Go.IntKind.wrap .i64 ((i : Int) + 1) = ((i + 1 : Nat) : Int) := by rw [w64 (by omega) (by omega)]; rfl
    have hnn := sz45_nn x
    have e := F22.ok x k hx2 hk hk2
    by_cases h0 : k - sz45 x < 0
    · rw [if_pos h0] at e
      rw [if_pos (by omega)]
      have m1 : decide ((-1 : Int) < 0) = true := rfl
      unfold F6.l0; exact lim_out (by simp only [F6.l0.b, d, d2, Bool.and_self, cT, Int.toNat_natCast, hg, e, bS, m1])
    · rw [if_neg h0] at e
      have rc := F6.l0_ok l hl h n (i + 1) (k - sz45 x) (by omega) (by omega) (by omega)
      rw [show k - (sz45 x + totJ (l.drop (i + 1))) = k - sz45 x - totJ (l.drop (i + 1)) by omega, ← rc]
      unfold F6.l0; exact lim_in (by simp only [F6.l0.b, d, d2, Bool.and_self, cT, Int.toNat_natCast, hg, e, bS, dF h0, cF, w])

theorem F6.ok (l : List S45) (hl : (l.length : Int) ≤ 9223372036854775807) (h : ∀ x ∈ l, okSz x) (k : Int) (hk : 0 ≤ k) (hk2 : k ≤ 1048576) :
    F6.F (l, k) = some (if k - l.length < 0 then -1 else if k - l.length - totJ l < 0 then -1 else k - l.length - totJ l) := by
  have w : Go.IntKind.wrap .i64 (k - (l.length : Int)) = k - l.length := w64 (by omega) (by omega)
  by_cases h0 : k - (l.length : Int) < 0
  · rw [if_pos h0]; simp only [F6.F, w, dT h0, cT]
  · rw [if_neg h0]
    have e := F6.l0_ok l (by omega) h l.length 0 (k - l.length) (by omega) (by omega) (by omega)
    rw [List.drop_zero] at e
    have e : F6.l0 (k - l.length, 0, l) = _ := e
    by_cases h1 : k - (l.length : Int) - totJ l < 0
    · rw [if_pos h1] at e ⊢; simp only [F6.F, w, dF h0, cF, e, bS]
    · rw [if_neg h1] at e ⊢; simp only [F6.F, w, dF h0, cF, e, bS]

theorem nmL_len {l : List S53} {r : List Int} : (nmL l r).length = r.length := by simp [nmL]
theorem ansR_len (l : List S53) : (ansR l).1.length ≤ 5000 ∧ (ansR l).2.2.length ≤ 5000 := by
  unfold ansR
  cases he : errR l with
  | some e =>
    refine ⟨by simp, ?_⟩
    dsimp only
    unfold errR at he
    split at he
    · injection he with he; subst he; simp
    · split at he
      · injection he with he; subst he; simp
      · split at he
        · injection he with he; subst he; simp
        · rename_i u hb
          split at he
          · injection he with he; subst he; simp
          · split at he
            · injection he with he; subst he; simp
            · rename_i u' hw
              split at he
              · cases he
              · injection he with he; subst he
                have hg := rows_fg (by omega) (badG_all hb) (wrG_all hw)
                have hlen : (rowsR l).length = l.length := by simp [rowsR]
                obtain ⟨_, hbl⟩ := bestF_in hg (m := (rowsR l).length) (s := 0) (b := []) (by omega) ⟨fun x hx => by simp at hx, by simp⟩
                rw [show bestF (rowsR l) (rowsR l).length 0 [] = bestR (rowsR l) from rfl] at hbl
                rw [nmL_len]; omega
  | none =>
    obtain ⟨h1, hg, hz⟩ := errR_none he
    obtain ⟨_, o2⟩ := ord_in (to := rowsR l)
    have hlen : (rowsR l).length = l.length := by simp [rowsR]
    refine ⟨?_, by simp⟩
    dsimp only
    rw [nmL_len]; omega

theorem F3.law_of (l : List S45) (hl : (l.length : Int) ≤ 9223372036854775807) (h : ∀ x ∈ l, okSz x) : F3.F l = some true := by
  have e6 := F6.ok l hl h 1048576 (by decide) (by decide)
  have m1 : decide ((-1 : Int) < 0) = true := rfl
  by_cases h0 : 1048576 - (l.length : Int) < 0
  · rw [if_pos h0] at e6; simp only [F3.F, e6, bS, m1, cT]
  rw [if_neg h0] at e6
  by_cases h1 : 1048576 - (l.length : Int) - totJ l < 0
  · rw [if_pos h1] at e6; simp only [F3.F, e6, bS, m1, cT]
  rw [if_neg h1] at e6
  have e8 := F8.ok l (by omega)
  have e7 := F7.ok (l.map c45)
  have e9 := F9.ok (l.map c45)
  obtain ⟨n1, n2⟩ := ansR_len (l.map c45)
  generalize ansR (l.map c45) = q at e7 e9 n1 n2
  obtain ⟨q0, q1, q2⟩ := q
  dsimp only at n1 n2
  have e10 := F10.ok q0 (by omega)
  have e10' := F10.ok q2 (by omega)
  have e11 := F11.ok (l.map c45) (by simp; omega)
  obtain ⟨r, e12⟩ := F12.ok (l.map c45) (by simp; omega)
  have e13 := F13.ok q0 1 (by omega) (by decide) (by decide)
  have e13' := F13.ok q2 (1 + (q0.length : Int)) (by omega) (by omega) (by omega)
  have e14 := F14.ok q0 1 (by omega) (by decide) (by decide)
  have e14' := F14.ok q2 (1 + (q0.length : Int)) (by omega) (by omega) (by omega)
  have d1 : decide (1 + 15 * ((l.map c45).length : Int) < 0) = false := dF (by omega)
  have d2 : decide (1 + (q0.length : Int) < 0) = false := dF (by omega)
  have d3 : decide (1 + (q0.length : Int) + (q2.length : Int) < 0) = false := dF (by omega)
  have n1 : (q1 != q1) = false := nF rfl
  have n2 : (1 + (q0.length : Int) + (q2.length : Int) != 1 + (q0.length : Int) + (q2.length : Int)) = false := nF rfl
  simp only [F3.F, e6, dF h1, cF, bS, e8, e7, e9, e10, e10', e11, e12, d1, Bool.not_true, Bool.not_false, cT, n1, Bool.or_self, Bool.or_false, Bool.false_or, e13, e13', e14, e14', d2, d3, n2]

end Go.Proofs.YtiogkndjoinpoaaDoor.AX

/- What rows of features are. No conditions. -/
namespace Go.Proofs.YtiogkndjoinpoaaDoor.AX
open Go

theorem feats_row {l : List S45} (h : ∀ n, RowOk (U := uni) ky n 0 l) : (l.length : Int) ≤ 9223372036854775807 ∧ ∀ x ∈ l, okSz x := by
  have h0 : l.length ≤ maxLen := (h 0).1
  refine ⟨by unfold maxLen at h0; omega, fun x hx => ?_⟩
  have h1 : ElOk (U := uni) ky 1 0 x := (h 1).2 x hx
  have hs : x.f0.size ≤ maxLen := h1.1
  have hs1 : x.f1.size ≤ maxLen := h1.2.1
  have hs2 : x.f2.size ≤ maxLen := h1.2.2.1
  unfold maxLen at hs hs1 hs2
  exact ⟨by omega, by omega, by omega⟩

end Go.Proofs.YtiogkndjoinpoaaDoor.AX

/- Files of features: the program and its reference write the same bytes. No conditions. -/
namespace Go.Proofs.YtiogkndjoinpoaaDoor.AX
open Go

/-- Octets. -/
def Oct (l : List Int) : Prop := ∀ x ∈ l, 0 ≤ x ∧ x ≤ 255
theorem Oct.app {a b : List Int} (h : Oct a) (h' : Oct b) : Oct (a ++ b) := fun x hx => by
  rcases List.mem_append.1 hx with q | q
  · exact h x q
  · exact h' x q
theorem wu8 (x : Int) : 0 ≤ IntKind.wrap .u8 x ∧ IntKind.wrap .u8 x ≤ 255 := by
  simp [IntKind.wrap, IntKind.signed, IntKind.bits]; omega
theorem bytesI_oct (s : ByteArray) : Oct (bytesI s) := fun x hx => by
  unfold bytesI at hx
  obtain ⟨b, _, rfl⟩ := List.mem_map.1 hx
  have := UInt8.toNat_lt b
  omega
theorem bytesI_len (s : ByteArray) : (bytesI s).length = s.size := by unfold bytesI; rw [List.length_map, Array.length_toList]; rfl
theorem bytesI_app (s t : ByteArray) : bytesI (s ++ t) = bytesI s ++ bytesI t := by
  unfold bytesI
  rw [ByteArray.data_append, Array.toList_append, List.map_append]

/-- The sum. -/
def sm (a : Int × Int) (c : Int) : Int × Int := (Int.tmod (IntKind.wrap .i64 (a.1 + IntKind.wrap .i64 c)) 251, Int.tmod (IntKind.wrap .i64 (a.2 + Int.tmod (IntKind.wrap .i64 (a.1 + IntKind.wrap .i64 c)) 251)) 251)
def sumR (bs : List Int) : Int := IntKind.wrap .i64 (IntKind.wrap .i64 (256 * (bs.foldl sm (1, 0)).2) + (bs.foldl sm (1, 0)).1)
theorem tm251 {x : Int} (h : 0 ≤ x) : 0 ≤ Int.tmod x 251 ∧ Int.tmod x 251 < 251 := ⟨Int.tmod_nonneg 251 h, Int.tmod_lt_of_pos x (by omega)⟩
theorem sm_bd {a : Int × Int} {c : Int} (h : 0 ≤ a.1 ∧ a.1 < 251 ∧ 0 ≤ a.2 ∧ a.2 < 251) (hc : 0 ≤ c ∧ c ≤ 255) : 0 ≤ (sm a c).1 ∧ (sm a c).1 < 251 ∧ 0 ≤ (sm a c).2 ∧ (sm a c).2 < 251 := by
  unfold sm
  have w1 : IntKind.wrap .i64 c = c := w64 (by omega) (by omega)
  have w2 : IntKind.wrap .i64 (a.1 + c) = a.1 + c := w64 (by omega) (by omega)
  rw [w1, w2]
  have m1 := tm251 (x := a.1 + c) (by omega)
  have w3 : IntKind.wrap .i64 (a.2 + Int.tmod (a.1 + c) 251) = a.2 + Int.tmod (a.1 + c) 251 := w64 (by omega) (by omega)
  dsimp only
  rw [w3]
  have m2 := tm251 (x := a.2 + Int.tmod (a.1 + c) 251) (by omega)
  exact ⟨m1.1, m1.2, m2.1, m2.2⟩
theorem fold_bd : ∀ {bs : List Int} {a : Int × Int}, Oct bs → (0 ≤ a.1 ∧ a.1 < 251 ∧ 0 ≤ a.2 ∧ a.2 < 251) → 0 ≤ (bs.foldl sm a).1 ∧ (bs.foldl sm a).1 < 251 ∧ 0 ≤ (bs.foldl sm a).2 ∧ (bs.foldl sm a).2 < 251
  | [], a, _, h => h
  | c :: bs, a, ho, h => fold_bd (bs := bs) (fun x hx => ho x (by simp [hx])) (sm_bd h (ho c (by simp)))
theorem sumR_bd {bs : List Int} (ho : Oct bs) : 0 ≤ sumR bs ∧ sumR bs < 65536 := by
  have h := fold_bd (a := (1, 0)) ho (by decide)
  unfold sumR
  rw [w64 (x := 256 * _) (by omega) (by omega), w64 (by omega) (by omega)]
  omega

theorem F44.ok (bs : List Int) (hl : bs.length ≤ 1000000) : F44.F bs = some (sumR bs) := by
  have l0 : F44.l0 (1, 0, 0, bs) = some (bs.foldl sm (1, 0)) :=
    lim_fold (f := F44.l0.b) (fun (i : Nat) (a : Int × Int) => (a.1, a.2, (i : Int), bs)) bs 0 sm (fun _ => True) (z := fun a => a) (1, 0) trivial (fun _ _ _ _ => trivial) (fun i a hi _ => by
      have d1 : decide ((i : Int) < (bs.length : Int)) = true := dT (by omega)
      have d2 : decide ((0 : Int) ≤ (i : Int)) = true := dT (by omega)
      have w : Go.IntKind.wrap .i64 ((i : Int) + 1) = ((i + 1 : Nat) : Int) := by rw [w64 (by omega) (by omega)]; rfl
      simp only [F44.l0.b, d1, d2, Bool.and_self, cT, Int.toNat_natCast, w, sm])
      (fun a _ => by
        have d1 : decide ((bs.length : Int) < (bs.length : Int)) = false := dF (by omega)
        simp only [F44.l0.b, d1, cF])
  simp only [F44.F, l0, bS, sumR]
theorem F33.ok (bs : List Int) (hl : bs.length ≤ 65536) : F33.F bs = some (sumR bs) := by
  have l0 : F33.l0 (1, 0, (bs.length : Int), 0, bs) = some (bs.foldl sm (1, 0)) :=
    lim_fold (f := F33.l0.b) (fun (i : Nat) (a : Int × Int) => (a.1, a.2, (bs.length : Int), (i : Int), bs)) bs 0 sm (fun _ => True) (z := fun a => a) (1, 0) trivial (fun _ _ _ _ => trivial) (fun i a hi _ => by
      have d1 : decide ((i : Int) < (bs.length : Int)) = true := dT (by omega)
      have d2 : decide ((0 : Int) ≤ (i : Int)) = true := dT (by omega)
      have w : Go.IntKind.wrap .i64 ((i : Int) + 1) = ((i + 1 : Nat) : Int) := by rw [w64 (by omega) (by omega)]; rfl
      simp only [F33.l0.b, d1, d2, Bool.and_self, cT, Int.toNat_natCast, w, sm])
      (fun a _ => by
        have d1 : decide ((bs.length : Int) < (bs.length : Int)) = false := dF (by omega)
        simp only [F33.l0.b, d1, cF])
  have d0 : decide ((bs.length : Int) > 65536) = false := dF (by omega)
  simp only [F33.F, d0, cF, l0, bS, sumR]

/-- Two bytes. -/
def two (n : Int) : List Int := [IntKind.wrap .u8 (Int.fdiv n 256), IntKind.wrap .u8 n]
theorem two_oct (n : Int) : Oct (two n) := fun x hx => by
  unfold two at hx
  rcases List.mem_cons.1 hx with rfl | hx
  · exact wu8 _
  · rcases List.mem_cons.1 hx with rfl | hx
    · exact wu8 _
    · cases hx
theorem F32.ok (n : Int) : F32.F n = some (two n) := rfl
theorem F30.ok {n : Int} (h : 0 ≤ n) (h' : n ≤ 1000000000) : F30.F n = some (two n) := by
  have e1 : Int.tdiv n 256 = Int.fdiv n 256 := by rw [Int.tdiv_eq_ediv_of_nonneg h, Int.fdiv_eq_ediv_of_nonneg _ (by omega)]
  have e2 : IntKind.wrap .i64 (Int.fdiv n 256) = Int.fdiv n 256 := by
    rw [Int.fdiv_eq_ediv_of_nonneg _ (by omega)]
    exact w64 (by omega) (by omega)
  have e3 : IntKind.wrap .u8 (Int.tmod n 256) = IntKind.wrap .u8 n := by
    rw [Int.tmod_eq_emod_of_nonneg h]
    simp [IntKind.wrap, IntKind.signed, IntKind.bits]
  simp only [F30.F, e1, e2, e3, two]

/-- A record's bytes. -/
def wr (n : Int) : Int := IntKind.wrap .u8 (IntKind.wrap .i64 (n + 100))
def nine (x : S53) : List Int := [x.f5, x.f6, x.f7, x.f8, x.f9, x.f10, x.f12, x.f13, x.f14]
def hd3 (x : S53) : List Int := [IntKind.wrap .u8 x.f3, IntKind.wrap .u8 x.f4, IntKind.wrap .u8 x.f11]
def szs (x : S53) : List Int := [IntKind.wrap .u8 (x.f0.size : Int), IntKind.wrap .u8 (x.f1.size : Int), IntKind.wrap .u8 (x.f2.size : Int)]
def body (x : S53) : List Int := hd3 x ++ (nine x).map wr ++ szs x ++ bytesI x.f0 ++ bytesI x.f1 ++ bytesI x.f2
def smallN (x : S53) : Prop := x.f0.size ≤ 100 ∧ x.f1.size ≤ 100 ∧ x.f2.size ≤ 100
theorem body_len (x : S53) : (body x).length = 15 + x.f0.size + x.f1.size + x.f2.size := by
  unfold body
  simp only [List.length_append, bytesI_len, List.length_map]
  simp [hd3, nine, szs]
theorem body_oct (x : S53) : Oct (body x) := by
  unfold body
  refine Oct.app (Oct.app (Oct.app (Oct.app (Oct.app ?_ ?_) ?_) (bytesI_oct _)) (bytesI_oct _)) (bytesI_oct _)
  · intro y hy
    simp only [hd3, List.mem_cons, List.not_mem_nil, or_false] at hy
    rcases hy with rfl | rfl | rfl <;> exact wu8 _
  · intro y hy
    obtain ⟨z, _, rfl⟩ := List.mem_map.1 hy
    exact wu8 _
  · intro y hy
    simp only [szs, List.mem_cons, List.not_mem_nil, or_false] at hy
    rcases hy with rfl | rfl | rfl <;> exact wu8 _

theorem F31.l0_ok (x : S53) : F31.l0 (((nine x).length : Int), 0, x.f0, x.f1, x.f2, x.f3, x.f4, x.f5, x.f6, x.f7, x.f8, x.f9, x.f10, x.f11, x.f12, x.f13, x.f14, hd3 x, nine x) = some (x.f0, x.f1, x.f2, x.f3, x.f4, x.f5, x.f6, x.f7, x.f8, x.f9, x.f10, x.f11, x.f12, x.f13, x.f14, hd3 x ++ (nine x).map wr) := by
  have hn : (nine x).length = 9 := rfl
  have hz : hd3 x ++ ((nine x).take 0).map wr = hd3 x := by simp
  conv => lhs; rw [← hz]
  exact lim_run (f := F31.l0.b) (fun i => (((nine x).length : Int), (i : Int), x.f0, x.f1, x.f2, x.f3, x.f4, x.f5, x.f6, x.f7, x.f8, x.f9, x.f10, x.f11, x.f12, x.f13, x.f14, hd3 x ++ ((nine x).take i).map wr, nine x)) (nine x).length
    (y := (x.f0, x.f1, x.f2, x.f3, x.f4, x.f5, x.f6, x.f7, x.f8, x.f9, x.f10, x.f11, x.f12, x.f13, x.f14, hd3 x ++ (nine x).map wr)) (fun i hi => by
      have d1 : decide ((i : Int) < ((nine x).length : Int)) = true := dT (by omega)
      have d2 : decide ((0 : Int) ≤ (i : Int)) = true := dT (by omega)
      have w : Go.IntKind.wrap .i64 ((i : Int) + 1) = ((i + 1 : Nat) : Int) := by rw [w64 (by omega) (by omega)]; rfl
      have hl : (hd3 x ++ ((nine x).take i).map wr).length ≤ 12 := by simp [hd3]; omega
      have e := map_take_succ (f := wr) (d := 0) hi
      have e' : hd3 x ++ ((nine x).take i).map wr ++ (IntKind.wrap .u8 (IntKind.wrap .i64 ((nine x).getD i 0 + 100)) :: []) = hd3 x ++ ((nine x).take (i + 1)).map wr := by rw [← e, List.append_assoc]; rfl
      have d3 : decide ((hd3 x ++ ((nine x).take i).map wr).length + (IntKind.wrap .u8 (IntKind.wrap .i64 ((nine x).getD i 0 + 100)) :: []).length ≤ 274877906944) = true := dT (by simp only [List.length_cons, List.length_nil]; omega)
      simp only [F31.l0.b, d1, d2, Bool.and_self, cT, Int.toNat_natCast, w, d3, e'])
    (by
      have d1 : decide (((nine x).length : Int) < ((nine x).length : Int)) = false := dF (by omega)
      simp only [F31.l0.b, d1, cF, List.take_length])

def tx3 (x : S53) : List ByteArray := [x.f0, x.f1, x.f2]
def wsz (t : ByteArray) : Int := IntKind.wrap .u8 (t.size : Int)
theorem F31.l2_ok (x : S53) (hd : List Int) (hh : hd.length ≤ 100) : F31.l2 (((tx3 x).length : Int), 0, x.f0, x.f1, x.f2, x.f3, x.f4, x.f5, x.f6, x.f7, x.f8, x.f9, x.f10, x.f11, x.f12, x.f13, x.f14, hd, tx3 x) = some (x.f0, x.f1, x.f2, x.f3, x.f4, x.f5, x.f6, x.f7, x.f8, x.f9, x.f10, x.f11, x.f12, x.f13, x.f14, hd ++ szs x) := by
  have hn : (tx3 x).length = 3 := rfl
  have hz : hd ++ ((tx3 x).take 0).map wsz = hd := by simp
  have hs : szs x = (tx3 x).map wsz := rfl
  rw [hs]
  conv => lhs; rw [← hz]
  exact lim_run (f := F31.l2.b) (fun i => (((tx3 x).length : Int), (i : Int), x.f0, x.f1, x.f2, x.f3, x.f4, x.f5, x.f6, x.f7, x.f8, x.f9, x.f10, x.f11, x.f12, x.f13, x.f14, hd ++ ((tx3 x).take i).map wsz, tx3 x)) (tx3 x).length
    (y := (x.f0, x.f1, x.f2, x.f3, x.f4, x.f5, x.f6, x.f7, x.f8, x.f9, x.f10, x.f11, x.f12, x.f13, x.f14, hd ++ (tx3 x).map wsz)) (fun i hi => by
      have d1 : decide ((i : Int) < ((tx3 x).length : Int)) = true := dT (by omega)
      have d2 : decide ((0 : Int) ≤ (i : Int)) = true := dT (by omega)
      have w : Go.IntKind.wrap .i64 ((i : Int) + 1) = ((i + 1 : Nat) : Int) := by rw [w64 (by omega) (by omega)]; rfl
      have hl : (hd ++ ((tx3 x).take i).map wsz).length ≤ 103 := by simp; omega
      have e := map_take_succ (f := wsz) (d := E0) hi
      have e' : hd ++ ((tx3 x).take i).map wsz ++ (IntKind.wrap .u8 (((tx3 x).getD i E0).size : Int) :: []) = hd ++ ((tx3 x).take (i + 1)).map wsz := by rw [← e, List.append_assoc]; rfl
      have d3 : decide ((hd ++ ((tx3 x).take i).map wsz).length + (IntKind.wrap .u8 (((tx3 x).getD i E0).size : Int) :: []).length ≤ 274877906944) = true := dT (by simp only [List.length_cons, List.length_nil]; omega)
      have hE : (ByteArray.mk (Array.mk ([] : List UInt8))) = E0 := rfl
      simp only [F31.l2.b, d1, d2, Bool.and_self, cT, Int.toNat_natCast, w, hE, d3, e'])
    (by
      have d1 : decide (((tx3 x).length : Int) < ((tx3 x).length : Int)) = false := dF (by omega)
      simp only [F31.l2.b, d1, cF, List.take_length])

theorem F31.ok (x : S53) (h : smallN x) : F31.F (x.f0, x.f1, x.f2, x.f3, x.f4, x.f5, x.f6, x.f7, x.f8, x.f9, x.f10, x.f11, x.f12, x.f13, x.f14) = some (body x) := by
  obtain ⟨h0, h1, h2⟩ := h
  have l0 := F31.l0_ok x
  have e1 : (hd3 x ++ (nine x).map wr).length = 12 := rfl
  have l2 := F31.l2_ok x (hd3 x ++ (nine x).map wr) (by omega)
  have e2 : (hd3 x ++ (nine x).map wr ++ szs x).length = 15 := rfl
  have b0 := bytesI_len x.f0
  have b1 := bytesI_len x.f1
  have b2 := bytesI_len x.f2
  have d1 : decide ((hd3 x ++ (nine x).map wr ++ szs x).length + (bytesI x.f0).length ≤ 274877906944) = true := dT (by omega)
  have d2 : decide ((hd3 x ++ (nine x).map wr ++ szs x ++ bytesI x.f0).length + (bytesI x.f1).length ≤ 274877906944) = true := dT (by rw [List.length_append]; omega)
  have d3 : decide ((hd3 x ++ (nine x).map wr ++ szs x ++ bytesI x.f0 ++ bytesI x.f1).length + (bytesI x.f2).length ≤ 274877906944) = true := dT (by rw [List.length_append, List.length_append]; omega)
  unfold nine hd3 at l0
  unfold tx3 nine hd3 at l2
  unfold body
  unfold nine hd3 at d1 d2 d3 ⊢
  simp only [F31.F, l0, bS, l2, d1, d2, d3, cT]

theorem F29.l0_ok (x : S53) : F29.l0 (0, x.f0, x.f1, x.f2, x.f3, x.f4, x.f5, x.f6, x.f7, x.f8, x.f9, x.f10, x.f11, x.f12, x.f13, x.f14, hd3 x, nine x) = some (x.f0, x.f1, x.f2, x.f3, x.f4, x.f5, x.f6, x.f7, x.f8, x.f9, x.f10, x.f11, x.f12, x.f13, x.f14, hd3 x ++ (nine x).map wr) := by
  have hn : (nine x).length = 9 := rfl
  have hz : hd3 x ++ ((nine x).take 0).map wr = hd3 x := by simp
  conv => lhs; rw [← hz]
  exact lim_run (f := F29.l0.b) (fun i => ((i : Int), x.f0, x.f1, x.f2, x.f3, x.f4, x.f5, x.f6, x.f7, x.f8, x.f9, x.f10, x.f11, x.f12, x.f13, x.f14, hd3 x ++ ((nine x).take i).map wr, nine x)) (nine x).length
    (y := (x.f0, x.f1, x.f2, x.f3, x.f4, x.f5, x.f6, x.f7, x.f8, x.f9, x.f10, x.f11, x.f12, x.f13, x.f14, hd3 x ++ (nine x).map wr)) (fun i hi => by
      have d1 : decide ((i : Int) < ((nine x).length : Int)) = true := dT (by omega)
      have d2 : decide ((0 : Int) ≤ (i : Int)) = true := dT (by omega)
      have w : Go.IntKind.wrap .i64 ((i : Int) + 1) = ((i + 1 : Nat) : Int) := by rw [w64 (by omega) (by omega)]; rfl
      have hl : (hd3 x ++ ((nine x).take i).map wr).length ≤ 12 := by simp [hd3]; omega
      have e := map_take_succ (f := wr) (d := 0) hi
      have e' : hd3 x ++ ((nine x).take i).map wr ++ (IntKind.wrap .u8 (IntKind.wrap .i64 ((nine x).getD i 0 + 100)) :: []) = hd3 x ++ ((nine x).take (i + 1)).map wr := by rw [← e, List.append_assoc]; rfl
      have d3 : decide ((hd3 x ++ ((nine x).take i).map wr).length + (IntKind.wrap .u8 (IntKind.wrap .i64 ((nine x).getD i 0 + 100)) :: []).length ≤ 274877906944) = true := dT (by simp only [List.length_cons, List.length_nil]; omega)
      simp only [F29.l0.b, d1, d2, Bool.and_self, cT, Int.toNat_natCast, w, d3, e'])
    (by
      have d1 : decide (((nine x).length : Int) < ((nine x).length : Int)) = false := dF (by omega)
      simp only [F29.l0.b, d1, cF, List.take_length])

/-- A whole record. -/
def recR (x : S53) : List Int := [82] ++ two ((body x).length : Int) ++ body x ++ two (sumR (body x))
theorem two_len (n : Int) : (two n).length = 2 := rfl
theorem recR_len {x : S53} (h : smallN x) : (recR x).length ≤ 400 := by
  obtain ⟨h0, h1, h2⟩ := h
  unfold recR
  simp only [List.length_append, two_len, body_len, List.length_cons, List.length_nil]
  omega

theorem F29.ok (x : S53) (h : smallN x) : F29.F (x.f0, x.f1, x.f2, x.f3, x.f4, x.f5, x.f6, x.f7, x.f8, x.f9, x.f10, x.f11, x.f12, x.f13, x.f14) = some (recR x) := by
  obtain ⟨h0, h1, h2⟩ := h
  have l0 := F29.l0_ok x
  have hb := body_len x
  have e1 : (hd3 x ++ (nine x).map wr).length = 12 := rfl
  have s1 : (x.f0 ++ x.f1).size = x.f0.size + x.f1.size := ByteArray.size_append
  have s2 : (x.f0 ++ x.f1 ++ x.f2).size = x.f0.size + x.f1.size + x.f2.size := by rw [ByteArray.size_append, s1]
  have hbd : hd3 x ++ (nine x).map wr ++ szs x ++ bytesI (x.f0 ++ x.f1 ++ x.f2) = body x := by
    rw [bytesI_app, bytesI_app]; unfold body; simp only [List.append_assoc]
  have d1 : decide ((hd3 x ++ (nine x).map wr).length + (szs x).length ≤ 274877906944) = true := dT (by rw [e1]; simp [szs])
  have d2 : decide (x.f0.size + x.f1.size ≤ 274877906944) = true := dT (by omega)
  have d3 : decide ((x.f0 ++ x.f1).size + x.f2.size ≤ 274877906944) = true := dT (by omega)
  have d4 : decide ((x.f0 ++ x.f1 ++ x.f2).size ≤ 274877906944) = true := dT (by omega)
  have d5 : decide ((hd3 x ++ (nine x).map wr ++ szs x).length + (bytesI (x.f0 ++ x.f1 ++ x.f2)).length ≤ 274877906944) = true := dT (by
    rw [bytesI_len, show (hd3 x ++ (nine x).map wr ++ szs x).length = 15 from rfl]; omega)
  have f30 := F30.ok (n := ((body x).length : Int)) (by omega) (by omega)
  have hs := sumR_bd (body_oct x)
  have f44 := F44.ok (body x) (by omega)
  have f30' := F30.ok (n := sumR (body x)) hs.1 (by omega)
  have d6 : decide (((82 : Int) :: []).length + (two ((body x).length : Int)).length ≤ 274877906944) = true := dT (by simp [two])
  have d7 : decide (((82 : Int) :: [] ++ two ((body x).length : Int)).length + (body x).length ≤ 274877906944) = true := dT (by rw [List.length_append, two_len]; simp; omega)
  have d8 : decide (((82 : Int) :: [] ++ two ((body x).length : Int) ++ body x).length + (two (sumR (body x))).length ≤ 274877906944) = true := dT (by rw [List.length_append, List.length_append, two_len, two_len]; simp; omega)
  have hu : (Go.IntKind.wrap .u8 x.f3 :: Go.IntKind.wrap .u8 x.f4 :: Go.IntKind.wrap .u8 x.f11 :: []) = hd3 x := rfl
  have hn : (x.f5 :: x.f6 :: x.f7 :: x.f8 :: x.f9 :: x.f10 :: x.f12 :: x.f13 :: x.f14 :: []) = nine x := rfl
  have hz : (Go.IntKind.wrap .u8 (x.f0.size : Int) :: Go.IntKind.wrap .u8 (x.f1.size : Int) :: Go.IntKind.wrap .u8 (x.f2.size : Int) :: []) = szs x := rfl
  simp only [F29.F, hu, hn, l0, bS, hz, d1, d2, d3, d4, d5, cT, hbd, f30, d6, d7, f44, f30', d8]
  rfl

end Go.Proofs.YtiogkndjoinpoaaDoor.AX

/- Files of features: the law, plainly. No conditions. -/
namespace Go.Proofs.YtiogkndjoinpoaaDoor.AX
open Go

theorem name_size {s : ByteArray} (h : nameR s = true) : s.size ≤ 40 := by
  unfold nameR at h
  rw [Bool.and_eq_true, Bool.and_eq_true] at h
  have := of_decide_eq_true h.1.2
  omega
theorem isE_size {s : ByteArray} (h : isE s = true) : s.size = 0 := by
  unfold isE at h
  rw [← beq_toListBytes, MapKept.bytes_beq] at h
  subst h; rfl
theorem feat_small {x : S53} (h : featB x = true) : smallN x := by
  unfold featB at h
  cases hn : nameB x with
  | true => rw [hn] at h; simp at h
  | false =>
    unfold nameB at hn
    simp only [Bool.or_eq_false_iff, Bool.and_eq_false_iff, Bool.not_eq_false'] at hn
    obtain ⟨⟨h0, h1⟩, h2⟩ := hn
    have g0 := name_size h0
    have g1 : x.f1.size ≤ 40 := by
      rcases h1 with h | h
      · have := isE_size h; omega
      · exact name_size h
    have g2 : x.f2.size ≤ 40 := by
      rcases h2 with h | h
      · have := isE_size h; omega
      · exact name_size h
    exact ⟨by omega, by omega, by omega⟩
theorem errR_feat {l : List S53} (h : errR l = none) : ∀ x ∈ l, featB x = true := by
  unfold errR at h
  split at h
  · cases h
  · split at h
    · cases h
    · split at h
      · cases h
      · rename_i u hb
        exact badG_all hb

def hdr : List Int := [80, 65, 82, 84, 1]
/-- A file's bytes. -/
def filR (l : List S53) : List Int := hdr ++ l.flatMap recR ++ [69] ++ two (l.length : Int)
noncomputable def fileR (l : List S53) : List Int × Int := match errR l with
  | some e => ([], e.1)
  | none => (filR l, 0)

theorem fl_len : ∀ {l : List S53}, (∀ x ∈ l, smallN x) → (l.flatMap recR).length ≤ 400 * l.length
  | [], _ => by simp
  | x :: l, h => by
    have h1 := recR_len (h x (by simp))
    have h2 := fl_len (l := l) fun y hy => h y (by simp [hy])
    simp only [List.flatMap_cons, List.length_append, List.length_cons]
    omega
theorem flat_take {l : List S53} {i : Nat} (hi : i < l.length) : (l.take i).flatMap recR ++ recR (l.getD i z53) = (l.take (i + 1)).flatMap recR := by
  rw [← List.take_append_getElem hi, List.flatMap_append, getD_lt hi]
  simp

theorem F16.l0_ok {l : List S53} (hl : l.length ≤ 30) (h : ∀ x ∈ l, smallN x) : F16.l0 ((l.length : Int), 0, l, hdr) = some (l, hdr ++ l.flatMap recR) := by
  have hz : hdr ++ (l.take 0).flatMap recR = hdr := by simp
  conv => lhs; rw [← hz]
  exact lim_run (f := F16.l0.b) (fun i => ((l.length : Int), (i : Int), l, hdr ++ (l.take i).flatMap recR)) l.length (y := (l, hdr ++ l.flatMap recR)) (fun i hi => by
      have d1 : decide ((i : Int) < (l.length : Int)) = true := dT (by omega)
      have d2 : decide ((0 : Int) ≤ (i : Int)) = true := dT (by omega)
      have w : Go.IntKind.wrap .i64 ((i : Int) + 1) = ((i + 1 : Nat) : Int) := by rw [w64 (by omega) (by omega)]; rfl
      have hx : smallN (l.getD i z53) := by rw [getD_lt hi]; exact h _ (List.getElem_mem hi)
      have f31 := F31.ok _ hx
      have hb := body_len (l.getD i z53)
      have hx' := hx
      obtain ⟨x0, x1, x2⟩ := hx'
      have f33 := F33.ok (body (l.getD i z53)) (by omega)
      have hal := fl_len (l := l.take i) fun y hy => h y (List.mem_of_mem_take hy)
      have hal2 : (hdr ++ (l.take i).flatMap recR).length ≤ 20000 := by
        have e1 : (l.take i).length ≤ 30 := by rw [List.length_take]; omega
        have e2 : hdr.length = 5 := rfl
        rw [List.length_append]
        have : 400 * (l.take i).length ≤ 400 * 30 := Nat.mul_le_mul_left _ e1
        omega
      generalize hA : hdr ++ (l.take i).flatMap recR = A at hal2
      have hrec : A ++ (82 :: []) ++ two ((body (l.getD i z53)).length : Int) ++ body (l.getD i z53) ++ two (sumR (body (l.getD i z53))) = hdr ++ (l.take (i + 1)).flatMap recR := by
        rw [← flat_take hi, ← hA]; unfold recR; simp only [List.append_assoc]
      have d3 : decide (A.length + (82 :: []).length ≤ 274877906944) = true := dT (by simp only [List.length_cons, List.length_nil]; omega)
      have d4 : decide ((A ++ ((82 : Int) :: [])).length + (two ((body (l.getD i z53)).length : Int)).length ≤ 274877906944) = true := dT (by rw [List.length_append, two_len]; simp only [List.length_cons, List.length_nil]; omega)
      have d5 : decide ((A ++ ((82 : Int) :: []) ++ two ((body (l.getD i z53)).length : Int)).length + (body (l.getD i z53)).length ≤ 274877906944) = true := dT (by rw [List.length_append, List.length_append, two_len]; simp only [List.length_cons, List.length_nil]; omega)
      have d6 : decide ((A ++ ((82 : Int) :: []) ++ two ((body (l.getD i z53)).length : Int) ++ body (l.getD i z53)).length + (two (sumR (body (l.getD i z53)))).length ≤ 274877906944) = true := dT (by rw [List.length_append, List.length_append, List.length_append, two_len, two_len]; simp only [List.length_cons, List.length_nil]; omega)
      simp only [F16.l0.b, d1, d2, Bool.and_self, cT, Int.toNat_natCast, f31, bS, d3, F32.ok, d4, d5, f33, d6, w, hrec])
    (by
      have d1 : decide ((l.length : Int) < (l.length : Int)) = false := dF (by omega)
      simp only [F16.l0.b, d1, cF, List.take_length])

theorem F15.l0_ok {l : List S53} (hl : l.length ≤ 30) (h : ∀ x ∈ l, smallN x) : F15.l0 (0, l, hdr) = some (l, hdr ++ l.flatMap recR) := by
  have hz : hdr ++ (l.take 0).flatMap recR = hdr := by simp
  conv => lhs; rw [← hz]
  exact lim_run (f := F15.l0.b) (fun i => ((i : Int), l, hdr ++ (l.take i).flatMap recR)) l.length (y := (l, hdr ++ l.flatMap recR)) (fun i hi => by
      have d1 : decide ((i : Int) < (l.length : Int)) = true := dT (by omega)
      have d2 : decide ((0 : Int) ≤ (i : Int)) = true := dT (by omega)
      have w : Go.IntKind.wrap .i64 ((i : Int) + 1) = ((i + 1 : Nat) : Int) := by rw [w64 (by omega) (by omega)]; rfl
      have hx : smallN (l.getD i z53) := by rw [getD_lt hi]; exact h _ (List.getElem_mem hi)
      have f29 := F29.ok _ hx
      have hr := recR_len hx
      have hal := fl_len (l := l.take i) fun y hy => h y (List.mem_of_mem_take hy)
      have hal2 : (hdr ++ (l.take i).flatMap recR).length ≤ 20000 := by
        have e1 : (l.take i).length ≤ 30 := by rw [List.length_take]; omega
        have e2 : hdr.length = 5 := rfl
        rw [List.length_append]
        have : 400 * (l.take i).length ≤ 400 * 30 := Nat.mul_le_mul_left _ e1
        omega
      have d3 : decide ((hdr ++ (l.take i).flatMap recR).length + (recR (l.getD i z53)).length ≤ 274877906944) = true := dT (by omega)
      have e : hdr ++ (l.take i).flatMap recR ++ recR (l.getD i z53) = hdr ++ (l.take (i + 1)).flatMap recR := by rw [← flat_take hi, List.append_assoc]
      simp only [F15.l0.b, d1, d2, Bool.and_self, cT, Int.toNat_natCast, f29, bS, d3, w, e])
    (by
      have d1 : decide ((l.length : Int) < (l.length : Int)) = false := dF (by omega)
      simp only [F15.l0.b, d1, cF, List.take_length])

theorem fil_len {l : List S53} (hl : l.length ≤ 30) (h : ∀ x ∈ l, smallN x) : (hdr ++ l.flatMap recR).length ≤ 20000 := by
  have h1 := fl_len h
  have e2 : hdr.length = 5 := rfl
  rw [List.length_append]
  have : 400 * l.length ≤ 400 * 30 := Nat.mul_le_mul_left _ hl
  omega
theorem fileR_len (l : List S53) : (fileR l).1.length ≤ 30000 := by
  unfold fileR
  cases he : errR l with
  | some e => simp
  | none =>
    have := fil_len (errR_none he).1 fun x hx => feat_small (errR_feat he x hx)
    simp only [filR, List.length_append, two_len, List.length_cons, List.length_nil] at this ⊢
    omega

theorem F16.ok (l : List S53) : F16.F l = some (fileR l) := by
  have f26 := F26.ok l
  unfold fileR
  cases he : errR l with
  | some e =>
    rw [he] at f26
    have q : (e.1 != 0) = true := nT (errR_ne he)
    simp only [F16.F, f26, bS, q, cT]
  | none =>
    rw [he] at f26
    have q : ((0 : Int) != 0) = false := rfl
    obtain ⟨hl, _, _⟩ := errR_none he
    have hs : ∀ x ∈ l, smallN x := fun x hx => feat_small (errR_feat he x hx)
    have l0 := F16.l0_ok hl hs
    have hfl := fil_len hl hs
    have d1 : decide ((hdr ++ l.flatMap recR).length + (69 :: []).length ≤ 274877906944) = true := dT (by simp only [List.length_cons, List.length_nil]; omega)
    have d2 : decide ((hdr ++ l.flatMap recR ++ ((69 : Int) :: [])).length + (two (l.length : Int)).length ≤ 274877906944) = true := dT (by rw [List.length_append, two_len]; simp only [List.length_cons, List.length_nil]; omega)
    unfold filR
    rw [show hdr = (80 :: (65 :: (82 :: (84 :: (1 :: []))))) from rfl] at l0 d1 d2 ⊢
    simp only [F16.F, f26, bS, q, cF, l0, d1, cT, F32.ok, d2]

theorem F15.ok (l : List S53) : F15.F l = some (fileR l) := by
  have f23 := F23.ok l
  unfold fileR
  cases he : errR l with
  | some e =>
    rw [he] at f23
    have q : (e.1 != 0) = true := nT (errR_ne he)
    simp only [F15.F, f23, bS, q, cT]
  | none =>
    rw [he] at f23
    have q : ((0 : Int) != 0) = false := rfl
    obtain ⟨hl, _, _⟩ := errR_none he
    have hs : ∀ x ∈ l, smallN x := fun x hx => feat_small (errR_feat he x hx)
    have l0 := F15.l0_ok hl hs
    have hfl := fil_len hl hs
    have f30 := F30.ok (n := (l.length : Int)) (by omega) (by omega)
    have d1 : decide ((hdr ++ l.flatMap recR).length + (69 :: []).length ≤ 274877906944) = true := dT (by simp only [List.length_cons, List.length_nil]; omega)
    have d2 : decide ((hdr ++ l.flatMap recR ++ ((69 : Int) :: [])).length + (two (l.length : Int)).length ≤ 274877906944) = true := dT (by rw [List.length_append, two_len]; simp only [List.length_cons, List.length_nil]; omega)
    unfold filR
    rw [show hdr = (80 :: (65 :: (82 :: (84 :: (1 :: []))))) from rfl] at l0 d1 d2 ⊢
    simp only [F15.F, f23, bS, q, cF, l0, d1, cT, f30, d2]

/- bytes compared, marked -/
theorem F17.ok (p : List Int) (h : p.length ≤ 1048576) : F17.F (p, p) = some true := by
  have := lim_run (f := F17.l0.b) (fun i => ((i : Int), p, p)) p.length (y := .inr ()) (fun i hi => by
    have d1 : decide ((i : Int) < (p.length : Int)) = true := dT (by omega)
    have d2 : decide ((0 : Int) ≤ (i : Int)) = true := dT (by omega)
    have w : Go.IntKind.wrap .i64 ((i : Int) + 1) = ((i + 1 : Nat) : Int) := by rw [w64 (by omega) (by omega)]; rfl
    simp (disch := rfl) only [F17.l0.b, d1, d2, nF, w, Bool.and_self, cT, cF, bS, Bool.not_true])
    (by
      have d1 : decide ((p.length : Int) < (p.length : Int)) = false := dF (by omega)
      simp (disch := rfl) only [F17.l0.b, d1, cF])
  have n0 : (((p.length : Int)) != (p.length : Int)) = false := nF rfl
  simp only [F17.F, n0, cF]
  exact congrArg (fun q : Option (Bool ⊕ Unit) => q.bind fun q => match q with | .inl y => some y | .inr y => some true) this

def gB (k : Int) (_ : Int) : Int := IntKind.wrap .u8 k
theorem F18.ok (l : List Int) (k : Int) (h : l.length ≤ 1048576) (hk : 0 ≤ k) (hk2 : k ≤ 100000000) : F18.F (l, k) = some (k + (l.length : Int), mkL gB (fun _ => 1) k l, ()) := by
  have := lim_run (f := F18.l0.b) (fun i => (mkK (fun _ => 1) k (l.take i), (i : Int), mkAt gB (fun _ => 1) k l i)) l.length (y := (k + (l.length : Int), mkL gB (fun _ => 1) k l)) (fun i hi => by
    have e := mkAt_set (g := gB) (c := fun _ => 1) (k := k) (d := 0) hi
    have e2 : mkK (fun _ => (1 : Int)) k (l.take i) = k + i := by rw [mkK_const]; simp; omega
    have e3 : mkK (fun _ => (1 : Int)) k (l.take (i + 1)) = k + (i + 1 : Nat) := by rw [mkK_const]; simp; omega
    have hl : (mkAt gB (fun _ => 1) k l i).length = l.length := mkAt_len
    rw [e2] at e ⊢
    rw [e3]
    have d1 : decide ((i : Int) < ((mkAt gB (fun _ => 1) k l i).length : Int)) = true := dT (by omega)
    have d2 : decide ((0 : Int) ≤ (i : Int)) = true := dT (by omega)
    have w : Go.IntKind.wrap .i64 ((i : Int) + 1) = ((i + 1 : Nat) : Int) := by rw [w64 (by omega) (by omega)]; rfl
    have w2 : Go.IntKind.wrap .i64 (k + (i : Int) + 1) = k + ((i + 1 : Nat) : Int) := by rw [w64 (by omega) (by omega)]; omega
    have hg : ∀ x, gB (k + (i : Int)) x = IntKind.wrap .u8 (k + (i : Int)) := fun _ => rfl
    rw [hg] at e
    simp only [F18.l0.b, d1, d2, Bool.and_self, cT, w, w2, Int.toNat_natCast, e])
    (by
      have d1 : decide ((l.length : Int) < ((mkL gB (fun _ => 1) k l).length : Int)) = false := dF (by rw [mkL_len]; omega)
      simp only [F18.l0.b, mkAt_all, d1, cF, List.take_length, mkK_const, Int.one_mul])
  simp only [F18.F]
  exact congrArg (fun q : Option (Int × List Int) => q.bind fun y => some (y.1, y.2, ())) (by simpa [mkAt_zero, mkK] using this)

theorem F19.ok (l : List Int) (k : Int) (h : l.length ≤ 1048576) (hk : 0 ≤ k) (hk2 : k ≤ 100000000) : F19.F (mkL gB (fun _ => 1) k l, k) = some (k + (l.length : Int)) := by
  have := lim_run (f := F19.l0.b) (fun i => (mkK (fun _ => 1) k (l.take i), (i : Int), mkL gB (fun _ => 1) k l)) l.length (y := .inr (k + (l.length : Int))) (fun i hi => by
    have e := mkL_get (g := gB) (c := fun _ => 1) (k := k) (d := 0) hi
    have e2 : mkK (fun _ => (1 : Int)) k (l.take i) = k + i := by rw [mkK_const]; simp; omega
    have e3 : mkK (fun _ => (1 : Int)) k (l.take (i + 1)) = k + (i + 1 : Nat) := by rw [mkK_const]; simp; omega
    rw [e2] at e ⊢
    rw [e3]
    have d1 : decide ((i : Int) < ((mkL gB (fun _ => 1) k l).length : Int)) = true := dT (by rw [mkL_len]; omega)
    have d2 : decide ((0 : Int) ≤ (i : Int)) = true := dT (by omega)
    have w : Go.IntKind.wrap .i64 ((i : Int) + 1) = ((i + 1 : Nat) : Int) := by rw [w64 (by omega) (by omega)]; rfl
    have w2 : Go.IntKind.wrap .i64 (k + (i : Int) + 1) = k + ((i + 1 : Nat) : Int) := by rw [w64 (by omega) (by omega)]; omega
    have hg : ∀ x, gB (k + (i : Int)) x = IntKind.wrap .u8 (k + (i : Int)) := fun _ => rfl
    rw [hg] at e
    have n0 : (IntKind.wrap .u8 (k + (i : Int)) != IntKind.wrap .u8 (k + (i : Int))) = false := nF rfl
    simp only [F19.l0.b, d1, d2, Bool.and_self, cT, cF, w, w2, Int.toNat_natCast, e, n0])
    (by
      have d1 : decide ((l.length : Int) < ((mkL gB (fun _ => 1) k l).length : Int)) = false := dF (by rw [mkL_len]; omega)
      simp only [F19.l0.b, d1, cF, List.take_length, mkK_const, Int.one_mul])
  simp only [F19.F]
  exact congrArg (fun q : Option (Int ⊕ Int) => q.bind fun q => match q with | .inl y => some y | .inr y => some y) (by simpa [mkK] using this)

theorem F4.law_of (l : List S45) (hl : (l.length : Int) ≤ 9223372036854775807) (h : ∀ x ∈ l, okSz x) : F4.F l = some true := by
  have e6 := F6.ok l hl h 1048576 (by decide) (by decide)
  have m1 : decide ((-1 : Int) < 0) = true := rfl
  by_cases h0 : 1048576 - (l.length : Int) < 0
  · rw [if_pos h0] at e6; simp only [F4.F, e6, bS, m1, cT]
  rw [if_neg h0] at e6
  by_cases h1 : 1048576 - (l.length : Int) - totJ l < 0
  · rw [if_pos h1] at e6; simp only [F4.F, e6, bS, m1, cT]
  rw [if_neg h1] at e6
  have e8 := F8.ok l (by omega)
  have e15 := F15.ok (l.map c45)
  have e16 := F16.ok (l.map c45)
  have n1 := fileR_len (l.map c45)
  generalize fileR (l.map c45) = q at e15 e16 n1
  obtain ⟨q0, q1⟩ := q
  dsimp only at n1
  have e17 := F17.ok q0 (by omega)
  have e11 := F11.ok (l.map c45) (by simp; omega)
  obtain ⟨r, e12⟩ := F12.ok (l.map c45) (by simp; omega)
  have e18 := F18.ok q0 1 (by omega) (by decide) (by decide)
  have e19 := F19.ok q0 1 (by omega) (by decide) (by decide)
  have d1 : decide (1 + 15 * ((l.map c45).length : Int) < 0) = false := dF (by omega)
  have d2 : decide (1 + (q0.length : Int) < 0) = false := dF (by omega)
  have n1 : (q1 != q1) = false := nF rfl
  have n2 : (1 + (q0.length : Int) != 1 + (q0.length : Int)) = false := nF rfl
  simp only [F4.F, e6, dF h1, cF, bS, e8, e15, e16, e17, e11, e12, d1, Bool.not_true, Bool.not_false, cT, n1, Bool.or_self, Bool.or_false, Bool.false_or, e18, e19, d2, n2]

end Go.Proofs.YtiogkndjoinpoaaDoor.AX

/- The law of files of features, plainly. No conditions. -/
namespace Go.Proofs.YtiogkndjoinpoaaDoor.AX
open Go

theorem F4.law (l : List S45) (h1 : ∀ n, RowOk (U := uni) ky n 0 l) : F4.F l = some true := F4.law_of l (feats_row h1).1 (feats_row h1).2

end Go.Proofs.YtiogkndjoinpoaaDoor.AX

/- The law FnExactFileBytes answers true at every input. No conditions. -/
namespace Go.Proofs.YtiogkndjoinpoaaDoor.fnExactFileBytes
open Go.ChangeShapes Go.WideShapes Go.ChangeAt Go.RowKit Go.Proofs.YtiogkndjoinpoaaDoor.AX
open Go.ChangeMaps (open_string shut_string)
set_option maxRecDepth 100000
theorem first_eq : Rows.laid_unicode_utf8_first = Lib.firstData := by kernel_rfl
theorem accept_eq : Rows.laid_unicode_utf8_acceptRanges (H := Unit) = Lib.acceptData := by kernel_rfl
theorem own : ownKnob Tryd.prog.godebug = none := by kernel_rfl
theorem laidOut : laidOutB Tryd.prog = true := by kernel_rfl
set_option maxRecDepth 100000 in
theorem lifted (os : Os) (started : os.Started) (H : Type) (enc : TypeId × Value → H) :
    ReturnsInHanded {} Tryd.checked os 4 .any (fun w args => (Rows.fnExactFileBytesSpec.pre enc Tryd.prog Tryd.f4 [] false w args ∧ laidMetH Tryd.prog Rows.fnExactFileBytesRow.laid w) ∧ sizedMet enc Tryd.prog Tryd.f4 (OpenSpec.ofChange Rows.fnExactFileBytesSpec) false w args)
      (Rows.fnExactFileBytesSpec.post enc Tryd.prog Tryd.f4 false true false false) := by
  refine returnsInHanded_of_change_and (C := Tryd.checked) (X := fun w _ => laidMetH Tryd.prog Rows.fnExactFileBytesRow.laid w) (fun _ _ _ hh h => h.of_heap hh) own started (by kernel_rfl) Tryd.func4
    (ChangeSpec.witness_shaped (enc := enc) (C := Tryd.checked) (os := os) (X := fun w _ => laidMetH Tryd.prog Rows.fnExactFileBytesRow.laid w) false (World.laidAll Tryd.prog os Rows.fnExactFileBytesRow.laid) #[.slice none 0 0] 8 (World.laidAll_os _ _ _)
      (World.shaped_of_ZipB (by kernel_rfl) (by kernel_rfl)) (by kernel_rfl) (by kernel_rfl) (by kernel_rfl)
      (by rw [MakeChecks.laidMetH_plain _ _ _ (by kernel_rfl)]; exact laidMet_laidAll _ (by kernel_rfl) (by kernel_rfl))) ?_
  intro W base args ds gs before hval0 hW _ _ hL _
  rw [MakeChecks.laidMetH_plain _ _ _ (by kernel_rfl)] at hL
  have hT : Lib.Utf8Tabs 0 1 W := Go.Proofs.utf8Tabs_of_reads (ρ := Tryd.lays197_ren) { Tryd.lays197 with } ⟨by kernel_rfl, by kernel_rfl, by kernel_rfl, by kernel_rfl, by kernel_rfl, by kernel_rfl, by kernel_rfl⟩ (first_eq ▸ Lib.laidMet.reads hL (.tail _ (.head _))) (accept_eq ▸ Lib.laidMet.reads hL (.head _))
  have hval : ∀ (j : Nat) t v, Tryd.f4.params[j]? = some t → args[j]? = some v → Value.okWide Tryd.prog W .any base t v := hval0
  have hW' := hW
  obtain ⟨p, q, hA0, hV, rfl, hfz, hnd⟩ := hW
  have hA : DataW.TrodAll enc Tryd.prog W 0 (fun _ => true) true Tryd.f4.params.toList args.toList ds p := hA0
  rw [Tryd.params4] at hA hval
  obtain ⟨v0, vs0, d0, ds0, p0, q0, hargs, rfl, rfl, h0, r0⟩ := trodAll_cons hA
  obtain ⟨rfl, rfl, rfl⟩ := trodAll_nil r0
  obtain rfl : args = #[v0] := by cases args; simp_all
  obtain ⟨rfl, rfl⟩ := trodVars_none hV
  have k0 := h0
  have lt0 : ∀ x ∈ p0, x.block < W.heap.size := by obtain ⟨m, hm⟩ := k0; exact DataW.trod_lt m _ _ _ hm
  obtain ⟨l0, F0, i0, o0⟩ := open_slice kindsOk (k := 0) Tryd.underlying22 (List.cons_ne_nil _ _) (hval 0 22 v0 rfl rfl) h0
  clear hA0 hval0
  have hcon := F4.con l0 true (F4.law l0 o0) [v0] W [] _ ⟨[], [], F0, _, i0, ⟨rfl, rfl⟩, rfl, rfl⟩ (by simp) (by simp) (DoorOk.none hT)
  refine hcon.mono fun e W' ⟨rs, vs, G, E', hr, hR, he, hO, hfr, _, _⟩ => ?_
  obtain rfl : rs = [.val (.bool true)] := by injection hr with hr; exact hr.symm
  obtain rfl : vs = [.bool true] := by
    match vs, hR with
    | [v], ⟨_, _, ⟨h, _⟩, _, _⟩ => rw [h]
  subst he
  have bel := below_of hfr
  exact ⟨_, rfl, _, _, _, [], _, [], hW', trodAll_mk1 (shut_bool Tryd.underlying4 _), (trodAll_cons_mk (Below.trod laidOut (by kernel_rfl) (of_decide_eq_true (by kernel_rfl)) k0 bel lt0) trodAll_mk0), rfl, bel.frame _, fun h => by cases h⟩
theorem over : Rows.fnExactFileBytesRow.holds Tryd.pinned (OpenSpec.ofChange Rows.fnExactFileBytesSpec) :=
  OpenClaim.holds_of_wide 4 Tryd.f4 rfl rfl rfl rfl rfl rfl rfl ⟨rfl, rfl, rfl, rfl, rfl⟩ rfl rfl rfl rfl rfl (by kernel_rfl) Tryd.func4 (by kernel_rfl)
    (of_decide_eq_true (by kernel_rfl)) (by unfold Func.isWrapper; first | (rw [if_pos (by decide +kernel)]; kernel_rfl) | (rw [if_neg (by decide +kernel)]; exact ⟨rfl, rfl⟩))
    (fun os started H enc _ => lifted os started H enc)
theorem proved : Rows.FnExactFileBytesCardSaid :=
  Claim7.holds_tied_plain_at .later [] [.data, .pinned] true (true, "d562f6f82d3cbabb7aa23bca09f5b7e3c7a387bd27e8de96ba63058a98a8a185") false over (fun _ h => by cases h) (by kernel_rfl) (fun _ h => by cases h) fnExactFileBytes_row_tie rfl ⟨rfl, rfl⟩ (by kernel_rfl) rfl
    (fun f fn hf hfn => by
      obtain rfl : f = 4 := Option.some.inj ((show Tryd.prog.funcNamed "loop.example/g00056/laws.FnExactFileBytes" = some 4 by kernel_rfl).symm.trans hf) |>.symm
      obtain rfl : fn = Tryd.f4 := (Option.some.inj (Tryd.func4.symm.trans hfn)).symm
      exact ⟨by kernel_rfl, fun j t ht => by
        rw [Tryd.params4] at ht
        have hm : t ∈ [22] := by simpa using Array.mem_of_getElem? ht
        have hall : ([22].all fun u => !Tryd.prog.wantsStandIn u) = true := by kernel_rfl
        exact (show Tryd.prog.wantsStandIn t = false by simpa using List.all_eq_true.1 hall t hm)⟩)
    (by kernel_rfl)
end Go.Proofs.YtiogkndjoinpoaaDoor.fnExactFileBytes
namespace Go.Proofs.YtiogkndjoinpoaaDoor
theorem fnExactFileBytes_holds : Rows.FnExactFileBytesCardSaid := fnExactFileBytes.proved
end Go.Proofs.YtiogkndjoinpoaaDoor

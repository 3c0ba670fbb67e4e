/- Small facts for plain laws. No conditions. -/
import Derived.KernelRfl
import Derived.Test.YtchohkelpjfpcaaDoorRows
import Derived.WalkKit
import Derived.ProofKit
import Derived.OpenShut
import Derived.ShutString
import Derived.ChangeOld
import Derived.Below
import Derived.SizedLaws
import Derived.Test.YtchohkelpjfpcaaDoorTie
import Derived.Test.YtchohkelpjfpcaaDoorCards
import Derived.Lib.LaidU8
import Derived.Lay
import Derived.LaidOnce
import Derived.SevenTiedAt
import Derived.Test.YtchohkelpjfpcaaDoorPBc
set_option linter.unusedVariables false
set_option linter.unusedSimpArgs false
set_option linter.unusedSectionVars false
namespace Go.Proofs.YtchohkelpjfpcaaDoor.AX
open Go

theorem w64 {x : Int} (h0 : -9223372036854775808 ≤ x) (h1 : x < 9223372036854775808) : IntKind.wrap .i64 x = x := by
  unfold IntKind.wrap
  simp [IntKind.signed, IntKind.bits]
  omega

/- Not by rfl: a proof by simp then names each step, and the kernel need not find them. -/
theorem bS {α β : Type} {x : α} {f : α → Option β} : (some x).bind f = f x := by simp
theorem bN {α β : Type} {f : α → Option β} : (none : Option α).bind f = none := by simp
theorem cT {α : Type} {a b : α} : cond true a b = a := by simp
theorem cF {α : Type} {a b : α} : cond false a b = b := by simp

theorem dT {p : Prop} [Decidable p] (h : p) : decide p = true := decide_eq_true h
theorem dF {p : Prop} [Decidable p] (h : ¬ p) : decide p = false := decide_eq_false h

section
variable {α : Type} [BEq α] [LawfulBEq α] {a b : α}
theorem qT (h : a = b) : (a == b) = true := by simp [h]
theorem qF (h : ¬ a = b) : (a == b) = false := by simpa using h
theorem nT (h : ¬ a = b) : (a != b) = true := by simp [bne, qF h]
theorem nF (h : a = b) : (a != b) = false := by simp [bne, h]
end

theorem lim_in {X Y : Type} {f : X → Option (X ⊕ Y)} {x x' : X} (h : f x = some (.inl x')) : lim f x = lim f x' := by rw [lim_step, h]; rfl
theorem lim_out {X Y : Type} {f : X → Option (X ⊕ Y)} {x : X} {y : Y} (h : f x = some (.inr y)) : lim f x = some y := by rw [lim_step, h]; rfl

/-- So many rounds, told one by one. -/
theorem lim_to {X Y : Type} {f : X → Option (X ⊕ Y)} (s : Nat → X) : ∀ (n : Nat), (∀ i, i < n → f (s i) = some (.inl (s (i + 1)))) → lim f (s 0) = lim f (s n)
  | 0, _ => rfl
  | n + 1, h => by rw [lim_to s n fun i hi => h i (by omega), lim_in (h n (by omega))]
theorem lim_run {X Y : Type} {f : X → Option (X ⊕ Y)} (s : Nat → X) (n : Nat) {y : Y} (h : ∀ i, i < n → f (s i) = some (.inl (s (i + 1)))) (hn : f (s n) = some (.inr y)) : lim f (s 0) = some y := by
  rw [lim_to s n h, lim_out hn]

/-- A row looked through, until one falls. -/
theorem lim_scan {X Y α : Type} {f : X → Option (X ⊕ Y)} (s : Nat → X) (l : List α) (d : α) (p : α → Bool) {y z : Y} (h : ∀ i, i < l.length → f (s i) = some (if p (l.getD i d) then .inl (s (i + 1)) else .inr y)) (hn : f (s l.length) = some (.inr z)) :
    lim f (s 0) = some (if l.all p then z else y) := by
  have main : ∀ (n i : Nat), l.length - i ≤ n → i ≤ l.length → lim f (s i) = some (if (l.drop i).all p then z else y) := by
    intro n
    induction n with
    | zero =>
      intro i hi hi2
      have : i = l.length := by omega
      subst this
      rw [lim_out hn]; simp
    | succ n ih =>
      intro i hi hi2
      by_cases e : i = l.length
      · subst e; rw [lim_out hn]; simp
      · have hlt : i < l.length := by omega
        have hd : l.drop i = l.getD i d :: l.drop (i + 1) := by simp [List.getD, hlt]
        rw [hd, List.all_cons]
        cases hp : p (l.getD i d) with
        | true => rw [lim_in (x' := s (i + 1)) (by rw [h i hlt, hp]; rfl), ih (i + 1) (by omega) (by omega)]; simp
        | false => rw [lim_out (y := y) (by rw [h i hlt, hp]; rfl)]; simp
  simpa using main l.length 0 (by omega) (by omega)

/-- A row gone through, with something carried along. -/
theorem lim_fold {X Y α A : Type} {f : X → Option (X ⊕ Y)} (s : Nat → A → X) (l : List α) (d : α) (g : A → α → A) (I : A → Prop) {z : A → Y} (a0 : A) (h0 : I a0) (hI : ∀ a i, i < l.length → I a → I (g a (l.getD i d))) (h : ∀ i a, i < l.length → I a → f (s i a) = some (.inl (s (i + 1) (g a (l.getD i d))))) (hn : ∀ a, I a → f (s l.length a) = some (.inr (z a))) :
    lim f (s 0 a0) = some (z (l.foldl g a0)) := by
  have main : ∀ (n i : Nat) (a : A), l.length - i ≤ n → i ≤ l.length → I a → lim f (s i a) = some (z ((l.drop i).foldl g a)) := by
    intro n
    induction n with
    | zero =>
      intro i a hi hi2 ha
      have : i = l.length := by omega
      subst this
      rw [lim_out (hn a ha)]; simp
    | succ n ih =>
      intro i a hi hi2 ha
      by_cases e : i = l.length
      · subst e; rw [lim_out (hn a ha)]; simp
      · have hlt : i < l.length := by omega
        have hd : l.drop i = l.getD i d :: l.drop (i + 1) := by simp [List.getD, hlt]
        rw [hd, List.foldl_cons, lim_in (h i a hlt ha), ih (i + 1) _ (by omega) (by omega) (hI a i hlt ha)]
  simpa using main l.length 0 a0 (by omega) (by omega) h0

/-- .. with a way out. -/
def goL {α A Y : Type} (g : A → α → A ⊕ Y) : List α → A → A ⊕ Y
  | [], a => .inl a
  | x :: r, a => match g a x with
    | .inl a' => goL g r a'
    | .inr y => .inr y
theorem lim_go {X Y α A B : Type} {f : X → Option (X ⊕ Y)} (s : Nat → A → X) (l : List α) (d : α) (g : A → α → A ⊕ B) (I : A → Prop) {z : A → Y} {o : B → Y} (a0 : A) (h0 : I a0) (hI : ∀ a i a', i < l.length → I a → g a (l.getD i d) = .inl a' → I a')
    (h : ∀ i a, i < l.length → I a → f (s i a) = some (match g a (l.getD i d) with | .inl a' => .inl (s (i + 1) a') | .inr y => .inr (o y))) (hn : ∀ a, I a → f (s l.length a) = some (.inr (z a))) :
    lim f (s 0 a0) = some (Sum.elim z o (goL g l a0)) := by
  have main : ∀ (n i : Nat) (a : A), l.length - i ≤ n → i ≤ l.length → I a → lim f (s i a) = some (Sum.elim z o (goL g (l.drop i) a)) := by
    intro n
    induction n with
    | zero =>
      intro i a hi hi2 ha
      have : i = l.length := by omega
      subst this
      rw [lim_out (hn a ha)]; simp [goL]
    | succ n ih =>
      intro i a hi hi2 ha
      by_cases e : i = l.length
      · subst e; rw [lim_out (hn a ha)]; simp [goL]
      · have hlt : i < l.length := by omega
        have hd : l.drop i = l.getD i d :: l.drop (i + 1) := by simp [List.getD, hlt]
        have hf := h i a hlt ha
        rw [hd, goL]
        cases hg : g a (l.getD i d) with
        | inl a' => rw [hg] at hf; rw [lim_in hf, ih (i + 1) a' (by omega) (by omega) (hI a i a' hlt ha hg)]
        | inr y => rw [hg] at hf; rw [lim_out hf]; rfl
  simpa using main l.length 0 a0 (by omega) (by omega) h0

theorem getD_lt {α : Type} {l : List α} {i : Nat} {d : α} (h : i < l.length) : l.getD i d = l[i] := by simp [List.getD, h]

theorem set_self {α : Type} {l : List α} {i : Nat} {d : α} : l.set i (l.getD i d) = l := by
  by_cases h : i < l.length
  · rw [getD_lt h, List.set_getElem_self]
  · rw [List.set_eq_of_length_le (by omega)]

theorem getD_set {α : Type} {l : List α} {i : Nat} {d x : α} (h : i < l.length) : (l.set i x).getD i d = x := by simp [List.getD, h]

theorem set_app {α : Type} {p r : List α} {x y : α} {i : Nat} (h : i = p.length) : (p ++ x :: r).set i y = p ++ y :: r := by subst h; simp

theorem drop_cons {α : Type} {l : List α} {i : Nat} (h : i < l.length) : l.drop i = l[i] :: l.drop (i + 1) := by simp

section
variable {A B E : Type}

/-- A row laid anew, as far as i. -/
def upTo (c : A → B) (z : B) (l : List A) (i : Nat) : List B := (l.take i).map c ++ List.replicate (l.length - i) z
theorem upTo_zero {c : A → B} {z : B} {l : List A} : upTo c z l 0 = List.replicate l.length z := by simp [upTo]
theorem upTo_all {c : A → B} {z : B} {l : List A} : upTo c z l l.length = l.map c := by simp [upTo]
theorem upTo_len {c : A → B} {z : B} {l : List A} {i : Nat} (h : i ≤ l.length) : (upTo c z l i).length = l.length := by simp [upTo]; omega
theorem upTo_set {c : A → B} {z : B} {l : List A} {i : Nat} {d : A} (h : i < l.length) : (upTo c z l i).set i (c (l.getD i d)) = upTo c z l (i + 1) := by
  unfold upTo
  rw [show l.length - i = (l.length - (i + 1)) + 1 by omega, List.replicate_succ, set_app (by simp; omega), getD_lt h, ← List.take_append_getElem h, List.map_append, List.append_assoc]
  rfl

/-- Each element turned, with a number that counts on. -/
def mkL (g : Int → E → E) (c : E → Int) : Int → List E → List E
  | _, [] => []
  | k, x :: r => g k x :: mkL g c (k + c x) r
def mkK (c : E → Int) : Int → List E → Int
  | k, [] => k
  | k, x :: r => mkK c (k + c x) r
theorem mkL_len {g : Int → E → E} {c : E → Int} : ∀ {k : Int} {l : List E}, (mkL g c k l).length = l.length
  | _, [] => rfl
  | _, _ :: _ => by simp [mkL, mkL_len]
theorem mkL_app {g : Int → E → E} {c : E → Int} : ∀ {k : Int} {l r : List E}, mkL g c k (l ++ r) = mkL g c k l ++ mkL g c (mkK c k l) r
  | _, [], _ => rfl
  | k, x :: l, r => by simp [mkL, mkK, mkL_app]
theorem mkK_app {c : E → Int} : ∀ {k : Int} {l r : List E}, mkK c k (l ++ r) = mkK c (mkK c k l) r
  | _, [], _ => rfl
  | k, x :: l, r => by simp [mkK, mkK_app]
theorem mkK_take {c : E → Int} {k : Int} {l : List E} {i : Nat} {d : E} (h : i < l.length) : mkK c k (l.take (i + 1)) = mkK c k (l.take i) + c (l.getD i d) := by
  rw [← List.take_append_getElem h, mkK_app, getD_lt h]; rfl
theorem mkK_const {n : Int} : ∀ {k : Int} {l : List E}, mkK (fun _ => n) k l = k + n * l.length
  | k, [] => by simp [mkK]
  | k, x :: l => by
    simp only [mkK, mkK_const, List.length_cons]
    rw [show ((l.length + 1 : Nat) : Int) = (l.length : Int) + 1 from rfl, Int.mul_add, Int.mul_one]; omega
theorem mkK_le {c : E → Int} (hc : ∀ x, 0 ≤ c x) : ∀ {k : Int} {l : List E}, k ≤ mkK c k l
  | k, [] => Int.le_refl _
  | k, x :: l => by
    have := mkK_le hc (k := k + c x) (l := l)
    have := hc x
    simp only [mkK]; omega
def mkAt (g : Int → E → E) (c : E → Int) (k : Int) (l : List E) (i : Nat) : List E := mkL g c k (l.take i) ++ l.drop i
theorem mkAt_zero {g : Int → E → E} {c : E → Int} {k : Int} {l : List E} : mkAt g c k l 0 = l := by simp [mkAt, mkL]
theorem mkAt_all {g : Int → E → E} {c : E → Int} {k : Int} {l : List E} : mkAt g c k l l.length = mkL g c k l := by simp [mkAt]
theorem mkAt_len {g : Int → E → E} {c : E → Int} {k : Int} {l : List E} {i : Nat} : (mkAt g c k l i).length = l.length := by simp [mkAt, mkL_len]; omega
theorem mkAt_get {g : Int → E → E} {c : E → Int} {k : Int} {l : List E} {i : Nat} {d : E} (h : i < l.length) : (mkAt g c k l i).getD i d = l.getD i d := by
  unfold mkAt
  have : (mkL g c k (l.take i)).length = i := by rw [mkL_len]; simp; omega
  rw [getD_lt (by simp [this]; omega), getD_lt h, List.getElem_append_right (by omega)]
  simp [this]
theorem mkAt_set {g : Int → E → E} {c : E → Int} {k : Int} {l : List E} {i : Nat} {d : E} (h : i < l.length) : (mkAt g c k l i).set i (g (mkK c k (l.take i)) (l.getD i d)) = mkAt g c k l (i + 1) := by
  unfold mkAt
  rw [drop_cons h, set_app (by rw [mkL_len]; simp; omega), getD_lt h, ← List.take_append_getElem h, mkL_app, List.append_assoc]
  rfl
theorem mkL_get {g : Int → E → E} {c : E → Int} : ∀ {k : Int} {l : List E} {i : Nat} {d : E}, i < l.length → (mkL g c k l).getD i d = g (mkK c k (l.take i)) (l.getD i d)
  | k, x :: l, 0, d, _ => by simp [mkL, mkK]
  | k, x :: l, i + 1, d, h => by
    have := mkL_get (g := g) (c := c) (k := k + c x) (l := l) (i := i) (d := d) (by simpa using h)
    simpa [mkL, mkK, List.getD] using this
end


/-- Two rows compared, element by element. -/
theorem eq_rows {E : Type} {p q : List E} (d : E) (hl : p.length = q.length) : p = q ∨ ∃ i, i < p.length ∧ (∀ j, j < i → p.getD j d = q.getD j d) ∧ p.getD i d ≠ q.getD i d := by
  induction p generalizing q with
  | nil => cases q with
    | nil => exact .inl rfl
    | cons _ _ => simp at hl
  | cons x p ih =>
    cases q with
    | nil => simp at hl
    | cons y q =>
      by_cases h : x = y
      · subst h
        rcases ih (by simpa using hl) with h | ⟨i, h1, h2, h3⟩
        · exact .inl (by rw [h])
        · refine .inr ⟨i + 1, by simpa using h1, fun j hj => ?_, by simpa using h3⟩
          cases j with
          | zero => rfl
          | succ j => simpa using h2 j (by omega)
      · exact .inr ⟨0, by simp, fun j hj => by omega, by simpa using h⟩

end Go.Proofs.YtchohkelpjfpcaaDoor.AX

/- Names: the program and its reference agree. No conditions. -/
namespace Go.Proofs.YtchohkelpjfpcaaDoor.AX
open Go

def bt (s : ByteArray) (i : Nat) : Nat := ((s.data[i]?).getD 0).toNat
theorem bt_lt (s : ByteArray) (i : Nat) : bt s i < 256 := UInt8.toNat_lt _
theorem btAt_bt (s : ByteArray) (i : Nat) : btAt s (i : Int) = (bt s i : Int) := rfl
theorem get_bt (s : ByteArray) (i : Nat) : (s.get! i).toNat = bt s i := by
  unfold bt
  cases s with
  | mk d =>
    show (d[i]!).toNat = _
    rw [getElem!_def]
    cases d[i]? <;> rfl

theorem ext_bt (s : ByteArray) (i j : Nat) (h : i ≤ s.size) : bt (s.extract i s.size) j = bt s (i + j) := by
  unfold bt
  rw [ByteArray.data_extract, Array.getElem?_extract]
  have : s.data.size = s.size := rfl
  by_cases hj : j < min s.size s.data.size - i
  · rw [if_pos hj]
  · rw [if_neg hj, Array.getElem?_eq_none (by omega)]

theorem dec_bt (s : ByteArray) (i : Nat) (h : i < s.size) : Lib.decodeGo (s.extract i s.size) = Lib.decodeN (s.size - i) (bt s i) (bt s (i + 1)) (bt s (i + 2)) (bt s (i + 3)) := by
  have hs : (s.extract i s.size).size = s.size - i := by simp
  unfold Lib.decodeGo
  rw [if_neg (by omega), Lib.decode_at, hs]
  simp only [get_bt, Nat.zero_add, Nat.sub_zero]
  rw [ext_bt s i 0 (by omega), ext_bt s i 1 (by omega), ext_bt s i 2 (by omega), ext_bt s i 3 (by omega), Nat.add_zero]

def isA (b : Int) : Bool := ((((decide (b ≥ 97)) && (decide (b ≤ 122))) || ((decide (b ≥ 65)) && (decide (b ≤ 90)))) || (b == 95))
def is2 (r : Int) : Bool := ((((((decide (r ≥ 192)) && (decide (r ≤ 591))) && (r != 215)) && (r != 247)) || ((decide (r ≥ 913)) && (decide (r ≤ 969)))) || ((decide (r ≥ 1040)) && (decide (r ≤ 1103))))
def letR (n : Nat) (b0 b1 : Nat) : Int := if isA b0 = true then 1 else if b0 < 194 ∨ b0 > 223 ∨ n < 2 ∨ b1 < 128 ∨ b1 > 191 then 0 else if is2 (((b0 : Int) - 192) * 64 + b1 - 128) = true then 2 else 0

theorem F66.ok (s : ByteArray) (i : Nat) (h : i < s.size) (hb : s.size ≤ 1000000) : F66.F (s, (i : Int)) = some (letR (s.size - i) (bt s i) (bt s (i + 1))) := by
  have l0 := bt_lt s i
  have l1 := bt_lt s (i + 1)
  have w1 : Go.IntKind.wrap .i64 ((i : Int) + 1) = ((i + 1 : Nat) : Int) := by rw [w64 (by omega) (by omega)]; rfl
  have d1 : decide ((0 : Int) ≤ (i : Int)) = true := dT (by omega)
  have d2 : decide ((i : Int) < (s.size : Int)) = true := dT (by omega)
  have d3 : decide ((0 : Int) ≤ ((i + 1 : Nat) : Int)) = true := dT (by omega)
  unfold letR
  cases hA : isA (bt s i) with
  | true =>
    have hA' := hA
    unfold isA at hA'
    rw [if_pos rfl]
    simp only [F66.F]
    rw [btAt_bt s i]
    simp only [d1, d2, Bool.and_self, cT, hA']
  | false =>
    have hA' := hA
    unfold isA at hA'
    rw [if_neg (by decide)]
    simp only [F66.F]
    rw [w1, btAt_bt s i, btAt_bt s (i + 1)]
    simp only [d1, d2, d3, Bool.and_self, cT, hA', cF, Bool.true_and]
    by_cases c1 : bt s i < 194
    · rw [if_pos (.inl c1)]
      have e1 : decide ((bt s i : Int) < 194) = true := dT (by omega)
      simp only [e1, Bool.true_or, Bool.not_true, Bool.not_false, Bool.false_or, cT]
    · have e1 : decide ((bt s i : Int) < 194) = false := dF (by omega)
      by_cases c2 : bt s i > 223
      · rw [if_pos (.inr (.inl c2))]
        have e2 : decide ((bt s i : Int) > 223) = true := dT (by omega)
        simp only [e1, e2, Bool.true_or, Bool.or_true, Bool.not_true, Bool.not_false, Bool.false_or, cT]
      · have e2 : decide ((bt s i : Int) > 223) = false := dF (by omega)
        by_cases c3 : s.size - i < 2
        · rw [if_pos (.inr (.inr (.inl c3)))]
          have e3 : decide (((i + 1 : Nat) : Int) ≥ (s.size : Int)) = true := dT (by omega)
          have e4 : decide (((i + 1 : Nat) : Int) < (s.size : Int)) = false := dF (by omega)
          simp only [e1, e2, e3, e4, Bool.true_or, Bool.or_true, Bool.not_true, Bool.not_false, Bool.false_or, cT, cF]
        · have e3 : decide (((i + 1 : Nat) : Int) ≥ (s.size : Int)) = false := dF (by omega)
          have e4 : decide (((i + 1 : Nat) : Int) < (s.size : Int)) = true := dT (by omega)
          simp only [e1, e2, e3, e4, Bool.or_self, Bool.not_true, Bool.not_false, Bool.false_or, Bool.or_true, cT, cF]
          by_cases c4 : bt s (i + 1) < 128
          · rw [if_pos (.inr (.inr (.inr (.inl c4))))]
            have e5 : decide ((bt s (i + 1) : Int) < 128) = true := dT (by omega)
            simp only [e5, Bool.true_or, cT]
          · have e5 : decide ((bt s (i + 1) : Int) < 128) = false := dF (by omega)
            by_cases c5 : bt s (i + 1) > 191
            · rw [if_pos (.inr (.inr (.inr (.inr c5))))]
              have e6 : decide ((bt s (i + 1) : Int) > 191) = true := dT (by omega)
              simp only [e5, e6, Bool.or_true, cT]
            · have e6 : decide ((bt s (i + 1) : Int) > 191) = false := dF (by omega)
              rw [if_neg (by omega)]
              simp (disch := omega) only [e5, e6, Bool.or_self, cF, w64]
              cases h2 : is2 (((bt s i : Int) - 192) * 64 + (bt s (i + 1) : Int) - 128) with
              | true => unfold is2 at h2; simp only [h2, cT, if_true]
              | false => unfold is2 at h2; simp only [h2, cF, Bool.false_eq_true, if_false]

def nl (p0 p1 : Int) : Bool := cond (p1 == 1) (isA p0) ((p1 == 2) && is2 p0)
theorem F68.ok (a b : Int) : F68.F (a, b) = some (nl a b) := by
  simp only [F68.F, nl, isA, is2]
  cases b == 1 <;> rfl

theorem let_dec {n b0 b1 b2 b3 : Nat} (h0 : b0 < 256) (h1 : b1 < 256) (h2 : b2 < 256) (h3 : b3 < 256) (hn : 1 ≤ n) :
    nl ((Lib.decodeN n b0 b1 b2 b3).1 : Int) ((Lib.decodeN n b0 b1 b2 b3).2 : Int) = (letR n b0 b1 != 0) ∧ (letR n b0 b1 ≠ 0 → ((Lib.decodeN n b0 b1 b2 b3).2 : Int) = letR n b0 b1) ∧
    ((48 ≤ (Lib.decodeN n b0 b1 b2 b3).1 ∧ (Lib.decodeN n b0 b1 b2 b3).1 ≤ 57) ↔ (48 ≤ b0 ∧ b0 ≤ 57)) ∧ ((48 ≤ b0 ∧ b0 ≤ 57) → (Lib.decodeN n b0 b1 b2 b3).2 = 1) := by
  have a1 : isA 65533 = false := by decide
  have nA : ¬ b0 < 128 → isA (b0 : Int) = false := fun h => by
    unfold isA
    have e1 : decide ((b0 : Int) ≤ 122) = false := dF (by omega)
    have e2 : decide ((b0 : Int) ≤ 90) = false := dF (by omega)
    have e3 : ((b0 : Int) == 95) = false := qF (by omega)
    simp [e1, e2, e3]
  by_cases c0 : b0 < 128
  · have e : Lib.decodeN n b0 b1 b2 b3 = (b0, 1) := by unfold Lib.decodeN; rw [if_pos c0]
    rw [e]
    refine ⟨?_, ?_, Iff.rfl, fun _ => rfl⟩
    · show nl (b0 : Int) 1 = _
      unfold nl letR
      cases hA : isA (b0 : Int) with
      | true => simp
      | false => rw [if_neg (by decide), if_pos (.inl (by omega))]; simp
    · unfold letR
      cases hA : isA (b0 : Int) with
      | true => simp
      | false => rw [if_neg (by decide), if_pos (.inl (by omega))]; simp
  · have hA := nA c0
    have c48 : ¬ (48 ≤ b0 ∧ b0 ≤ 57) := by omega
    by_cases c1 : b0 / 32 = 6 ∧ (1 < n ∧ b1 / 64 = 2)
    · by_cases c2 : b0 % 32 * 64 + b1 % 64 ≥ 128
      · have e : Lib.decodeN n b0 b1 b2 b3 = (b0 % 32 * 64 + b1 % 64, 2) := by unfold Lib.decodeN; rw [if_neg c0, if_pos c1, if_pos c2]
        rw [e]
        have el : letR n b0 b1 = if is2 ((b0 % 32 * 64 + b1 % 64 : Nat) : Int) = true then 2 else 0 := by
          unfold letR
          rw [hA, if_neg (by decide), if_neg (by omega), show ((b0 : Int) - 192) * 64 + b1 - 128 = ((b0 % 32 * 64 + b1 % 64 : Nat) : Int) by omega]
        rw [el]
        refine ⟨?_, ?_, ⟨fun h => ?_, fun h => absurd h c48⟩, fun h => absurd h c48⟩
        · show nl _ 2 = _
          unfold nl
          cases is2 ((b0 % 32 * 64 + b1 % 64 : Nat) : Int) <;> simp
        · cases is2 ((b0 % 32 * 64 + b1 % 64 : Nat) : Int) <;> simp
        · have h' : 48 ≤ b0 % 32 * 64 + b1 % 64 ∧ b0 % 32 * 64 + b1 % 64 ≤ 57 := h
          omega
      · have e : Lib.decodeN n b0 b1 b2 b3 = (65533, 1) := by unfold Lib.decodeN; rw [if_neg c0, if_pos c1, if_neg c2]
        have el : letR n b0 b1 = 0 := by unfold letR; rw [hA, if_neg (by decide), if_pos (.inl (by omega))]
        rw [e, el]
        exact ⟨by decide, fun h => absurd rfl h, ⟨fun h => by simp at h, fun h => absurd h c48⟩, fun h => absurd h c48⟩
    · have el : letR n b0 b1 = 0 := by
        unfold letR; rw [hA, if_neg (by decide), if_pos (by omega)]
      rw [el]
      have key : (Lib.decodeN n b0 b1 b2 b3).2 = 3 ∧ 2048 ≤ (Lib.decodeN n b0 b1 b2 b3).1 ∨ (Lib.decodeN n b0 b1 b2 b3).2 = 4 ∧ 65536 ≤ (Lib.decodeN n b0 b1 b2 b3).1 ∨ Lib.decodeN n b0 b1 b2 b3 = (65533, 1) := by
        unfold Lib.decodeN
        rw [if_neg c0, if_neg c1]
        split
        · split
          · rename_i h; exact .inl ⟨rfl, h.1⟩
          · exact .inr (.inr rfl)
        · split
          · split
            · rename_i h; exact .inr (.inl ⟨rfl, h.1⟩)
            · exact .inr (.inr rfl)
          · exact .inr (.inr rfl)
      rcases key with ⟨k1, k2⟩ | ⟨k1, k2⟩ | k
      · rw [k1]
        refine ⟨?_, fun h => absurd rfl h, ⟨fun h => by omega, fun h => absurd h c48⟩, fun h => absurd h c48⟩
        unfold nl; rfl
      · rw [k1]
        refine ⟨?_, fun h => absurd rfl h, ⟨fun h => by omega, fun h => absurd h c48⟩, fun h => absurd h c48⟩
        unfold nl; rfl
      · rw [k]
        exact ⟨by decide, fun h => absurd rfl h, ⟨fun h => by simp at h, fun h => absurd h c48⟩, fun h => absurd h c48⟩

def digB (b : Nat) : Bool := (decide ((b : Int) ≥ 48)) && (decide ((b : Int) ≤ 57))
/-- How far a name goes from i on. -/
def stepN (s : ByteArray) (i : Nat) : Int := if letR (s.size - i) (bt s i) (bt s (i + 1)) ≠ 0 then letR (s.size - i) (bt s i) (bt s (i + 1)) else if (i > 0 ∧ digB (bt s i) = true) then 1 else 0
theorem letR_cases (n b0 b1 : Nat) : letR n b0 b1 = 0 ∨ letR n b0 b1 = 1 ∨ (letR n b0 b1 = 2 ∧ 2 ≤ n) := by
  unfold letR
  split
  · exact .inr (.inl rfl)
  · split
    · exact .inl rfl
    · split
      · exact .inr (.inr ⟨rfl, by omega⟩)
      · exact .inl rfl
theorem stepN_le (s : ByteArray) {i : Nat} (h : i < s.size) : 0 ≤ stepN s i ∧ stepN s i ≤ 2 ∧ i + (stepN s i).toNat ≤ s.size := by
  unfold stepN
  rcases letR_cases (s.size - i) (bt s i) (bt s (i + 1)) with e | e | ⟨e, h2⟩ <;> rw [e] <;> (split <;> first | omega | (split <;> omega))
def wordR (s : ByteArray) : Nat → Nat → Nat
  | 0, i => i
  | f + 1, i => if i < s.size ∧ stepN s i ≠ 0 then wordR s f (i + (stepN s i).toNat) else i

theorem F61.l0_ok (s : ByteArray) (hb : s.size ≤ 1000000) : ∀ (f i : Nat), i ≤ s.size → s.size - i ≤ f → F61.l0 (s, 0, (i : Int)) = some (0, (wordR s (f + 1) i : Int))
  | f, i, hi, hf => by
    by_cases hlt : i < s.size
    · have d : decide ((i : Int) < (s.size : Int)) = true := dT (by omega)
      have d2 : decide ((0 : Int) ≤ (i : Int)) = true := dT (by omega)
      have e66 := F66.ok s i hlt hb
      have hst := stepN_le s hlt
      have hw : wordR s (f + 1) i = if stepN s i ≠ 0 then wordR s f (i + (stepN s i).toNat) else i := by simp [wordR, hlt]
      have hstep : (let y66 := letR (s.size - i) (bt s i) (bt s (i + 1)); (y66 == 0 && decide ((i : Int) > 0)) && decide ((bt s i : Int) ≥ 48) && decide ((bt s i : Int) ≤ 57)) = true → stepN s i = 1 := fun h => by
        simp only [Bool.and_eq_true, decide_eq_true_eq, beq_iff_eq] at h
        unfold stepN digB
        rw [if_neg (by simpa using h.1.1.1), if_pos ⟨by omega, by simp; omega⟩]
      have hstep2 : (let y66 := letR (s.size - i) (bt s i) (bt s (i + 1)); (y66 == 0 && decide ((i : Int) > 0)) && decide ((bt s i : Int) ≥ 48) && decide ((bt s i : Int) ≤ 57)) = false → stepN s i = letR (s.size - i) (bt s i) (bt s (i + 1)) := fun h => by
        unfold stepN digB
        by_cases h0 : letR (s.size - i) (bt s i) (bt s (i + 1)) = 0
        · rw [if_neg (by simpa using h0), h0, if_neg]
          intro hc
          simp only [Bool.and_eq_true, decide_eq_true_eq] at hc
          rw [h0] at h
          simp only [beq_self_eq_true, Bool.true_and] at h
          rw [dT (show (i : Int) > 0 by omega), dT hc.2.1, dT hc.2.2] at h
          cases h
        · rw [if_pos h0]
      have ht : ∀ k : Int, k = stepN s i → F61.l0 (s, 0, (i : Int)) = ((F61.t6 (s, 0, (i : Int), k)).bind fun q => match q with | .inl y => some (y.1, y.2) | .inr y => F61.l0 (y.1, y.2.1, y.2.2)) → F61.l0 (s, 0, (i : Int)) = some (0, (wordR s (f + 1) i : Int)) := fun k hk h => by
        rw [h, hw]
        by_cases h0 : stepN s i = 0
        · rw [if_neg (by simpa using h0)]
          have : (k == 0) = true := qT (hk.trans h0)
          simp only [F61.t6, this, cT, bS]
        · rw [if_pos h0]
          have : (k == 0) = false := qF (by rw [hk]; exact h0)
          have w : Go.IntKind.wrap .i64 ((i : Int) + k) = ((i + (stepN s i).toNat : Nat) : Int) := by rw [w64 (by omega) (by omega)]; omega
          simp only [F61.t6, this, cF, bS, w]
          cases f with
          | zero => omega
          | succ f => exact F61.l0_ok s hb f _ hst.2.2 (by omega)
      have run : F61.l0 (s, 0, (i : Int)) = (F61.l0.b (s, 0, (i : Int))).bind (Sum.elim F61.l0 some) := by
        show lim F61.l0.b _ = _; rw [lim_step]; rfl
      cases hc : (let y66 := letR (s.size - i) (bt s i) (bt s (i + 1)); (y66 == 0 && decide ((i : Int) > 0)) && decide ((bt s i : Int) ≥ 48) && decide ((bt s i : Int) ≤ 57)) with
      | true =>
        refine ht 1 (hstep hc).symm ?_
        rw [run]
        dsimp only at hc
        have hc2 := hc
        simp only [Bool.and_eq_true] at hc2
        simp only [F61.l0.b]
        rw [btAt_bt]
        simp only [d, d2, cT, e66, bS, Bool.and_self, Bool.or_true, Bool.and_true, hc]
        cases F61.t6 (s, 0, (i : Int), 1) with
        | none => rfl
        | some q => cases q <;> rfl
      | false =>
        refine ht _ (hstep2 hc).symm ?_
        rw [run]
        dsimp only at hc
        simp only [F61.l0.b]
        rw [btAt_bt]
        simp only [d, d2, cT, e66, bS, Bool.and_self, Bool.or_true, Bool.and_true, hc, cF]
        cases F61.t6 (s, 0, (i : Int), letR (s.size - i) (bt s i) (bt s (i + 1))) with
        | none => rfl
        | some q => cases q <;> rfl
    · have d : decide ((i : Int) < (s.size : Int)) = false := dF (by omega)
      have hw : wordR s (f + 1) i = i := by simp [wordR, hlt]
      rw [hw]
      unfold F61.l0
      exact lim_out (by simp only [F61.l0.b, d, cF])

theorem F63.l0_ok (s : ByteArray) (hb : s.size ≤ 1000000) : ∀ (f i : Nat), i ≤ s.size → s.size - i ≤ f → F63.l0 (s, 0, false, (i : Int)) = some (wordR s (f + 1) i : Int)
  | f, i, hi, hf => by
    have w0 : Go.IntKind.wrap .i64 (0 + (i : Int)) = (i : Int) := by rw [w64 (by omega) (by omega)]; omega
    by_cases hlt : i < s.size
    · have d : decide ((i : Int) < (s.size : Int)) = true := dT (by omega)
      have d1 : decide ((0 : Int) ≤ (i : Int)) = true := dT (by omega)
      have d2 : decide ((i : Int) ≤ (s.size : Int)) = true := dT (by omega)
      have d3 : decide ((s.size : Int) ≤ (s.size : Int)) = true := dT (by omega)
      have hst := stepN_le s hlt
      have hw : wordR s (f + 1) i = if stepN s i ≠ 0 then wordR s f (i + (stepN s i).toNat) else i := by simp [wordR, hlt]
      have e67 : F67.F (s.extract i s.size) = some (((Lib.decodeGo (s.extract i s.size)).1 : Int), ((Lib.decodeGo (s.extract i s.size)).2 : Int)) := rfl
      rw [dec_bt s i hlt] at e67
      obtain ⟨k1, k2, k3, k4⟩ := let_dec (bt_lt s i) (bt_lt s (i + 1)) (bt_lt s (i + 2)) (bt_lt s (i + 3)) (show 1 ≤ s.size - i by omega)
      generalize Lib.decodeN (s.size - i) (bt s i) (bt s (i + 1)) (bt s (i + 2)) (bt s (i + 3)) = q at e67 k1 k2 k3 k4
      have hcond : (nl (q.1 : Int) (q.2 : Int) || ((((decide ((i : Int) > 0)) || false) && (decide ((q.1 : Int) ≥ 48))) && (decide ((q.1 : Int) ≤ 57)))) = true ↔ stepN s i ≠ 0 := by
        rw [k1]
        unfold stepN digB
        simp only [Bool.or_eq_true, Bool.and_eq_true, decide_eq_true_eq, bne_iff_ne, Bool.or_false]
        by_cases h0 : letR (s.size - i) (bt s i) (bt s (i + 1)) = 0
        · rw [h0]
          simp only [ne_eq, not_true_eq_false, if_false, false_or]
          have h3 : (((q.1 : Nat) : Int) ≥ 48 ∧ ((q.1 : Nat) : Int) ≤ 57) ↔ ((bt s i : Int) ≥ 48 ∧ (bt s i : Int) ≤ 57) := by omega
          constructor
          · intro h; rw [if_pos ⟨by omega, by omega⟩]; decide
          · intro h
            by_cases hc : i > 0 ∧ (bt s i : Int) ≥ 48 ∧ (bt s i : Int) ≤ 57
            · omega
            · rw [if_neg hc] at h; exact absurd rfl h
        · rw [if_pos h0]; exact ⟨fun _ => h0, fun _ => .inl h0⟩
      have hsz : stepN s i ≠ 0 → (q.2 : Int) = stepN s i := fun h => by
        unfold stepN digB at h ⊢
        by_cases h0 : letR (s.size - i) (bt s i) (bt s (i + 1)) = 0
        · rw [if_neg (by simpa using h0)] at h ⊢
          by_cases hc : (i > 0 ∧ ((decide ((bt s i : Int) ≥ 48)) && (decide ((bt s i : Int) ≤ 57))) = true)
          · rw [if_pos hc]
            have := hc.2
            simp only [Bool.and_eq_true, decide_eq_true_eq] at this
            have := k4 ⟨by omega, by omega⟩
            omega
          · rw [if_neg hc] at h; exact absurd rfl h
        · rw [if_pos h0]; exact k2 h0
      rw [hw]
      by_cases h0 : stepN s i = 0
      · rw [if_neg (by simpa using h0)]
        have hf : (nl (q.1 : Int) (q.2 : Int) || ((((decide ((i : Int) > 0)) || false) && (decide ((q.1 : Int) ≥ 48))) && (decide ((q.1 : Int) ≤ 57)))) = false := by
          cases hx : (nl (q.1 : Int) (q.2 : Int) || ((((decide ((i : Int) > 0)) || false) && (decide ((q.1 : Int) ≥ 48))) && (decide ((q.1 : Int) ≤ 57)))) with
          | false => rfl
          | true => exact absurd (hcond.1 hx) (by simpa using h0)
        unfold F63.l0
        exact lim_out (by
          simp only [F63.l0.b]
          rw [w0]
          simp only [d, cT, d1, d2, d3, Bool.and_self, Int.toNat_natCast, e67, bS, F68.ok, hf, cF])
      · rw [if_pos h0]
        have hf' := hcond.2 h0
        have hs := hsz h0
        have w : Go.IntKind.wrap .i64 ((i : Int) + (q.2 : Int)) = ((i + (stepN s i).toNat : Nat) : Int) := by rw [w64 (by omega) (by omega)]; omega
        have : F63.l0 (s, 0, false, (i : Int)) = F63.l0 (s, 0, false, ((i + (stepN s i).toNat : Nat) : Int)) := by
          unfold F63.l0
          exact lim_in (by
            simp only [F63.l0.b]
            rw [w0]
            simp only [d, cT, d1, d2, d3, Bool.and_self, Int.toNat_natCast, e67, bS, F68.ok, hf', w])
        rw [this]
        cases f with
        | zero => omega
        | succ f => exact F63.l0_ok s hb f _ hst.2.2 (by omega)
    · have d : decide ((i : Int) < (s.size : Int)) = false := dF (by omega)
      have hw : wordR s (f + 1) i = i := by simp [wordR, hlt]
      rw [hw]
      unfold F63.l0
      exact lim_out (by simp only [F63.l0.b]; rw [w0]; simp only [d, cF])

/-- Is it a name? -/
def nameR (s : ByteArray) : Bool := ((decide ((s.size : Int) ≥ 1)) && (decide ((s.size : Int) ≤ 40))) && (((wordR s (s.size + 1) 0 : Nat) : Int) == (s.size : Int))
theorem F54.ok (s : ByteArray) : F54.F s = some (nameR s) := by
  unfold nameR
  cases h : ((decide ((s.size : Int) ≥ 1)) && (decide ((s.size : Int) ≤ 40))) with
  | true =>
    have h' := h
    simp only [Bool.and_eq_true, decide_eq_true_eq] at h'
    have e : F63.F (s, 0, false) = some ((wordR s (s.size + 1) 0 : Nat) : Int) := by
      simp only [F63.F]
      have := F63.l0_ok s (by omega) s.size 0 (by omega) (by omega)
      rw [show ((0 : Nat) : Int) = 0 from rfl] at this
      rw [this, bS]
    simp only [F54.F, h, cT, e, bS]
  | false => simp only [F54.F, h, cF, Bool.false_and]
theorem F52.ok (s : ByteArray) : F52.F s = some (nameR s) := by
  unfold nameR
  have hg : (decide ((s.size : Int) > 0)) = (decide ((s.size : Int) ≥ 1)) := by
    by_cases h : (s.size : Int) ≥ 1
    · rw [dT h, dT (by omega)]
    · rw [dF h, dF (by omega)]
  cases h : ((decide ((s.size : Int) ≥ 1)) && (decide ((s.size : Int) ≤ 40))) with
  | true =>
    have h' := h
    simp only [Bool.and_eq_true, decide_eq_true_eq] at h'
    have e : F61.F (s, 0) = some ((wordR s (s.size + 1) 0 : Nat) : Int) := by
      simp only [F61.F]
      have := F61.l0_ok s (by omega) s.size 0 (by omega) (by omega)
      rw [show ((0 : Nat) : Int) = 0 from rfl] at this
      rw [this, bS]
      have hle : ∀ (f i : Nat), i ≤ s.size → wordR s f i ≤ s.size := by
        intro f
        induction f with
        | zero => intro i hi; exact hi
        | succ f ih =>
          intro i hi
          simp only [wordR]
          split
          · rename_i hc; exact ih _ (stepN_le s hc.1).2.2
          · exact hi
      have := hle (s.size + 1) 0 (by omega)
      simp (disch := omega) only [w64]
      simp
    simp only [F52.F, hg, h, cT, e, bS]
  | false => simp only [F52.F, hg, h, cF, Bool.false_and]

end Go.Proofs.YtchohkelpjfpcaaDoor.AX

/- Shops: the program and its reference agree. No conditions. -/
namespace Go.Proofs.YtchohkelpjfpcaaDoor.AX
open Go

def stepBad (M L : Int) (x : S69) : Bool := ((((((((decide (x.f0 < 0)) || (decide (x.f0 ≥ M))) || (decide (x.f1 < 1))) || (decide (x.f1 > 1000))) || (decide (x.f2 < 0))) || (decide (x.f2 > 9))) || (decide (x.f3 < 0))) || (decide (x.f3 > L)))
def stepOk (M L : Int) (x : S69) : Bool := !stepBad M L x
def headBad (j : S54) : Bool := ((((!nameR j.f0) || (decide (j.f1 < 0))) || (decide (j.f1 > 1000000))) || (decide ((j.f2.length : Int) < 1))) || (decide ((j.f2.length : Int) > 8))
def seenJ (pre : List S54) (nm : ByteArray) : Bool := pre.any fun k => k.f0.toList == nm.toList
def goJ (M L : Int) : List S54 → List S54 → Bool
  | _, [] => true
  | pre, j :: l => !headBad j && !seenJ pre j.f0 && j.f2.all (stepOk M L) && goJ M L (pre ++ [j]) l
def headerBad (M S L : Int) (n : Int) : Bool := ((((((decide (n > 20)) || (decide (M < 1))) || (decide (M > 6))) || (decide (S < 0))) || (decide (S > 1000))) || (decide (L < 1))) || (decide (L > 1000))
/-- A shop with its jobs is right. -/
def shopR (M S L : Int) (jobs : List S54) : Bool := !headerBad M S L jobs.length && goJ M L [] jobs

theorem getD_take {α : Type} {l : List α} {i k : Nat} {d : α} (h : k < i) (hi : i ≤ l.length) : (l.take i).getD k d = l.getD k d := by
  simp [List.getD, h]

theorem F38.l2_ok (M S L : Int) (mp : List S104) (jobs : List S54) (i : Nat) (h : (jobs.getD i z54).f2.length ≤ 100) : F38.l2 ((jobs.length : Int), (i : Int), (i : Int), ((jobs.getD i z54).f2.length : Int), 0, M, S, L, mp, jobs) =
    some (if (jobs.getD i z54).f2.all (stepOk M L) then .inr ((jobs.length : Int), (i : Int), M, S, L, mp, jobs) else .inl false) := by
  generalize hj : jobs.getD i z54 = j at h ⊢
  exact lim_scan (f := F38.l2.b) (fun k => ((jobs.length : Int), (i : Int), (i : Int), (j.f2.length : Int), (k : Int), M, S, L, mp, jobs)) j.f2 z69 (stepOk M L) (y := .inl false) (z := .inr ((jobs.length : Int), (i : Int), M, S, L, mp, jobs)) (fun k hk => by
    have d1 : decide ((k : Int) < (j.f2.length : Int)) = true := dT (by omega)
    have d2 : decide ((0 : Int) ≤ (k : Int)) = true := dT (by omega)
    have w : Go.IntKind.wrap .i64 ((k : Int) + 1) = ((k + 1 : Nat) : Int) := by rw [w64 (by omega) (by omega)]; rfl
    simp only [F38.l2.b, Int.toNat_natCast, hj, d1, d2, Bool.and_self, cT, w]
    unfold stepOk
    cases hb : stepBad M L (j.f2.getD k z69) with
    | true => unfold stepBad at hb; simp only [hb, cT, Bool.not_true, Bool.false_eq_true, if_false]
    | false => unfold stepBad at hb; simp only [hb, cF, Bool.not_false, if_true])
    (by
      have d1 : decide ((j.f2.length : Int) < (j.f2.length : Int)) = false := dF (by omega)
      simp only [F38.l2.b, d1, cF])

def mfT {E : Type} (d : E) (p : E → Bool) (l : List E) : E := (l.find? p).getD d
def mpT {E : Type} (p : E → Bool) (x : E) : List E → List E
  | [] => [x]
  | y :: r => bif p y then x :: r else y :: mpT p x r
theorem mfind_T (p : S104 → Bool) (l : List S104) : (mfind (U := uni) 13 p l : S104) = mfT z104 p l := rfl
theorem mput_T (p : S104 → Bool) (x : S104) : ∀ l : List S104, (mput (U := uni) 13 p x l : List S104) = mpT p x l
  | [] => rfl
  | y :: r => congrArg (fun t => bif p y then x :: r else y :: t) (mput_T p x r)

theorem mfT_cons {E : Type} (d : E) (p : E → Bool) (x : E) (r : List E) : mfT d p (x :: r) = if p x = true then x else mfT d p r := by
  unfold mfT
  rw [List.find?_cons]
  cases p x <;> rfl

theorem find_put (a b : List UInt8) (n : ByteArray) (hn : n.toList = b) (m : List S104) : (mfT z104 (fun (e : S104) => a == e.f0.toList) (mpT (fun (e : S104) => b == e.f0.toList) (⟨n, true⟩ : S104) m)).f1 = ((a == b) || (mfT z104 (fun (e : S104) => a == e.f0.toList) m).f1) := by
  induction m with
  | nil =>
    simp only [mpT, mfT_cons, hn]
    cases a == b <;> simp
  | cons y r ih =>
    simp only [mpT]
    cases hb : b == y.f0.toList with
    | true =>
      have hb' : b = y.f0.toList := by simpa using hb
      simp only [cond_true, mfT_cons, hn, ← hb']
      cases a == b <;> simp
    | false =>
      simp only [cond_false, mfT_cons]
      cases ha : a == y.f0.toList with
      | true =>
        have ha' : a = y.f0.toList := by simpa using ha
        have : (a == b) = false := by rw [ha']; rw [BEq.comm]; exact hb
        simp [this]
      | false => simpa using ih

theorem F38.l0_ok (M S L : Int) (jobs : List S54) (hl : jobs.length ≤ 1000) : ∀ (n i : Nat) (mp : List S104), i + n = jobs.length → (∀ nm : ByteArray, (mfT z104 (fun (e : S104) => nm.toList == e.f0.toList) mp).f1 = seenJ (jobs.take i) nm) →
    F38.l0 ((jobs.length : Int), (i : Int), M, S, L, mp, jobs) = some (bif goJ M L (jobs.take i) (jobs.drop i) then .inr () else .inl false)
  | 0, i, mp, hi, hm => by
    have d : decide ((i : Int) < (jobs.length : Int)) = false := dF (by omega)
    rw [List.drop_eq_nil_of_le (by omega)]
    unfold F38.l0
    exact lim_out (by simp only [F38.l0.b, d, cF, goJ, cT])
  | n + 1, i, mp, hi, hm => by
    have hlt : i < jobs.length := by omega
    have d : decide ((i : Int) < (jobs.length : Int)) = true := dT (by omega)
    have d2 : decide ((0 : Int) ≤ (i : Int)) = true := dT (by omega)
    have w : Go.IntKind.wrap .i64 ((i : Int) + 1) = ((i + 1 : Nat) : Int) := by rw [w64 (by omega) (by omega)]; rfl
    have l2 := fun mp h => F38.l2_ok M S L mp jobs i h
    rw [drop_cons hlt]
    have hg : jobs.getD i z54 = jobs[i] := getD_lt hlt
    have htk : jobs.take i ++ [jobs[i]] = jobs.take (i + 1) := by simp
    generalize hv : jobs[i] = j at hg htk ⊢
    rw [hg] at l2
    simp only [goJ]
    rw [htk]
    have hcond : ((((((!nameR j.f0) || (mfT z104 (fun (e : S104) => j.f0.toList == e.f0.toList) mp).f1) || (decide (j.f1 < 0))) || (decide (j.f1 > 1000000))) || (decide ((j.f2.length : Int) < 1))) || (decide ((j.f2.length : Int) > 8))) = !(!headBad j && !seenJ (jobs.take i) j.f0) := by
      rw [hm]
      unfold headBad
      cases nameR j.f0 <;> cases seenJ (jobs.take i) j.f0 <;> simp
    cases hc : (!headBad j && !seenJ (jobs.take i) j.f0) with
    | false =>
      rw [hc] at hcond
      unfold F38.l0
      exact lim_out (by simp only [F38.l0.b, d, d2, Bool.and_self, cT, Int.toNat_natCast, hg, F54.ok, bS, mfind_T, hcond, Bool.not_false, Bool.false_and, cF])
    | true =>
      rw [hc] at hcond
      have hlen : j.f2.length ≤ 8 := by
        have h1 : headBad j = false := by simp only [Bool.and_eq_true, Bool.not_eq_true'] at hc; exact hc.1
        unfold headBad at h1
        simp only [Bool.or_eq_false_iff, decide_eq_false_iff_not] at h1
        omega
      cases hs : j.f2.all (stepOk M L) with
      | false =>
        unfold F38.l0
        exact lim_out (by simp only [F38.l0.b, d, d2, Bool.and_self, cT, cF, Int.toNat_natCast, hg, F54.ok, bS, mfind_T, mput_T, hcond, Bool.not_true, l2 _ (show j.f2.length ≤ 100 by omega), hs, Bool.false_eq_true, if_false, Bool.true_and, Bool.false_and])
      | true =>
        rw [Bool.true_and, Bool.true_and]
        rw [← F38.l0_ok M S L jobs hl n (i + 1) (mpT (fun (e : S104) => (j.f0.toList == e.f0.toList)) (⟨j.f0, true⟩ : S104) mp) (by omega) (fun nm => by
          rw [find_put nm.toList j.f0.toList j.f0 rfl, hm nm, ← htk]
          unfold seenJ
          rw [List.any_append, Bool.or_comm]
          simp [BEq.comm])]
        unfold F38.l0
        exact lim_in (by simp only [F38.l0.b, d, d2, Bool.and_self, cT, cF, Int.toNat_natCast, hg, F54.ok, bS, mfind_T, mput_T, hcond, Bool.not_true, l2 _ (show j.f2.length ≤ 100 by omega), hs, if_true, w])

theorem F38.ok (M S L : Int) (jobs : List S54) : F38.F ((M, S, L), jobs) = some (shopR M S L jobs) := by
  unfold shopR
  cases hh : headerBad M S L jobs.length with
  | true => unfold headerBad at hh; simp only [F38.F, hh, cT, Bool.not_true, Bool.false_and]
  | false =>
    have hl : jobs.length ≤ 20 := by
      unfold headerBad at hh
      simp only [Bool.or_eq_false_iff, decide_eq_false_iff_not] at hh
      omega
    have e := F38.l0_ok M S L jobs (by omega) jobs.length 0 [] (by omega) (fun nm => rfl)
    rw [show ((0 : Nat) : Int) = 0 from rfl] at e
    simp only [List.take_zero, List.drop_zero] at e
    unfold headerBad at hh
    simp only [F38.F, hh, cF, e, bS, Bool.not_false, Bool.true_and]
    cases goJ M L [] jobs <;> rfl

theorem F51.ok (x lo hi : Int) : F51.F ((x :: []), (lo, hi)) = some (!((decide (x < lo)) || (decide (x > hi)))) := by
  have w : Go.IntKind.wrap .i64 (0 + 1) = 1 := by decide
  have d1 : decide ((0 : Int) < ((x :: ([] : List Int)).length : Int)) = true := dT (by simp)
  have d2 : decide ((1 : Int) < ((x :: ([] : List Int)).length : Int)) = false := dF (by simp)
  have d0 : decide ((0 : Int) ≤ 0) = true := rfl
  have g : (x :: ([] : List Int)).getD (Int.toNat 0) 0 = x := rfl
  cases h : ((decide (x < lo)) || (decide (x > hi))) with
  | true =>
    have e : F51.l0 (lo, hi, 0, x :: []) = some (.inl false) := by
      unfold F51.l0
      exact lim_out (by simp only [F51.l0.b, d1, d0, cT, Bool.and_self, Bool.or_true, g, h])
    simp only [F51.F, e, bS, Bool.not_true]
  | false =>
    have e : F51.l0 (lo, hi, 0, x :: []) = some (.inr ()) := by
      have : F51.l0 (lo, hi, 0, x :: []) = F51.l0 (lo, hi, 1, x :: []) := by
        unfold F51.l0
        exact lim_in (by simp only [F51.l0.b, d1, d0, cT, cF, Bool.and_self, Bool.or_true, g, h, w])
      rw [this]
      unfold F51.l0
      exact lim_out (by simp only [F51.l0.b, d2, cF])
    simp only [F51.F, e, bS, Bool.not_false]

theorem F32.l2_ok (M S L : Int) (nm : ByteArray) (due : Int) (jobs : List S54) (i : Nat) (hi : i ≤ jobs.length) (h : jobs.length ≤ 1000) : F32.l2 ((i : Int), 0, M, S, L, nm, due, (i : Int), jobs) =
    some (if (jobs.take i).all (fun k => !(k.f0.toList == nm.toList)) then .inr ((i : Int), M, S, L, nm, due, (i : Int), jobs) else .inl false) := by
  have hl : (jobs.take i).length = i := by simp; omega
  exact lim_scan (f := F32.l2.b) (fun k => ((i : Int), (k : Int), M, S, L, nm, due, (i : Int), jobs)) (jobs.take i) z54 (fun k => !(k.f0.toList == nm.toList)) (y := .inl false) (z := .inr ((i : Int), M, S, L, nm, due, (i : Int), jobs)) (fun k hk => by
    rw [hl] at hk
    have d1 : decide ((k : Int) < (i : Int)) = true := dT (by omega)
    have d2 : decide ((0 : Int) ≤ (k : Int)) = true := dT (by omega)
    have d3 : decide ((k : Int) < (jobs.length : Int)) = true := dT (by omega)
    have w : Go.IntKind.wrap .i64 ((k : Int) + 1) = ((k + 1 : Nat) : Int) := by rw [w64 (by omega) (by omega)]; rfl
    simp only [F32.l2.b, Int.toNat_natCast, d1, d2, d3, Bool.and_self, cT, w, getD_take hk hi]
    cases (jobs.getD k z54).f0.toList == nm.toList with
    | true => simp only [cT, Bool.not_true, Bool.false_eq_true, if_false]
    | false => simp only [cF, Bool.not_false, if_true])
    (by
      have d1 : decide (((jobs.take i).length : Int) < (i : Int)) = false := dF (by omega)
      simp only [F32.l2.b, d1, cF])

theorem F32.l4_ok (M S L : Int) (nm : ByteArray) (due : Int) (jobs : List S54) (i : Nat) (h : (jobs.getD i z54).f2.length ≤ 100) : F32.l4 ((i : Int), 0, M, S, L, nm, due, (i : Int), jobs) =
    some (if (jobs.getD i z54).f2.all (stepOk M L) then .inr ((i : Int), M, S, L, jobs) else .inl false) := by
  generalize hj : jobs.getD i z54 = j at h ⊢
  exact lim_scan (f := F32.l4.b) (fun k => ((i : Int), (k : Int), M, S, L, nm, due, (i : Int), jobs)) j.f2 z69 (stepOk M L) (y := .inl false) (z := .inr ((i : Int), M, S, L, jobs)) (fun k hk => by
    have d1 : decide ((k : Int) < (j.f2.length : Int)) = true := dT (by omega)
    have d2 : decide ((0 : Int) ≤ (k : Int)) = true := dT (by omega)
    have w : Go.IntKind.wrap .i64 ((k : Int) + 1) = ((k + 1 : Nat) : Int) := by rw [w64 (by omega) (by omega)]; rfl
    simp only [F32.l4.b, Int.toNat_natCast, hj, d1, d2, Bool.and_self, cT, w]
    unfold stepOk
    cases hb : stepBad M L (j.f2.getD k z69) with
    | true => unfold stepBad at hb; simp only [hb, cT, Bool.not_true, Bool.false_eq_true, if_false]
    | false => unfold stepBad at hb; simp only [hb, cF, Bool.not_false, if_true])
    (by
      have d1 : decide ((j.f2.length : Int) < (j.f2.length : Int)) = false := dF (by omega)
      simp only [F32.l4.b, Int.toNat_natCast, hj, d1, cF])

theorem F32.l0_ok (M S L : Int) (jobs : List S54) (hl : jobs.length ≤ 1000) : ∀ (n i : Nat), i + n = jobs.length →
    F32.l0 ((i : Int), M, S, L, jobs) = some (bif goJ M L (jobs.take i) (jobs.drop i) then .inr () else .inl false)
  | 0, i, hi => by
    have d : decide ((i : Int) < (jobs.length : Int)) = false := dF (by omega)
    rw [List.drop_eq_nil_of_le (by omega)]
    unfold F32.l0
    exact lim_out (by simp only [F32.l0.b, d, cF, goJ, cT])
  | n + 1, i, hi => by
    have hlt : i < jobs.length := by omega
    have d : decide ((i : Int) < (jobs.length : Int)) = true := dT (by omega)
    have d2 : decide ((0 : Int) ≤ (i : Int)) = true := dT (by omega)
    have w : Go.IntKind.wrap .i64 ((i : Int) + 1) = ((i + 1 : Nat) : Int) := by rw [w64 (by omega) (by omega)]; rfl
    have l4 := fun nm due h => F32.l4_ok M S L nm due jobs i h
    have l2 := fun nm due => F32.l2_ok M S L nm due jobs i (by omega) hl
    rw [drop_cons hlt]
    have hg : jobs.getD i z54 = jobs[i] := getD_lt hlt
    have htk : jobs.take i ++ [jobs[i]] = jobs.take (i + 1) := by simp
    generalize hv : jobs[i] = j at hg htk ⊢
    rw [hg] at l4
    simp only [goJ]
    rw [htk]
    cases hc : headBad j with
    | true =>
      have hc' := hc
      unfold headBad at hc'
      unfold F32.l0
      exact lim_out (by simp only [F32.l0.b, d, d2, Bool.and_self, cT, Int.toNat_natCast, hg, F52.ok, bS, hc', Bool.not_true, Bool.false_and, cF])
    | false =>
      have hc' := hc
      unfold headBad at hc'
      have hlen : j.f2.length ≤ 8 := by
        have h1 := hc'
        simp only [Bool.or_eq_false_iff, decide_eq_false_iff_not] at h1
        omega
      have hse : (jobs.take i).all (fun k => !(k.f0.toList == j.f0.toList)) = !seenJ (jobs.take i) j.f0 := by
        unfold seenJ
        rw [List.not_any_eq_all_not]
      have e2 := l2 j.f0 j.f1
      rw [hse] at e2
      cases hs : seenJ (jobs.take i) j.f0 with
      | true =>
        rw [hs, Bool.not_true, if_neg (by decide)] at e2
        unfold F32.l0
        exact lim_out (by simp only [F32.l0.b, d, d2, Bool.and_self, cT, cF, Int.toNat_natCast, hg, F52.ok, bS, hc', e2, Bool.not_true, Bool.not_false, Bool.false_and, Bool.and_false])
      | false =>
        rw [hs, Bool.not_false, if_pos rfl] at e2
        have e4 := l4 j.f0 j.f1 (by omega)
        cases hst : j.f2.all (stepOk M L) with
        | false =>
          rw [hst, if_neg (by decide)] at e4
          unfold F32.l0
          exact lim_out (by simp only [F32.l0.b, d, d2, Bool.and_self, cT, cF, Int.toNat_natCast, hg, F52.ok, bS, hc', e2, e4, Bool.not_false, Bool.true_and, Bool.false_and])
        | true =>
          rw [hst, if_pos rfl] at e4
          simp only [Bool.not_false, Bool.true_and]
          rw [← F32.l0_ok M S L jobs hl n (i + 1) (by omega)]
          unfold F32.l0
          exact lim_in (by simp only [F32.l0.b, d, d2, Bool.and_self, cT, cF, Int.toNat_natCast, hg, F52.ok, bS, hc', e2, e4, w])

theorem F32.ok (M S L : Int) (jobs : List S54) : F32.F ((M, S, L), jobs) = some (shopR M S L jobs) := by
  have e1 := F51.ok S 0 1000
  have e2 := F51.ok L 1 1000
  have hh : headerBad M S L jobs.length = ((((decide (M < 1)) || (decide (M > 6))) || ((decide (S < 0)) || (decide (S > 1000)))) || ((decide (L < 1)) || (decide (L > 1000))) || (decide ((jobs.length : Int) > 20))) := by
    unfold headerBad
    generalize decide ((jobs.length : Int) > 20) = a
    generalize decide (M < 1) = b
    generalize decide (M > 6) = c
    generalize decide (S < 0) = d
    generalize decide (S > 1000) = e
    generalize decide (L < 1) = f
    generalize decide (L > 1000) = g
    cases a <;> cases b <;> cases c <;> cases d <;> cases e <;> cases f <;> cases g <;> rfl
  unfold shopR
  rw [hh]
  have e0 : jobs.length ≤ 20 → F32.l0 (0, M, S, L, jobs) = some (bif goJ M L [] jobs then .inr () else .inl false) := fun h => F32.l0_ok M S L jobs (by omega) jobs.length 0 (by omega)
  cases h1 : ((decide (M < 1)) || (decide (M > 6))) with
  | true => simp only [F32.F, h1, e1, e2, Bool.not_true, cF, cT, bS, Bool.true_or, Bool.or_true, Bool.false_and]
  | false =>
    cases h2 : ((decide (S < 0)) || (decide (S > 1000))) with
    | true =>
      rw [h2] at e1
      simp only [F32.F, h1, e1, e2, Bool.not_true, Bool.not_false, cF, cT, bS, Bool.true_or, Bool.or_true, Bool.false_or, Bool.false_and]
    | false =>
      rw [h2] at e1
      cases h3 : ((decide (L < 1)) || (decide (L > 1000))) with
      | true =>
        rw [h3] at e2
        simp only [F32.F, h1, e1, e2, Bool.not_true, Bool.not_false, cF, cT, bS, Bool.true_or, Bool.or_true, Bool.false_or, Bool.false_and]
      | false =>
        rw [h3] at e2
        cases h4 : decide ((jobs.length : Int) > 20) with
        | true => simp only [F32.F, h1, e1, e2, h4, Bool.not_true, Bool.not_false, cF, cT, bS, Bool.true_or, Bool.or_true, Bool.false_or, Bool.false_and]
        | false =>
          have hl : jobs.length ≤ 20 := by have := of_decide_eq_false h4; omega
          simp only [F32.F, h1, e1, e2, h4, e0 hl, Bool.not_true, Bool.not_false, cF, cT, bS, Bool.or_self, Bool.false_or, Bool.true_and]
          cases goJ M L [] jobs <;> rfl

end Go.Proofs.YtchohkelpjfpcaaDoor.AX

/- The function 16 of the program in the small machine. No conditions. -/
namespace Go.Proofs.YtchohkelpjfpcaaDoor.AX.F16
open Go Go.Proofs.Tryd
noncomputable def code : Code := bodyOf f16
abbrev Y : Type := ((List S56) × Int)
def cp : Cod uni ((Int × Int × Int) × (List S54)) := (codC (iAgg (codC (iInt .i64) (codC (iInt .i64) (cod1 (iInt .i64))))) (cod1 (iRow 2)))
def cr : Coz uni ((List S56) × Int) := (cozR (codC (iRow 3) (cod1 (iInt .i64))) (codD (codD cod0)))
noncomputable def es : List (Ent prog uni) := [F32.ent, F33.ent, F34.ent, F35.ent]
theorem get : prog.funcs[16]? = some f16 := by kernel_rfl

def l2.A : Ann := ⟨[(1, .slc 5000064 []), (2, .box 5000128 0), (6, .slc 5000384 []), (7, .slc 5000448 []), (8, .slc 5000512 []), (9, .slc 5000576 []), (10, .sc), (11, .sc), (12, .sc)], [(5000128, 30, [.sc, .sc, .sc])], [(5000064, false, 2), (5000384, true, 8), (5000448, true, 5), (5000512, true, 5), (5000576, true, 3)], []⟩
def l2.c : Cod uni (Int × Int × Int × Int × Int × Int × (List S54) × (List S71) × (List Int) × (List Int) × (List S56)) := (codC (iInt .i64) (codC (iInt .i64) (codC (iInt .i64) (codC (iInt .i64) (codC (iInt .i64) (codC (iInt .i64) (codC (iRow 2) (codC (iRow 8) (codC (iRow 5) (codC (iRow 5) (cod1 (iRow 3))))))))))))
def l2.xs : List (AExit × Ann) := [((.exit 2), ⟨[(1, .slc 5000064 []), (2, .box 5000128 0), (6, .slc 5000384 []), (7, .slc 5000448 []), (8, .slc 5000512 []), (9, .slc 5000576 []), (10, .sc), (11, .sc)], [(5000128, 30, [.sc, .sc, .sc])], [(5000064, false, 2), (5000384, true, 8), (5000448, true, 5), (5000512, true, 5), (5000576, true, 3)], []⟩)]
def l2.y : Coy uni ((Int × Int × Int × Int × Int × (List S54) × (List S71) × (List Int) × (List Int) × (List S56))) := (coy1 (codC (iInt .i64) (codC (iInt .i64) (codC (iInt .i64) (codC (iInt .i64) (codC (iInt .i64) (codC (iRow 2) (codC (iRow 8) (codC (iRow 5) (codC (iRow 5) (cod1 (iRow 3))))))))))))
noncomputable def l2.b : Int × Int × Int × Int × Int × Int × (List S54) × (List S71) × (List Int) × (List Int) × (List S56) → Option ((Int × Int × Int × Int × Int × Int × (List S54) × (List S71) × (List Int) × (List Int) × (List S56)) ⊕ ((Int × Int × Int × Int × Int × (List S54) × (List S71) × (List Int) × (List Int) × (List S56))))
  | (v10, v11, v12, b128_0, b128_1, b128_2, r64, r384, r448, r512, r576) =>
  let x14 := ((List.length r64) : Int)
  let x10 := (decide (v12 < x14))
  cond x10 (
   let x6 := ((decide (0 ≤ v12)) && (decide (v12 < ((List.length r448) : Int))))
   cond x6 (
    let x7 := ((decide (0 ≤ v12)) && x10)
    cond x7 (
     let x11 := (List.getD r64 (Int.toNat v12) z54)
     let x8 := ((List.length x11.f2) : Int)
     let x9 := (Go.IntKind.wrap (Go.IntKind.i64 ) (v12 + 1))
     let x12 := (List.getD r448 (Int.toNat v12) 0)
     cond (x12 == x8) (
      some (.inl (v10, v11, x9, b128_0, b128_1, b128_2, r64, r384, r448, r512, r576))) (
      cond ((decide (0 ≤ v12)) && (decide (v12 < ((List.length r512) : Int)))) (
       cond x7 (
        cond x6 (
         cond ((decide (0 ≤ x12)) && (decide (x12 < x8))) (
          let x5 := (List.getD x11.f2 (Int.toNat x12) z69)
          cond ((decide (0 ≤ x5.f0)) && (decide (x5.f0 < ((List.length r384) : Int)))) (
           let x4 := (List.getD r384 (Int.toNat x5.f0) z71)
           let x13 := (List.getD r512 (Int.toNat v12) 0)
           let x3 := (if (x4.f0 > x13) then x4.f0 else x13)
           let x1 := ((decide (v10 < 0)) || (decide (x3 < v11)))
           let x2 := (x3 == v11)
           let x0 := (!((!x1) && x2))
           cond (x0 || x7) (
            cond (x0 || ((decide (0 ≤ v10)) && (decide (v10 < x14)))) (
             cond (x1 || (x2 && (decide (x11.f1 < (List.getD r64 (Int.toNat v10) z54).f1)))) (
              some (.inl (v12, x3, x9, b128_0, b128_1, b128_2, r64, r384, r448, r512, r576))) (
              some (.inl (v10, v11, x9, b128_0, b128_1, b128_2, r64, r384, r448, r512, r576)))) none) none) none) none) none) none) none)) none) none) (
   some (.inr (v10, v11, b128_0, b128_1, b128_2, r64, r384, r448, r512, r576)))
noncomputable def l2 (x : Int × Int × Int × Int × Int × Int × (List S54) × (List S71) × (List Int) × (List Int) × (List S56)) : Option ((Int × Int × Int × Int × Int × (List S54) × (List S71) × (List Int) × (List Int) × (List S56))) := lim l2.b x
theorem l2.eq : ∀ x, l2.b x = roundX (mkE tab es 170 [] []) (loopAt 2 code) (cutOf l2.A l2.c) (cutsOf l2.xs l2.y) x := fun x => by kernel_rfl
theorem l2.owed {R : Type} : owed (mkE (R := R) tab es 170 [] []) (loopAt 2 code) = [] := by kernel_rfl
theorem l2.ok (w0 : World) (M : Own) (h : Pinned M []) {R : Type} : SoundO prog w0 M 170 (.block 2 (.loop (loopAt 2 code))) (loopO (R := R) 2 (cutOf l2.A l2.c) (cutsOf l2.xs l2.y) l2) :=
  loop_ok tabOk uniOk mixed l2.eq (h.sub rfl) (h.sub rfl) fun x hx => by rw [l2.owed] at hx; exact absurd hx List.not_mem_nil

def t26.A : Ann := ⟨[(1, .slc 5000064 []), (2, .box 5000128 0), (6, .slc 5000384 []), (7, .slc 5000448 []), (8, .slc 5000512 []), (9, .slc 5000576 []), (10, .sc), (11, .sc), (14, .box 5000896 0), (15, .sc), (16, .sc)], [(5000128, 30, [.sc, .sc, .sc]), (5000896, 70, [.sc, .sc, .sc, .sc])], [(5000064, false, 2), (5000384, true, 8), (5000448, true, 5), (5000512, true, 5), (5000576, true, 3)], []⟩
def t26.c : Cod uni (Int × Int × Bool × Int × Int × Int × Int × Int × Int × Int × Int × (List S54) × (List S71) × (List Int) × (List Int) × (List S56)) := (codC (iInt .i64) (codC (iInt .i64) (codC iBool (codC (iInt .i64) (codC (iInt .i64) (codC (iInt .i64) (codC (iInt .i64) (codC (iInt .i64) (codC (iInt .i64) (codC (iInt .i64) (codC (iInt .i64) (codC (iRow 2) (codC (iRow 8) (codC (iRow 5) (codC (iRow 5) (cod1 (iRow 3)))))))))))))))))
def t26.xs : List (AExit × Ann) := [(.normal, ⟨[(1, .slc 5000064 []), (2, .box 5000128 0), (6, .slc 5000384 []), (7, .slc 5000448 []), (8, .slc 5000512 []), (9, .slc 5000576 [])], [(5000128, 30, [.sc, .sc, .sc])], [(5000064, false, 2), (5000384, true, 8), (5000448, true, 5), (5000512, true, 5), (5000576, true, 3)], []⟩)]
def t26.y : Coy uni ((Int × Int × Int × (List S54) × (List S71) × (List Int) × (List Int) × (List S56))) := (coy1 (codC (iInt .i64) (codC (iInt .i64) (codC (iInt .i64) (codC (iRow 2) (codC (iRow 8) (codC (iRow 5) (codC (iRow 5) (cod1 (iRow 3))))))))))
noncomputable def t26 : Int × Int × Bool × Int × Int × Int × Int × Int × Int × Int × Int × (List S54) × (List S71) × (List Int) × (List Int) × (List S56) → Option ((Int × Int × Int × (List S54) × (List S71) × (List Int) × (List Int) × (List S56)))
  | (v10, v11, v15, v16, b128_0, b128_1, b128_2, b896_0, b896_1, b896_2, b896_3, r64, r384, r448, r512, r576) =>
  let x1 := ((decide (0 ≤ b896_0)) && (decide (b896_0 < ((List.length r384) : Int))))
  cond x1 (
   let x3 := (List.getD r384 (Int.toNat b896_0) z71)
   (F35.F ((x3.f0, (x3.f1, x3.f2)), ((b896_0, (b896_1, (b896_2, b896_3))), (v15, v16)))).bind fun y35 =>
   cond x1 (
    let x2 := ((decide (0 ≤ v10)) && (decide (v10 < ((List.length r448) : Int))))
    cond x2 (
     let x4 := (List.getD r448 (Int.toNat v10) 0)
     let x0 := ((⟨v10, x4, b896_0, v11, v16, v15⟩ : S56) :: [])
     cond (decide (((List.length r576) + (List.length x0)) ≤ 274877906944)) (
      cond x2 (
       cond x2 (
        cond ((decide (0 ≤ v10)) && (decide (v10 < ((List.length r512) : Int)))) (
         some (b128_0, b128_1, b128_2, r64, (List.set r384 (Int.toNat b896_0) (⟨y35.1, y35.2.1, y35.2.2⟩ : S71)), (List.set r448 (Int.toNat v10) (Go.IntKind.wrap (Go.IntKind.i64 ) (x4 + 1))), (List.set r512 (Int.toNat v10) v16), (r576 ++ x0))) none) none) none) none) none) none) none
theorem t26.eq : ∀ x, t26 x = tailX (mkE tab es 170 [] []) (tailAt 26 code) (cutOf t26.A t26.c) (cutsOf t26.xs t26.y) x := fun x => by kernel_rfl
theorem t26.owed {R : Type} : owed (mkE (R := R) tab es 170 [] []) (tailAt 26 code) = [] := by kernel_rfl
theorem t26.ok (w0 : World) (M : Own) (h : Pinned M []) {R : Type} : SoundO prog w0 M 170 (tailAt 26 code) (tailO (R := R) (cutOf t26.A t26.c) (cutsOf t26.xs t26.y) t26) :=
  tail_ok tabOk uniOk mixed t26.eq (h.sub rfl) (h.sub rfl) fun x hx => by rw [t26.owed] at hx; exact absurd hx List.not_mem_nil

def l0.A : Ann := ⟨[(1, .slc 5000064 []), (2, .box 5000128 0), (6, .slc 5000384 []), (7, .slc 5000448 []), (8, .slc 5000512 []), (9, .slc 5000576 [])], [(5000128, 30, [.sc, .sc, .sc])], [(5000064, false, 2), (5000384, true, 8), (5000448, true, 5), (5000512, true, 5), (5000576, true, 3)], []⟩
def l0.c : Cod uni (Int × Int × Int × (List S54) × (List S71) × (List Int) × (List Int) × (List S56)) := (codC (iInt .i64) (codC (iInt .i64) (codC (iInt .i64) (codC (iRow 2) (codC (iRow 8) (codC (iRow 5) (codC (iRow 5) (cod1 (iRow 3)))))))))
def l0.xs : List (AExit × Ann) := [(.ret, ⟨[(4, .slc 5000256 []), (5, .sc)], [], [(5000256, true, 3)], []⟩)]
def l0.y : Coy uni ((Int × (List S56))) := (coy1 (codC (iInt .i64) (cod1 (iRow 3))))
noncomputable def l0.b : Int × Int × Int × (List S54) × (List S71) × (List Int) × (List Int) × (List S56) → Option ((Int × Int × Int × (List S54) × (List S71) × (List Int) × (List Int) × (List S56)) ⊕ ((Int × (List S56))))
  | (b128_0, b128_1, b128_2, r64, r384, r448, r512, r576) =>
  (l2 ((-1), 0, 0, b128_0, b128_1, b128_2, r64, r384, r448, r512, r576)).bind fun yl2 =>
  cond (decide (yl2.1 < 0)) (
   some (.inr (0, yl2.2.2.2.2.2.2.2.2.2))) (
   cond ((decide (0 ≤ yl2.1)) && (decide (yl2.1 < ((List.length yl2.2.2.2.2.2.1) : Int)))) (
    cond ((decide (0 ≤ yl2.1)) && (decide (yl2.1 < ((List.length yl2.2.2.2.2.2.2.2.1) : Int)))) (
     let x3 := (List.getD yl2.2.2.2.2.2.2.2.1 (Int.toNat yl2.1) 0)
     let x4 := (List.getD yl2.2.2.2.2.2.1 (Int.toNat yl2.1) z54)
     cond ((decide (0 ≤ x3)) && (decide (x3 < ((List.length x4.f2) : Int)))) (
      let x2 := (List.getD x4.f2 (Int.toNat x3) z69)
      cond ((decide (0 ≤ x2.f0)) && (decide (x2.f0 < ((List.length yl2.2.2.2.2.2.2.1) : Int)))) (
       let x1 := (List.getD yl2.2.2.2.2.2.2.1 (Int.toNat x2.f0) z71)
       (F34.F ((x1.f0, (x1.f1, x1.f2)), ((x2.f0, (x2.f1, (x2.f2, x2.f3))), yl2.2.2.2.2.1))).bind fun y34 =>
       let x0 := (Go.IntKind.wrap (Go.IntKind.i64 ) (yl2.2.1 + x2.f1))
       cond y34 (
        (t26 (yl2.1, yl2.2.1, y34, (Go.IntKind.wrap (Go.IntKind.i64 ) (x0 + yl2.2.2.2.1)), yl2.2.2.1, yl2.2.2.2.1, yl2.2.2.2.2.1, x2.f0, x2.f1, x2.f2, x2.f3, yl2.2.2.2.2.2.1, yl2.2.2.2.2.2.2.1, yl2.2.2.2.2.2.2.2.1, yl2.2.2.2.2.2.2.2.2.1, yl2.2.2.2.2.2.2.2.2.2)).bind fun yt26 =>
        some (.inl (yt26.1, yt26.2.1, yt26.2.2.1, yt26.2.2.2.1, yt26.2.2.2.2.1, yt26.2.2.2.2.2.1, yt26.2.2.2.2.2.2.1, yt26.2.2.2.2.2.2.2))) (
        (t26 (yl2.1, yl2.2.1, y34, x0, yl2.2.2.1, yl2.2.2.2.1, yl2.2.2.2.2.1, x2.f0, x2.f1, x2.f2, x2.f3, yl2.2.2.2.2.2.1, yl2.2.2.2.2.2.2.1, yl2.2.2.2.2.2.2.2.1, yl2.2.2.2.2.2.2.2.2.1, yl2.2.2.2.2.2.2.2.2.2)).bind fun yt26 =>
        some (.inl (yt26.1, yt26.2.1, yt26.2.2.1, yt26.2.2.2.1, yt26.2.2.2.2.1, yt26.2.2.2.2.2.1, yt26.2.2.2.2.2.2.1, yt26.2.2.2.2.2.2.2)))) none) none) none) none)
noncomputable def l0 (x : Int × Int × Int × (List S54) × (List S71) × (List Int) × (List Int) × (List S56)) : Option ((Int × (List S56))) := lim l0.b x
theorem l0.eq : ∀ x, l0.b x = roundX (mkE tab es 170 [(2, some (loopO 2 (cutOf l2.A l2.c) (cutsOf l2.xs l2.y) l2))] [(26, some (tailO (cutOf t26.A t26.c) (cutsOf t26.xs t26.y) t26))]) (loopAt 0 code) (cutOf l0.A l0.c) (cutsOf l0.xs l0.y) x := fun x => by kernel_rfl
theorem l0.owed {R : Type} : owed (mkE (R := R) tab es 170 [(2, some (loopO 2 (cutOf l2.A l2.c) (cutsOf l2.xs l2.y) l2))] [(26, some (tailO (cutOf t26.A t26.c) (cutsOf t26.xs t26.y) t26))]) (loopAt 0 code) = [((.block 2 (.loop (loopAt 2 code))), (loopO (R := _) 2 (cutOf l2.A l2.c) (cutsOf l2.xs l2.y) l2)), ((tailAt 26 code), (tailO (R := _) (cutOf t26.A t26.c) (cutsOf t26.xs t26.y) t26))] := by kernel_rfl
theorem l0.ok (w0 : World) (M : Own) (h : Pinned M []) {R : Type} : SoundO prog w0 M 170 (.block 0 (.loop (loopAt 0 code))) (loopO (R := R) 0 (cutOf l0.A l0.c) (cutsOf l0.xs l0.y) l0) :=
  loop_ok tabOk uniOk mixed l0.eq (h.sub rfl) (h.sub rfl) fun x hx => by rw [l0.owed] at hx; rcases List.mem_cons.1 hx with rfl | hx; exact l2.ok w0 M h; rcases List.mem_cons.1 hx with rfl | hx; exact t26.ok w0 M h; exact absurd hx List.not_mem_nil

noncomputable def F : ((Int × Int × Int) × (List S54)) → Option (((List S56) × Int))
  | ((p0_0, p0_1, p0_2), p1) =>
  let x2 := ((List.length p1) : Int)
  cond (decide (x2 > 4096)) (
   some (([] : List S56), 2)) (
   (F32.F ((p0_0, (p0_1, p0_2)), p1)).bind fun y32 =>
   cond (!y32) (
    some (([] : List S56), 1)) (
    (F33.F p0_0).bind fun y33 =>
    let x0 := (((decide (0 ≤ x2)) && (decide (x2 ≤ x2))) && (decide (x2 ≤ 274877906944)))
    cond x0 (
     cond x0 (
      let x1 := (List.replicate (Int.toNat x2) 0)
      (l0 (p0_0, p0_1, p0_2, p1, y33, x1, x1, ([] : List S56))).bind fun yl0 =>
      some (yl0.2, yl0.1)) none) none))
theorem F.eq : ∀ x, F x = runF (mkE tab es 170 [(0, some (loopO 0 (cutOf l0.A l0.c) (cutsOf l0.xs l0.y) l0))] []) code [.agg [.sc, .sc, .sc], .row 2 0] [.row 3, .sc] [.tmp 4, .tmp 5] (Coz.dec cr) (cp.enc x) := fun x => by kernel_rfl
theorem F.owed : owed (mkE (R := ((List S56) × Int)) tab es 170 [(0, some (loopO 0 (cutOf l0.A l0.c) (cutsOf l0.xs l0.y) l0))] []) code = [((.block 0 (.loop (loopAt 0 code))), (loopO (R := _) 0 (cutOf l0.A l0.c) (cutsOf l0.xs l0.y) l0))] := by kernel_rfl
theorem con : ∀ x y, F x = some y → Con prog 16 [.agg [.sc, .sc, .sc], .row 2 0] [.row 3, .sc] (cp.enc x) (cr.enc y).1 (cr.enc y).2 :=
  func_ok (c := code) (n := 170) (pf := [.agg [.sc, .sc, .sc], .row 2 0]) (res := [.tmp 4, .tmp 5]) tabOk uniOk mixed get (by kernel_rfl) (by kernel_rfl) (by kernel_rfl) (by decide) F.eq fun w0 M h x hx => by rw [F.owed] at hx; rcases List.mem_cons.1 hx with rfl | hx; exact l0.ok w0 M h; exact absurd hx List.not_mem_nil
noncomputable def ent : Ent prog uni := Ent.of 16 [.agg [.sc, .sc, .sc], .row 2 0] [.row 3, .sc] cp cr F con fun args w => enters_of get (by kernel_rfl) rfl args w
end Go.Proofs.YtchohkelpjfpcaaDoor.AX.F16

/- The function 17 of the program in the small machine. No conditions. -/
namespace Go.Proofs.YtchohkelpjfpcaaDoor.AX.F17
open Go Go.Proofs.Tryd
noncomputable def code : Code := bodyOf f17
abbrev Y : Type := ((List S56) × Int)
def cp : Cod uni ((Int × Int × Int) × (List S54)) := (codC (iAgg (codC (iInt .i64) (codC (iInt .i64) (cod1 (iInt .i64))))) (cod1 (iRow 2)))
def cr : Coz uni ((List S56) × Int) := (cozR (codC (iRow 3) (cod1 (iInt .i64))) (codD (codD cod0)))
noncomputable def es : List (Ent prog uni) := [F38.ent, F39.ent, F40.ent]
theorem get : prog.funcs[17]? = some f17 := by kernel_rfl

def l2.A : Ann := ⟨[(1, .slc 5000064 []), (2, .box 5000128 0), (6, .slc 5000384 []), (7, .slc 5000448 []), (8, .slc 5000512 []), (9, .slc 5000576 []), (10, .sc), (11, .sc), (34, .slc 5000064 []), (35, .sc), (36, .sc)], [(5000128, 30, [.sc, .sc, .sc])], [(5000064, false, 2), (5000384, true, 9), (5000448, true, 5), (5000512, true, 5), (5000576, true, 3)], []⟩
def l2.c : Cod uni (Int × Int × Int × Int × Int × Int × Int × (List S54) × (List S85) × (List Int) × (List Int) × (List S56)) := (codC (iInt .i64) (codC (iInt .i64) (codC (iInt .i64) (codC (iInt .i64) (codC (iInt .i64) (codC (iInt .i64) (codC (iInt .i64) (codC (iRow 2) (codC (iRow 9) (codC (iRow 5) (codC (iRow 5) (cod1 (iRow 3)))))))))))))
def l2.xs : List (AExit × Ann) := [((.exit 2), ⟨[(1, .slc 5000064 []), (2, .box 5000128 0), (6, .slc 5000384 []), (7, .slc 5000448 []), (8, .slc 5000512 []), (9, .slc 5000576 []), (10, .sc), (11, .sc)], [(5000128, 30, [.sc, .sc, .sc])], [(5000064, false, 2), (5000384, true, 9), (5000448, true, 5), (5000512, true, 5), (5000576, true, 3)], []⟩)]
def l2.y : Coy uni ((Int × Int × Int × Int × Int × (List S54) × (List S85) × (List Int) × (List Int) × (List S56))) := (coy1 (codC (iInt .i64) (codC (iInt .i64) (codC (iInt .i64) (codC (iInt .i64) (codC (iInt .i64) (codC (iRow 2) (codC (iRow 9) (codC (iRow 5) (codC (iRow 5) (cod1 (iRow 3))))))))))))
noncomputable def l2.b : Int × Int × Int × Int × Int × Int × Int × (List S54) × (List S85) × (List Int) × (List Int) × (List S56) → Option ((Int × Int × Int × Int × Int × Int × Int × (List S54) × (List S85) × (List Int) × (List Int) × (List S56)) ⊕ ((Int × Int × Int × Int × Int × (List S54) × (List S85) × (List Int) × (List Int) × (List S56))))
  | (v10, v11, v35, v36, b128_0, b128_1, b128_2, r64, r384, r448, r512, r576) =>
  cond (decide (v36 < v35)) (
   let x11 := ((List.length r64) : Int)
   cond ((decide (0 ≤ v36)) && (decide (v36 < x11))) (
    let x5 := ((decide (0 ≤ v36)) && (decide (v36 < ((List.length r448) : Int))))
    cond x5 (
     let x8 := (List.getD r64 (Int.toNat v36) z54)
     let x6 := ((List.length x8.f2) : Int)
     let x7 := (Go.IntKind.wrap (Go.IntKind.i64 ) (v36 + 1))
     let x9 := (List.getD r448 (Int.toNat v36) 0)
     cond (x9 == x6) (
      some (.inl (v10, v11, v35, x7, b128_0, b128_1, b128_2, r64, r384, r448, r512, r576))) (
      cond ((decide (0 ≤ v36)) && (decide (v36 < ((List.length r512) : Int)))) (
       cond x5 (
        cond ((decide (0 ≤ x9)) && (decide (x9 < x6))) (
         let x4 := (List.getD x8.f2 (Int.toNat x9) z69)
         cond ((decide (0 ≤ x4.f0)) && (decide (x4.f0 < ((List.length r384) : Int)))) (
          let x3 := (List.getD r384 (Int.toNat x4.f0) z85)
          let x10 := (List.getD r512 (Int.toNat v36) 0)
          let x2 := (if (x3.f0 > x10) then x3.f0 else x10)
          let x0 := ((decide (v10 < 0)) || (decide (x2 < v11)))
          let x1 := (x2 == v11)
          cond ((!((!x0) && x1)) || ((decide (0 ≤ v10)) && (decide (v10 < x11)))) (
           cond (x0 || (x1 && (decide (x8.f1 < (List.getD r64 (Int.toNat v10) z54).f1)))) (
            some (.inl (v36, x2, v35, x7, b128_0, b128_1, b128_2, r64, r384, r448, r512, r576))) (
            some (.inl (v10, v11, v35, x7, b128_0, b128_1, b128_2, r64, r384, r448, r512, r576)))) none) none) none) none) none)) none) none) (
   some (.inr (v10, v11, b128_0, b128_1, b128_2, r64, r384, r448, r512, r576)))
noncomputable def l2 (x : Int × Int × Int × Int × Int × Int × Int × (List S54) × (List S85) × (List Int) × (List Int) × (List S56)) : Option ((Int × Int × Int × Int × Int × (List S54) × (List S85) × (List Int) × (List Int) × (List S56))) := lim l2.b x
theorem l2.eq : ∀ x, l2.b x = roundX (mkE tab es 155 [] []) (loopAt 2 code) (cutOf l2.A l2.c) (cutsOf l2.xs l2.y) x := fun x => by kernel_rfl
theorem l2.owed {R : Type} : owed (mkE (R := R) tab es 155 [] []) (loopAt 2 code) = [] := by kernel_rfl
theorem l2.ok (w0 : World) (M : Own) (h : Pinned M []) {R : Type} : SoundO prog w0 M 155 (.block 2 (.loop (loopAt 2 code))) (loopO (R := R) 2 (cutOf l2.A l2.c) (cutsOf l2.xs l2.y) l2) :=
  loop_ok tabOk uniOk mixed l2.eq (h.sub rfl) (h.sub rfl) fun x hx => by rw [l2.owed] at hx; exact absurd hx List.not_mem_nil

def t25.A : Ann := ⟨[(1, .slc 5000064 []), (2, .box 5000128 0), (6, .slc 5000384 []), (7, .slc 5000448 []), (8, .slc 5000512 []), (9, .slc 5000576 []), (10, .sc), (16, .ptr 5000384 [] 0), (17, .box 5001088 0)], [(5000128, 30, [.sc, .sc, .sc]), (5001088, 57, [.sc, .sc, .sc, .sc, .sc, .sc])], [(5000064, false, 2), (5000384, true, 9), (5000448, true, 5), (5000512, true, 5), (5000576, true, 3)], []⟩
def t25.c : Cod uni (Int × Int × Int × Int × Int × Int × Int × Int × Int × Int × Bool × (List S54) × (List S85) × (List Int) × (List Int) × (List S56)) := (codC (iInt .i64) (codC (iInt .i64) (codC (iInt .i64) (codC (iInt .i64) (codC (iInt .i64) (codC (iInt .i64) (codC (iInt .i64) (codC (iInt .i64) (codC (iInt .i64) (codC (iInt .i64) (codC iBool (codC (iRow 2) (codC (iRow 9) (codC (iRow 5) (codC (iRow 5) (cod1 (iRow 3)))))))))))))))))
def t25.xs : List (AExit × Ann) := [(.normal, ⟨[(1, .slc 5000064 []), (2, .box 5000128 0), (6, .slc 5000384 []), (7, .slc 5000448 []), (8, .slc 5000512 []), (9, .slc 5000576 [])], [(5000128, 30, [.sc, .sc, .sc])], [(5000064, false, 2), (5000384, true, 9), (5000448, true, 5), (5000512, true, 5), (5000576, true, 3)], []⟩)]
def t25.y : Coy uni ((Int × Int × Int × (List S54) × (List S85) × (List Int) × (List Int) × (List S56))) := (coy1 (codC (iInt .i64) (codC (iInt .i64) (codC (iInt .i64) (codC (iRow 2) (codC (iRow 9) (codC (iRow 5) (codC (iRow 5) (cod1 (iRow 3))))))))))
noncomputable def t25 : Int × Int × Int × Int × Int × Int × Int × Int × Int × Int × Bool × (List S54) × (List S85) × (List Int) × (List Int) × (List S56) → Option ((Int × Int × Int × (List S54) × (List S85) × (List Int) × (List Int) × (List S56)))
  | (v10, v16p, b128_0, b128_1, b128_2, b1088_0, b1088_1, b1088_2, b1088_3, b1088_4, b1088_5, r64, r384, r448, r512, r576) =>
  cond ((decide (0 ≤ v10)) && (decide (v10 < ((List.length r512) : Int)))) (
   let x1 := ((decide (0 ≤ v10)) && (decide (v10 < ((List.length r448) : Int))))
   cond x1 (
    cond x1 (
     let x0 := ((⟨b1088_0, b1088_1, b1088_2, b1088_3, b1088_4, b1088_5⟩ : S56) :: [])
     cond (decide (((List.length r576) + (List.length x0)) ≤ 274877906944)) (
      let x2 := (List.getD r384 (Int.toNat v16p) z85)
      some (b128_0, b128_1, b128_2, r64, (List.set r384 (Int.toNat v16p) (⟨b1088_4, x2.f1, x2.f2⟩ : S85)), (List.set r448 (Int.toNat v10) (Go.IntKind.wrap (Go.IntKind.i64 ) ((List.getD r448 (Int.toNat v10) 0) + 1))), (List.set r512 (Int.toNat v10) b1088_4), (r576 ++ x0))) none) none) none) none
theorem t25.eq : ∀ x, t25 x = tailX (mkE tab es 155 [] []) (tailAt 25 code) (cutOf t25.A t25.c) (cutsOf t25.xs t25.y) x := fun x => by kernel_rfl
theorem t25.owed {R : Type} : owed (mkE (R := R) tab es 155 [] []) (tailAt 25 code) = [] := by kernel_rfl
theorem t25.ok (w0 : World) (M : Own) (h : Pinned M []) {R : Type} : SoundO prog w0 M 155 (tailAt 25 code) (tailO (R := R) (cutOf t25.A t25.c) (cutsOf t25.xs t25.y) t25) :=
  tail_ok tabOk uniOk mixed t25.eq (h.sub rfl) (h.sub rfl) fun x hx => by rw [t25.owed] at hx; exact absurd hx List.not_mem_nil

def l0.A : Ann := ⟨[(1, .slc 5000064 []), (2, .box 5000128 0), (6, .slc 5000384 []), (7, .slc 5000448 []), (8, .slc 5000512 []), (9, .slc 5000576 [])], [(5000128, 30, [.sc, .sc, .sc])], [(5000064, false, 2), (5000384, true, 9), (5000448, true, 5), (5000512, true, 5), (5000576, true, 3)], []⟩
def l0.c : Cod uni (Int × Int × Int × (List S54) × (List S85) × (List Int) × (List Int) × (List S56)) := (codC (iInt .i64) (codC (iInt .i64) (codC (iInt .i64) (codC (iRow 2) (codC (iRow 9) (codC (iRow 5) (codC (iRow 5) (cod1 (iRow 3)))))))))
def l0.xs : List (AExit × Ann) := [(.ret, ⟨[(4, .slc 5000256 []), (5, .sc)], [], [(5000256, true, 3)], []⟩)]
def l0.y : Coy uni ((Int × (List S56))) := (coy1 (codC (iInt .i64) (cod1 (iRow 3))))
noncomputable def l0.b : Int × Int × Int × (List S54) × (List S85) × (List Int) × (List Int) × (List S56) → Option ((Int × Int × Int × (List S54) × (List S85) × (List Int) × (List Int) × (List S56)) ⊕ ((Int × (List S56))))
  | (b128_0, b128_1, b128_2, r64, r384, r448, r512, r576) =>
  (l2 ((-1), 0, ((List.length r64) : Int), 0, b128_0, b128_1, b128_2, r64, r384, r448, r512, r576)).bind fun yl2 =>
  cond (decide (yl2.1 < 0)) (
   some (.inr (0, yl2.2.2.2.2.2.2.2.2.2))) (
   cond ((decide (0 ≤ yl2.1)) && (decide (yl2.1 < ((List.length yl2.2.2.2.2.2.1) : Int)))) (
    let x2 := ((decide (0 ≤ yl2.1)) && (decide (yl2.1 < ((List.length yl2.2.2.2.2.2.2.2.1) : Int))))
    cond x2 (
     let x3 := (List.getD yl2.2.2.2.2.2.2.2.1 (Int.toNat yl2.1) 0)
     let x4 := (List.getD yl2.2.2.2.2.2.1 (Int.toNat yl2.1) z54)
     cond ((decide (0 ≤ x3)) && (decide (x3 < ((List.length x4.f2) : Int)))) (
      let x1 := (List.getD x4.f2 (Int.toNat x3) z69)
      cond ((decide (0 ≤ x1.f0)) && (decide (x1.f0 < ((List.length yl2.2.2.2.2.2.2.1) : Int)))) (
       cond x2 (
        (F40.F ((yl2.2.2.2.2.2.2.1, x1.f0), ((yl2.2.2.1, (yl2.2.2.2.1, yl2.2.2.2.2.1)), (x1.f0, (x1.f1, (x1.f2, x1.f3)))))).bind fun y40 =>
        let x0 := (Go.IntKind.wrap (Go.IntKind.i64 ) (yl2.2.1 + x1.f1))
        cond y40.1 (
         (t25 (yl2.1, x1.f0, yl2.2.2.1, yl2.2.2.2.1, yl2.2.2.2.2.1, yl2.1, x3, x1.f0, yl2.2.1, (Go.IntKind.wrap (Go.IntKind.i64 ) (x0 + yl2.2.2.2.1)), y40.1, yl2.2.2.2.2.2.1, y40.2.1, yl2.2.2.2.2.2.2.2.1, yl2.2.2.2.2.2.2.2.2.1, yl2.2.2.2.2.2.2.2.2.2)).bind fun yt25 =>
         some (.inl (yt25.1, yt25.2.1, yt25.2.2.1, yt25.2.2.2.1, yt25.2.2.2.2.1, yt25.2.2.2.2.2.1, yt25.2.2.2.2.2.2.1, yt25.2.2.2.2.2.2.2))) (
         (t25 (yl2.1, x1.f0, yl2.2.2.1, yl2.2.2.2.1, yl2.2.2.2.2.1, yl2.1, x3, x1.f0, yl2.2.1, x0, y40.1, yl2.2.2.2.2.2.1, y40.2.1, yl2.2.2.2.2.2.2.2.1, yl2.2.2.2.2.2.2.2.2.1, yl2.2.2.2.2.2.2.2.2.2)).bind fun yt25 =>
         some (.inl (yt25.1, yt25.2.1, yt25.2.2.1, yt25.2.2.2.1, yt25.2.2.2.2.1, yt25.2.2.2.2.2.1, yt25.2.2.2.2.2.2.1, yt25.2.2.2.2.2.2.2)))) none) none) none) none) none)
noncomputable def l0 (x : Int × Int × Int × (List S54) × (List S85) × (List Int) × (List Int) × (List S56)) : Option ((Int × (List S56))) := lim l0.b x
theorem l0.eq : ∀ x, l0.b x = roundX (mkE tab es 155 [(2, some (loopO 2 (cutOf l2.A l2.c) (cutsOf l2.xs l2.y) l2))] [(25, some (tailO (cutOf t25.A t25.c) (cutsOf t25.xs t25.y) t25))]) (loopAt 0 code) (cutOf l0.A l0.c) (cutsOf l0.xs l0.y) x := fun x => by kernel_rfl
theorem l0.owed {R : Type} : owed (mkE (R := R) tab es 155 [(2, some (loopO 2 (cutOf l2.A l2.c) (cutsOf l2.xs l2.y) l2))] [(25, some (tailO (cutOf t25.A t25.c) (cutsOf t25.xs t25.y) t25))]) (loopAt 0 code) = [((.block 2 (.loop (loopAt 2 code))), (loopO (R := _) 2 (cutOf l2.A l2.c) (cutsOf l2.xs l2.y) l2)), ((tailAt 25 code), (tailO (R := _) (cutOf t25.A t25.c) (cutsOf t25.xs t25.y) t25))] := by kernel_rfl
theorem l0.ok (w0 : World) (M : Own) (h : Pinned M []) {R : Type} : SoundO prog w0 M 155 (.block 0 (.loop (loopAt 0 code))) (loopO (R := R) 0 (cutOf l0.A l0.c) (cutsOf l0.xs l0.y) l0) :=
  loop_ok tabOk uniOk mixed l0.eq (h.sub rfl) (h.sub rfl) fun x hx => by rw [l0.owed] at hx; rcases List.mem_cons.1 hx with rfl | hx; exact l2.ok w0 M h; rcases List.mem_cons.1 hx with rfl | hx; exact t25.ok w0 M h; exact absurd hx List.not_mem_nil

noncomputable def F : ((Int × Int × Int) × (List S54)) → Option (((List S56) × Int))
  | ((p0_0, p0_1, p0_2), p1) =>
  let x2 := ((List.length p1) : Int)
  cond (decide (x2 > 4096)) (
   some (([] : List S56), 2)) (
   (F38.F ((p0_0, (p0_1, p0_2)), p1)).bind fun y38 =>
   cond (!y38) (
    some (([] : List S56), 1)) (
    (F39.F p0_0).bind fun y39 =>
    let x0 := (((decide (0 ≤ x2)) && (decide (x2 ≤ x2))) && (decide (x2 ≤ 274877906944)))
    cond x0 (
     cond x0 (
      let x1 := (List.replicate (Int.toNat x2) 0)
      (l0 (p0_0, p0_1, p0_2, p1, y39, x1, x1, ([] : List S56))).bind fun yl0 =>
      some (yl0.2, yl0.1)) none) none))
theorem F.eq : ∀ x, F x = runF (mkE tab es 155 [(0, some (loopO 0 (cutOf l0.A l0.c) (cutsOf l0.xs l0.y) l0))] []) code [.agg [.sc, .sc, .sc], .row 2 0] [.row 3, .sc] [.tmp 4, .tmp 5] (Coz.dec cr) (cp.enc x) := fun x => by kernel_rfl
theorem F.owed : owed (mkE (R := ((List S56) × Int)) tab es 155 [(0, some (loopO 0 (cutOf l0.A l0.c) (cutsOf l0.xs l0.y) l0))] []) code = [((.block 0 (.loop (loopAt 0 code))), (loopO (R := _) 0 (cutOf l0.A l0.c) (cutsOf l0.xs l0.y) l0))] := by kernel_rfl
theorem con : ∀ x y, F x = some y → Con prog 17 [.agg [.sc, .sc, .sc], .row 2 0] [.row 3, .sc] (cp.enc x) (cr.enc y).1 (cr.enc y).2 :=
  func_ok (c := code) (n := 155) (pf := [.agg [.sc, .sc, .sc], .row 2 0]) (res := [.tmp 4, .tmp 5]) tabOk uniOk mixed get (by kernel_rfl) (by kernel_rfl) (by kernel_rfl) (by decide) F.eq fun w0 M h x hx => by rw [F.owed] at hx; rcases List.mem_cons.1 hx with rfl | hx; exact l0.ok w0 M h; exact absurd hx List.not_mem_nil
noncomputable def ent : Ent prog uni := Ent.of 17 [.agg [.sc, .sc, .sc], .row 2 0] [.row 3, .sc] cp cr F con fun args w => enters_of get (by kernel_rfl) rfl args w
end Go.Proofs.YtchohkelpjfpcaaDoor.AX.F17

/- Plans: machines, the next step. No conditions. -/
namespace Go.Proofs.YtchohkelpjfpcaaDoor.AX
open Go

structure ShopOk (M S L : Int) (jobs : List S54) : Prop where
  m1 : 1 ≤ M
  m2 : M ≤ 6
  s1 : 0 ≤ S
  s2 : S ≤ 1000
  l1 : 1 ≤ L
  l2 : L ≤ 1000
  n : jobs.length ≤ 20
  job : ∀ j ∈ jobs, 1 ≤ j.f2.length ∧ j.f2.length ≤ 8 ∧ 0 ≤ j.f1 ∧ j.f1 ≤ 1000000 ∧ ∀ x ∈ j.f2, 0 ≤ x.f0 ∧ x.f0 < M ∧ 1 ≤ x.f1 ∧ x.f1 ≤ 1000 ∧ 0 ≤ x.f2 ∧ x.f2 ≤ 9 ∧ 0 ≤ x.f3 ∧ x.f3 ≤ L

theorem goJ_ok {M L : Int} : ∀ {l pre : List S54}, goJ M L pre l = true → ∀ j ∈ l, 1 ≤ j.f2.length ∧ j.f2.length ≤ 8 ∧ 0 ≤ j.f1 ∧ j.f1 ≤ 1000000 ∧ ∀ x ∈ j.f2, 0 ≤ x.f0 ∧ x.f0 < M ∧ 1 ≤ x.f1 ∧ x.f1 ≤ 1000 ∧ 0 ≤ x.f2 ∧ x.f2 ≤ 9 ∧ 0 ≤ x.f3 ∧ x.f3 ≤ L
  | [], _, _, j, hj => by simp at hj
  | k :: l, pre, h, j, hj => by
    simp only [goJ, Bool.and_eq_true, Bool.not_eq_true'] at h
    obtain ⟨⟨⟨h1, _⟩, h3⟩, h4⟩ := h
    rcases List.mem_cons.1 hj with rfl | hj
    · unfold headBad at h1
      simp only [Bool.or_eq_false_iff, decide_eq_false_iff_not] at h1
      refine ⟨by omega, by omega, by omega, by omega, fun x hx => ?_⟩
      have := List.all_eq_true.1 h3 x hx
      unfold stepOk stepBad at this
      simp only [Bool.not_eq_true', Bool.or_eq_false_iff, decide_eq_false_iff_not] at this
      omega
    · exact goJ_ok h4 j hj

theorem shop_ok {M S L : Int} {jobs : List S54} (h : shopR M S L jobs = true) : ShopOk M S L jobs := by
  unfold shopR at h
  rw [Bool.and_eq_true, Bool.not_eq_true'] at h
  obtain ⟨h1, h2⟩ := h
  unfold headerBad at h1
  simp only [Bool.or_eq_false_iff, decide_eq_false_iff_not] at h1
  exact ⟨by omega, by omega, by omega, by omega, by omega, by omega, by omega, goJ_ok h2⟩

abbrev m0 : S71 := ⟨0, -1, 0⟩
def m85 (x : S71) : S85 := ⟨x.f0, x.f1, x.f2⟩

theorem F33.ok {M : Int} (h : 0 ≤ M) (h2 : M ≤ 100) : F33.F M = some (List.replicate M.toNat m0) := by
  have := lim_run (f := F33.l0.b) (fun i => (M, (i : Int), List.replicate i m0)) M.toNat (y := List.replicate M.toNat m0) (fun i hi => by
    have d1 : decide ((i : Int) < M) = true := dT (by omega)
    have d2 : decide (((List.length (List.replicate i m0)) + (List.length ((⟨0, (-1), 0⟩ : S71) :: []))) ≤ 274877906944) = true := dT (by simp; omega)
    have w : Go.IntKind.wrap .i64 ((i : Int) + 1) = ((i + 1 : Nat) : Int) := by rw [w64 (by omega) (by omega)]; rfl
    simp only [F33.l0.b, d1, d2, cT, w]
    rw [show List.replicate i m0 ++ (⟨0, (-1), 0⟩ : S71) :: [] = List.replicate (i + 1) m0 from by rw [List.replicate_succ']])
    (by
      have d1 : decide ((M.toNat : Int) < M) = false := dF (by omega)
      simp only [F33.l0.b, d1, cF])
  simp only [F33.F]
  have e : F33.l0 (M, 0, ([] : List S71)) = some (List.replicate M.toNat m0) := this
  rw [e, bS]

theorem F39.ok {M : Int} (h : 0 ≤ M) (h2 : M ≤ 100) : F39.F M = some ((List.replicate M.toNat m0).map m85) := by
  have := lim_run (f := F39.l0.b) (fun i => ((M.toNat : Int), (i : Int), upTo m85 z85 (List.replicate M.toNat m0) i)) M.toNat (y := (List.replicate M.toNat m0).map m85) (fun i hi => by
    have hl : (upTo m85 z85 (List.replicate M.toNat m0) i).length = M.toNat := by rw [upTo_len (by simp; omega)]; simp
    have d1 : decide ((i : Int) < (M.toNat : Int)) = true := dT (by omega)
    have d2 : decide ((0 : Int) ≤ (i : Int)) = true := dT (by omega)
    have d3 : decide ((i : Int) < ((upTo m85 z85 (List.replicate M.toNat m0) i).length : Int)) = true := dT (by omega)
    have w : Go.IntKind.wrap .i64 ((i : Int) + 1) = ((i + 1 : Nat) : Int) := by rw [w64 (by omega) (by omega)]; rfl
    have e := upTo_set (c := m85) (z := z85) (d := m0) (l := List.replicate M.toNat m0) (i := i) (by rw [List.length_replicate]; exact hi)
    have g : (upTo m85 z85 (List.replicate M.toNat m0) i).getD i z85 = z85 := by
      have hlen : (((List.replicate M.toNat m0).take i).map m85).length = i := by simp; omega
      unfold upTo
      rw [List.getD, List.getElem?_append_right (by omega), hlen, Nat.sub_self]
      rw [List.length_replicate, List.getElem?_replicate, if_pos (by omega)]
      rfl
    simp only [F39.l0.b, d1, d2, d3, Bool.and_self, cT, w, Int.toNat_natCast, g]
    rw [← e]
    simp only [Option.some.injEq, Sum.inl.injEq, Prod.mk.injEq, true_and]
    congr 1
    rw [getD_lt (by rw [List.length_replicate]; exact hi)]
    simp [m85, z85])
    (by
      have d1 : decide ((M.toNat : Int) < (M.toNat : Int)) = false := dF (by omega)
      have hl : (List.replicate M.toNat m0).length = M.toNat := by simp
      simp only [F39.l0.b, d1, cF]
      rw [show upTo m85 z85 (List.replicate M.toNat m0) M.toNat = (List.replicate M.toNat m0).map m85 by have := upTo_all (c := m85) (z := z85) (l := List.replicate M.toNat m0); rwa [hl] at this])
  have d0 : (((decide (0 ≤ M)) && (decide (M ≤ M))) && (decide (M ≤ 274877906944))) = true := by simp; omega
  simp only [F39.F, d0, cT, List.length_replicate]
  have e : F39.l0 ((M.toNat : Int), 0, List.replicate M.toNat z85) = some ((List.replicate M.toNat m0).map m85) := by
    have h0 : upTo m85 z85 (List.replicate M.toNat m0) 0 = List.replicate M.toNat z85 := by simp [upTo]
    rw [← h0]; exact this
  rw [e, bS]

def freshR (L : Int) (x : S71) (t : S69) : Bool := (x.f1 != t.f2) || (decide ((Go.IntKind.wrap .i64 (x.f2 + t.f3)) > L))
def wearR (x : S71) (t : S69) (fresh : Bool) : Int := Go.IntKind.wrap .i64 ((if fresh = true then 0 else x.f2) + t.f3)

theorem F34.ok (x : S71) (t : S69) (L : Int) : F34.F ((x.f0, x.f1, x.f2), (t.f0, t.f1, t.f2, t.f3), L) = some (freshR L x t) := rfl
theorem F35.ok (x : S71) (t : S69) (fresh : Bool) (to : Int) : F35.F ((x.f0, x.f1, x.f2), (t.f0, t.f1, t.f2, t.f3), fresh, to) = some ((if to > x.f0 then to else x.f0), t.f2, wearR x t fresh) := by
  unfold wearR
  cases fresh <;> simp only [F35.F, F35.t3, cT, cF, bS] <;> rfl

theorem F40.ok (ms : List S71) (i M S L : Int) (t : S69) (hi : i.toNat < ms.length) : F40.F ((ms.map m85, i), (M, S, L), (t.f0, t.f1, t.f2, t.f3)) =
    some (freshR L (ms.getD i.toNat z71) t, ((ms.set i.toNat ⟨(ms.getD i.toNat z71).f0, t.f2, wearR (ms.getD i.toNat z71) t (freshR L (ms.getD i.toNat z71) t)⟩).map m85, ())) := by
  have g : (ms.map m85).getD i.toNat z85 = m85 (ms.getD i.toNat z71) := by rw [getD_lt (by simpa using hi), getD_lt hi]; simp
  generalize hx : ms.getD i.toNat z71 = x at g ⊢
  have hm : ∀ y : S71, (ms.map m85).set i.toNat (m85 y) = (ms.set i.toNat y).map m85 := fun y => by rw [List.map_set]
  have hl : i.toNat < (ms.map m85).length := by simpa using hi
  have hfr : ((((m85 x).f1 != t.f2)) || (decide ((Go.IntKind.wrap .i64 ((m85 x).f2 + t.f3)) > L))) = freshR L x t := rfl
  have gs : ∀ (l : List S85) (y : S85), l.length = (ms.map m85).length → (l.set i.toNat y).getD i.toNat z85 = y := fun l y h => getD_set (by omega)
  simp only [F40.F, F40.t4, g]
  rw [hfr]
  cases hf : freshR L x t with
  | true =>
    simp only [cT, bS]
    rw [gs _ _ rfl]
    simp only [List.set_set]
    rw [gs _ _ rfl, ← hm]
    rfl
  | false =>
    simp only [cF, bS, g]
    simp only [List.set_set]
    rw [gs _ _ rfl, ← hm]
    rfl

end Go.Proofs.YtchohkelpjfpcaaDoor.AX

/- Plans: the next step. No conditions. -/
namespace Go.Proofs.YtchohkelpjfpcaaDoor.AX
open Go

def lenJ (jobs : List S54) (i : Nat) : Int := ((jobs.getD i z54).f2.length : Int)
def stepJ (jobs : List S54) (nx : List Int) (i : Nat) : S69 := (jobs.getD i z54).f2.getD (nx.getD i 0).toNat z69
def timeJ (jobs : List S54) (ms : List S71) (nx en : List Int) (i : Nat) : Int := if (ms.getD (stepJ jobs nx i).f0.toNat z71).f0 > en.getD i 0 then (ms.getD (stepJ jobs nx i).f0.toNat z71).f0 else en.getD i 0
def pickStep (jobs : List S54) (ms : List S71) (nx en : List Int) (i : Nat) (a : Int × Int) : Int × Int :=
  if nx.getD i 0 = lenJ jobs i then a
  else if ((decide (a.1 < 0) || decide (timeJ jobs ms nx en i < a.2)) || ((timeJ jobs ms nx en i == a.2) && decide ((jobs.getD i z54).f1 < (jobs.getD a.1.toNat z54).f1))) = true then ((i : Int), timeJ jobs ms nx en i) else a
def pickJ (jobs : List S54) (ms : List S71) (nx en : List Int) : Int × Int := (List.range jobs.length).foldl (fun a i => pickStep jobs ms nx en i a) (-1, 0)

/-- A state of planning: sizes, bounds. -/
structure SInv (M S L : Int) (jobs : List S54) (B : Int) (ms : List S71) (nx en : List Int) : Prop where
  ok : ShopOk M S L jobs
  lm : ms.length = M.toNat
  ln : nx.length = jobs.length
  le : en.length = jobs.length
  nx : ∀ i, i < jobs.length → 0 ≤ nx.getD i 0 ∧ nx.getD i 0 ≤ lenJ jobs i
  bm : ∀ i, i < ms.length → 0 ≤ (ms.getD i z71).f0 ∧ (ms.getD i z71).f0 ≤ B
  be : ∀ i, i < jobs.length → 0 ≤ en.getD i 0 ∧ en.getD i 0 ≤ B

section
variable {M S L B : Int} {jobs : List S54} {ms : List S71} {nx en : List Int} {out : List S56}

theorem SInv.step (h : SInv M S L jobs B ms nx en) {i : Nat} (hi : i < jobs.length) (hn : nx.getD i 0 ≠ lenJ jobs i) :
    0 ≤ nx.getD i 0 ∧ nx.getD i 0 < lenJ jobs i ∧ 0 ≤ (stepJ jobs nx i).f0 ∧ (stepJ jobs nx i).f0.toNat < ms.length ∧ (stepJ jobs nx i).f0 < ms.length ∧ 1 ≤ (stepJ jobs nx i).f1 ∧ (stepJ jobs nx i).f1 ≤ 1000 := by
  have h1 := h.nx i hi
  have hj := h.ok.job (jobs.getD i z54) (by rw [getD_lt hi]; exact List.getElem_mem hi)
  have hlt : nx.getD i 0 < lenJ jobs i := by omega
  have hx := hj.2.2.2.2 (stepJ jobs nx i) (by
    unfold lenJ at hlt
    have e := getD_lt (l := (jobs.getD i z54).f2) (d := z69) (i := (nx.getD i 0).toNat) (by omega)
    unfold stepJ; rw [e]; exact List.getElem_mem _)
  have := h.lm
  have := h.ok.m1
  refine ⟨h1.1, hlt, hx.1, by omega, by omega, hx.2.2.1, hx.2.2.2.1⟩

def PickInv (jobs : List S54) (ms : List S71) (nx en : List Int) (a : Int × Int) : Prop := -1 ≤ a.1 ∧ a.1 < jobs.length ∧ (0 ≤ a.1 → nx.getD a.1.toNat 0 ≠ lenJ jobs a.1.toNat ∧ a.2 = timeJ jobs ms nx en a.1.toNat)

theorem pick_inv {i : Nat} (hi : i < jobs.length) {a : Int × Int} (h : PickInv jobs ms nx en a) : PickInv jobs ms nx en (pickStep jobs ms nx en i a) := by
  unfold pickStep
  split
  · exact h
  · rename_i hn
    split
    · refine ⟨by show -1 ≤ (i : Int); omega, by show (i : Int) < _; omega, fun _ => ?_⟩
      show nx.getD (i : Int).toNat 0 ≠ lenJ jobs (i : Int).toNat ∧ timeJ jobs ms nx en i = timeJ jobs ms nx en (i : Int).toNat
      rw [Int.toNat_natCast]
      exact ⟨hn, rfl⟩
    · exact h

theorem pick_fin (jobs : List S54) (ms : List S71) (nx en : List Int) : PickInv jobs ms nx en (pickJ jobs ms nx en) := by
  unfold pickJ
  have : ∀ (l : List Nat) (a : Int × Int), (∀ i ∈ l, i < jobs.length) → PickInv jobs ms nx en a → PickInv jobs ms nx en (l.foldl (fun a i => pickStep jobs ms nx en i a) a) := by
    intro l
    induction l with
    | nil => intro a _ h; exact h
    | cons i l ih => intro a hl h; exact ih _ (fun j hj => hl j (by simp [hj])) (pick_inv (hl i (by simp)) h)
  exact this _ _ (fun i hi => List.mem_range.1 hi) ⟨by decide, by show (-1 : Int) < _; omega, fun h => absurd h (by decide)⟩

theorem range_at {n i : Nat} (h : i < n) : (List.range n).getD i 0 = i := by rw [getD_lt (by simpa using h)]; simp

theorem F16.l2_ok (h : SInv M S L jobs B ms nx en) : F16.l2 (-1, 0, 0, M, S, L, jobs, ms, nx, en, out) = some ((pickJ jobs ms nx en).1, (pickJ jobs ms nx en).2, M, S, L, jobs, ms, nx, en, out) :=
  lim_fold (f := F16.l2.b) (fun i (a : Int × Int) => (a.1, a.2, (i : Int), M, S, L, jobs, ms, nx, en, out)) (List.range jobs.length) 0 (fun a i => pickStep jobs ms nx en i a) (PickInv jobs ms nx en) (z := fun q => (q.1, q.2, M, S, L, jobs, ms, nx, en, out)) (-1, 0) ⟨by decide, by show (-1 : Int) < _; omega, fun h => absurd h (by decide)⟩
    (fun a i hi ha => by rw [List.length_range] at hi; rw [range_at hi]; exact pick_inv hi ha) (fun i a hi ha => by
    rw [List.length_range] at hi
    rw [range_at hi]
    have hn20 := h.ok.n
    have := h.ln
    have := h.le
    obtain ⟨a1, a2⟩ := a
    dsimp only
    have d1 : decide ((i : Int) < (jobs.length : Int)) = true := dT (by omega)
    have d2 : decide ((0 : Int) ≤ (i : Int)) = true := dT (by omega)
    have d3 : decide ((i : Int) < (nx.length : Int)) = true := dT (by omega)
    have d4 : decide ((i : Int) < (en.length : Int)) = true := dT (by omega)
    have w : Go.IntKind.wrap .i64 ((i : Int) + 1) = ((i + 1 : Nat) : Int) := by rw [w64 (by omega) (by omega)]; rfl
    unfold pickStep
    by_cases hn : nx.getD i 0 = lenJ jobs i
    · rw [if_pos hn]
      have e : (nx.getD i 0 == ((jobs.getD i z54).f2.length : Int)) = true := qT hn
      simp only [F16.l2.b, d1, d2, d3, Bool.and_self, cT, Int.toNat_natCast, e, w]
    · rw [if_neg hn]
      have e : (nx.getD i 0 == ((jobs.getD i z54).f2.length : Int)) = false := qF hn
      obtain ⟨s1, s2, s3, s4, s5, _, _⟩ := h.step hi hn
      have d5 : decide (0 ≤ nx.getD i 0) = true := dT s1
      have d6 : decide (nx.getD i 0 < ((jobs.getD i z54).f2.length : Int)) = true := dT s2
      have d7 : decide (0 ≤ ((jobs.getD i z54).f2.getD (nx.getD i 0).toNat z69).f0) = true := dT s3
      have d8 : decide (((jobs.getD i z54).f2.getD (nx.getD i 0).toNat z69).f0 < (ms.length : Int)) = true := dT s5
      have ht : (if (ms.getD ((jobs.getD i z54).f2.getD (nx.getD i 0).toNat z69).f0.toNat z71).f0 > en.getD i 0 then (ms.getD ((jobs.getD i z54).f2.getD (nx.getD i 0).toNat z69).f0.toNat z71).f0 else en.getD i 0) = timeJ jobs ms nx en i := rfl
      have ht2 : (!((!(decide (a1 < 0) || decide (timeJ jobs ms nx en i < a2))) && (timeJ jobs ms nx en i == a2)) || (decide (0 ≤ a1) && decide (a1 < (jobs.length : Int)))) = true := by
        cases hb : (decide (a1 < 0) || decide (timeJ jobs ms nx en i < a2)) with
        | true => rfl
        | false =>
          simp only [Bool.or_eq_false_iff, decide_eq_false_iff_not] at hb
          rw [dT (show 0 ≤ a1 by omega), dT (show a1 < (jobs.length : Int) from ha.2.1)]
          simp
      have hb : ∀ b : Bool, (b || true) = true := fun b => by simp
      cases hc : ((decide (a1 < 0) || decide (timeJ jobs ms nx en i < a2)) || ((timeJ jobs ms nx en i == a2) && decide ((jobs.getD i z54).f1 < (jobs.getD a1.toNat z54).f1))) with
      | true => simp only [F16.l2.b, d1, d2, d3, d4, d5, d6, d7, d8, Bool.and_self, cT, cF, Int.toNat_natCast, e, w, ht, hb, ht2, hc, if_true]
      | false => simp only [F16.l2.b, d1, d2, d3, d4, d5, d6, d7, d8, Bool.and_self, cT, cF, Int.toNat_natCast, e, w, ht, hb, ht2, hc, Bool.false_eq_true, if_false])
    (fun a ha => by
      rw [List.length_range]
      have d1 : decide ((jobs.length : Int) < (jobs.length : Int)) = false := dF (by omega)
      simp only [F16.l2.b, d1, cF])

theorem at85 {i : Nat} (h : i < ms.length) : (ms.map m85).getD i z85 = m85 (ms.getD i z71) := by rw [getD_lt (by simpa using h), getD_lt h]; simp

theorem F17.l2_ok (h : SInv M S L jobs B ms nx en) : F17.l2 (-1, 0, (jobs.length : Int), 0, M, S, L, jobs, ms.map m85, nx, en, out) = some ((pickJ jobs ms nx en).1, (pickJ jobs ms nx en).2, M, S, L, jobs, ms.map m85, nx, en, out) :=
  lim_fold (f := F17.l2.b) (fun i (a : Int × Int) => (a.1, a.2, (jobs.length : Int), (i : Int), M, S, L, jobs, ms.map m85, nx, en, out)) (List.range jobs.length) 0 (fun a i => pickStep jobs ms nx en i a) (PickInv jobs ms nx en) (z := fun q => (q.1, q.2, M, S, L, jobs, ms.map m85, nx, en, out)) (-1, 0) ⟨by decide, by show (-1 : Int) < _; omega, fun h => absurd h (by decide)⟩
    (fun a i hi ha => by rw [List.length_range] at hi; rw [range_at hi]; exact pick_inv hi ha) (fun i a hi ha => by
    rw [List.length_range] at hi
    rw [range_at hi]
    have hn20 := h.ok.n
    have := h.ln
    have := h.le
    obtain ⟨a1, a2⟩ := a
    dsimp only
    have d1 : decide ((i : Int) < (jobs.length : Int)) = true := dT (by omega)
    have d2 : decide ((0 : Int) ≤ (i : Int)) = true := dT (by omega)
    have d3 : decide ((i : Int) < (nx.length : Int)) = true := dT (by omega)
    have d4 : decide ((i : Int) < (en.length : Int)) = true := dT (by omega)
    have w : Go.IntKind.wrap .i64 ((i : Int) + 1) = ((i + 1 : Nat) : Int) := by rw [w64 (by omega) (by omega)]; rfl
    unfold pickStep
    by_cases hn : nx.getD i 0 = lenJ jobs i
    · rw [if_pos hn]
      have e : (nx.getD i 0 == ((jobs.getD i z54).f2.length : Int)) = true := qT hn
      simp only [F17.l2.b, d1, d2, d3, Bool.and_self, cT, Int.toNat_natCast, e, w]
    · rw [if_neg hn]
      have e : (nx.getD i 0 == ((jobs.getD i z54).f2.length : Int)) = false := qF hn
      obtain ⟨s1, s2, s3, s4, s5, _, _⟩ := h.step hi hn
      have d5 : decide (0 ≤ nx.getD i 0) = true := dT s1
      have d6 : decide (nx.getD i 0 < ((jobs.getD i z54).f2.length : Int)) = true := dT s2
      have d7 : decide (0 ≤ ((jobs.getD i z54).f2.getD (nx.getD i 0).toNat z69).f0) = true := dT s3
      have d8 : decide (((jobs.getD i z54).f2.getD (nx.getD i 0).toNat z69).f0 < ((ms.map m85).length : Int)) = true := dT (by rw [List.length_map]; exact s5)
      have g : (ms.map m85).getD ((jobs.getD i z54).f2.getD (nx.getD i 0).toNat z69).f0.toNat z85 = m85 (ms.getD ((jobs.getD i z54).f2.getD (nx.getD i 0).toNat z69).f0.toNat z71) := at85 s4
      have ht : (if (m85 (ms.getD ((jobs.getD i z54).f2.getD (nx.getD i 0).toNat z69).f0.toNat z71)).f0 > en.getD i 0 then (m85 (ms.getD ((jobs.getD i z54).f2.getD (nx.getD i 0).toNat z69).f0.toNat z71)).f0 else en.getD i 0) = timeJ jobs ms nx en i := rfl
      have ht2 : (!((!(decide (a1 < 0) || decide (timeJ jobs ms nx en i < a2))) && (timeJ jobs ms nx en i == a2)) || (decide (0 ≤ a1) && decide (a1 < (jobs.length : Int)))) = true := by
        cases hb : (decide (a1 < 0) || decide (timeJ jobs ms nx en i < a2)) with
        | true => rfl
        | false =>
          simp only [Bool.or_eq_false_iff, decide_eq_false_iff_not] at hb
          rw [dT (show 0 ≤ a1 by omega), dT (show a1 < (jobs.length : Int) from ha.2.1)]
          simp
      cases hc : ((decide (a1 < 0) || decide (timeJ jobs ms nx en i < a2)) || ((timeJ jobs ms nx en i == a2) && decide ((jobs.getD i z54).f1 < (jobs.getD a1.toNat z54).f1))) with
      | true => simp only [F17.l2.b, d1, d2, d3, d4, d5, d6, d7, d8, Bool.and_self, cT, cF, Int.toNat_natCast, e, w, g, ht, ht2, hc, if_true]
      | false => simp only [F17.l2.b, d1, d2, d3, d4, d5, d6, d7, d8, Bool.and_self, cT, cF, Int.toNat_natCast, e, w, g, ht, ht2, hc, Bool.false_eq_true, if_false])
    (fun a ha => by
      rw [List.length_range]
      have d1 : decide ((jobs.length : Int) < (jobs.length : Int)) = false := dF (by omega)
      simp only [F17.l2.b, d1, cF])
end

end Go.Proofs.YtchohkelpjfpcaaDoor.AX

/- Plans: the program and its reference agree. No conditions. -/
namespace Go.Proofs.YtchohkelpjfpcaaDoor.AX
open Go

def sumI : List Int → Int
  | [] => 0
  | x :: l => x + sumI l
theorem sumI_set : ∀ {l : List Int} {i : Nat} {v : Int}, i < l.length → sumI (l.set i v) = sumI l - l.getD i 0 + v
  | [], _, _, h => by simp at h
  | x :: l, 0, v, _ => by simp [sumI, List.getD]; omega
  | x :: l, i + 1, v, h => by
    simp only [List.set_cons_succ, sumI, List.getD_cons_succ]
    rw [sumI_set (by simpa using h)]; omega
theorem sumI_le {c : Int} : ∀ {l : List Int}, (∀ i, i < l.length → 0 ≤ l.getD i 0 ∧ l.getD i 0 ≤ c) → 0 ≤ sumI l ∧ sumI l ≤ c * l.length
  | [], _ => by simp [sumI]
  | x :: l, h => by
    have h0 := h 0 (by simp)
    have ih := sumI_le (l := l) (fun i hi => by have := h (i + 1) (by simpa using hi); simpa using this)
    have e : (x :: l).getD 0 0 = x := rfl
    rw [e] at h0
    simp only [sumI, List.length_cons]
    have : c * ((l.length + 1 : Nat) : Int) = c * l.length + c := by rw [Int.natCast_add, Int.mul_add]; simp
    omega

def toR (S from' : Int) (x : S69) (fr : Bool) : Int := bif fr then Go.IntKind.wrap .i64 (Go.IntKind.wrap .i64 (from' + x.f1) + S) else Go.IntKind.wrap .i64 (from' + x.f1)
def planR (jobs : List S54) (S L : Int) : Nat → List S71 → List Int → List Int → List S56 → List S56
  | 0, _, _, _, out => out
  | f + 1, ms, nx, en, out =>
    let a := pickJ jobs ms nx en
    if a.1 < 0 then out
    else
      let i := a.1.toNat
      let x := stepJ jobs nx i
      let m := ms.getD x.f0.toNat z71
      let fr := freshR L m x
      let to := toR S a.2 x fr
      planR jobs S L f (ms.set x.f0.toNat ⟨to, x.f2, wearR m x fr⟩) (nx.set i (nx.getD i 0 + 1)) (en.set i to) (out ++ [⟨a.1, nx.getD i 0, x.f0, a.2, to, fr⟩])

theorem getD_set_ne {α : Type} {l : List α} {i j : Nat} {v d : α} (h : i ≠ j) : (l.set i v).getD j d = l.getD j d := by
  simp [List.getD, List.getElem?_set_ne h]
theorem getD_set_cases {α : Type} {l : List α} {i j : Nat} {v d : α} (P : α → Prop) (hv : P v) (hl : P (l.getD j d)) : P ((l.set i v).getD j d) := by
  by_cases e : i = j
  · subst e
    by_cases h : i < l.length
    · rw [getD_set h]; exact hv
    · rw [List.set_eq_of_length_le (by omega)]; exact hl
  · rw [getD_set_ne e]; exact hl

section
variable {M S L : Int} {jobs : List S54}

theorem inv_next {B from' : Int} {ms : List S71} {nx en : List Int} (h : SInv M S L jobs B ms nx en) {i : Nat} (hi : i < jobs.length) (hn : nx.getD i 0 ≠ lenJ jobs i) (hB : 0 ≤ B) (hB2 : B ≤ 1000000) (hf : 0 ≤ from') (hf2 : from' ≤ B) {m : S71} (hm : m.f0 = toR S from' (stepJ jobs nx i) (freshR L (ms.getD (stepJ jobs nx i).f0.toNat z71) (stepJ jobs nx i))) :
    from' ≤ m.f0 ∧ m.f0 ≤ B + 2000 ∧ SInv M S L jobs (B + 2000) (ms.set (stepJ jobs nx i).f0.toNat m) (nx.set i (nx.getD i 0 + 1)) (en.set i m.f0) := by
  obtain ⟨s1, s2, s3, s4, s5, s6, s7⟩ := h.step hi hn
  have hs1 := h.ok.s1
  have hs2 := h.ok.s2
  have hto : from' ≤ m.f0 ∧ m.f0 ≤ B + 2000 := by
    rw [hm]
    unfold toR
    have w1 : Go.IntKind.wrap .i64 (from' + (stepJ jobs nx i).f1) = from' + (stepJ jobs nx i).f1 := w64 (by omega) (by omega)
    rw [w1]
    have w2 : Go.IntKind.wrap .i64 (from' + (stepJ jobs nx i).f1 + S) = from' + (stepJ jobs nx i).f1 + S := w64 (by omega) (by omega)
    rw [w2]
    cases freshR L (ms.getD (stepJ jobs nx i).f0.toNat z71) (stepJ jobs nx i) <;> simp only [cond_true, cond_false] <;> omega
  refine ⟨hto.1, hto.2, h.ok, by simp [h.lm], by simp [h.ln], by simp [h.le], fun j hj => ?_, fun j hj => ?_, fun j hj => ?_⟩
  · by_cases e : i = j
    · subst e
      rw [getD_set (by rw [h.ln]; exact hi)]
      omega
    · rw [getD_set_ne e]; exact h.nx j hj
  · refine getD_set_cases (fun y : S71 => 0 ≤ y.f0 ∧ y.f0 ≤ B + 2000) ⟨by omega, hto.2⟩ ?_
    have := h.bm j (by simpa using hj)
    omega
  · refine getD_set_cases (fun y : Int => 0 ≤ y ∧ y ≤ B + 2000) ⟨by omega, hto.2⟩ ?_
    have := h.be j hj
    omega

theorem time_ge {B : Int} {ms : List S71} {nx en : List Int} (h : SInv M S L jobs B ms nx en) {i : Nat} (hi : i < jobs.length) (hn : nx.getD i 0 ≠ lenJ jobs i) : (ms.getD (stepJ jobs nx i).f0.toNat z71).f0 ≤ timeJ jobs ms nx en i ∧ 0 ≤ timeJ jobs ms nx en i ∧ timeJ jobs ms nx en i ≤ B := by
  obtain ⟨s1, s2, s3, s4, s5, s6, s7⟩ := h.step hi hn
  have h1 := h.bm _ s4
  have h2 := h.be i hi
  unfold timeJ
  split <;> omega

theorem plan_ok : ∀ (f : Nat) (ms : List S71) (nx en : List Int) (out : List S56), SInv M S L jobs (sumI nx * 2000) ms nx en → sumI nx + f = 161 → (out.length : Int) = sumI nx →
    F16.l0 (M, S, L, jobs, ms, nx, en, out) = some (0, planR jobs S L f ms nx en out) ∧ F17.l0 (M, S, L, jobs, ms.map m85, nx, en, out) = some (0, planR jobs S L f ms nx en out)
  | f, ms, nx, en, out, h, hs, ho => by
    have hn20 := h.ok.n
    have hsum : 0 ≤ sumI nx ∧ sumI nx ≤ 8 * nx.length := sumI_le (fun i hi => by
      rw [h.ln] at hi
      have h1 := h.nx i hi
      have h2 := h.ok.job (jobs.getD i z54) (by rw [getD_lt hi]; exact List.getElem_mem hi)
      unfold lenJ at h1
      omega)
    have hln := h.ln
    have hle := h.le
    have e16 := F16.l2_ok (out := out) h
    have e17 := F17.l2_ok (out := out) h
    have hp := pick_fin jobs ms nx en
    cases f with
    | zero => omega
    | succ f =>
      simp only [planR]
      generalize hq : pickJ jobs ms nx en = a at e16 e17 hp ⊢
      obtain ⟨a1, a2⟩ := a
      dsimp only at e16 e17 ⊢
      by_cases h0 : a1 < 0
      · rw [if_pos h0]
        constructor
        · unfold F16.l0
          exact lim_out (by simp only [F16.l0.b, e16, bS, dT h0, cT])
        · unfold F17.l0
          exact lim_out (by simp only [F17.l0.b, e17, bS, dT h0, cT])
      · rw [if_neg h0]
        obtain ⟨_, p2, p3⟩ := hp
        obtain ⟨p3, p4⟩ := p3 (by show 0 ≤ a1; omega)
        dsimp only at p2 p3 p4
        have hi : a1.toNat < jobs.length := by omega
        obtain ⟨s1, s2, s3, s4, s5, s6, s7⟩ := h.step hi p3
        have htm := time_ge h hi p3
        rw [← p4] at htm
        have hin := fun m hm => inv_next (from' := a2) (m := m) h hi p3 (by omega) (by omega) htm.2.1 htm.2.2 hm
        have d1 : decide (a1 < 0) = false := dF h0
        have d2 : decide (0 ≤ a1) = true := dT (by omega)
        have d3 : decide (a1 < (jobs.length : Int)) = true := dT p2
        have d4 : decide (a1 < (nx.length : Int)) = true := dT (by omega)
        have d5 : decide (a1 < (en.length : Int)) = true := dT (by omega)
        have d6 : decide (0 ≤ nx.getD a1.toNat 0) = true := dT s1
        have d7 : decide (nx.getD a1.toNat 0 < ((jobs.getD a1.toNat z54).f2.length : Int)) = true := dT s2
        have hx : (jobs.getD a1.toNat z54).f2.getD (nx.getD a1.toNat 0).toNat z69 = stepJ jobs nx a1.toNat := rfl
        have wn : Go.IntKind.wrap .i64 (nx.getD a1.toNat 0 + 1) = nx.getD a1.toNat 0 + 1 := w64 (by omega) (by unfold lenJ at s2; have := (h.ok.job (jobs.getD a1.toNat z54) (by rw [getD_lt hi]; exact List.getElem_mem hi)).2.1; omega)
        generalize hxs : stepJ jobs nx a1.toNat = x at s3 s4 s5 s6 s7 htm hin hx ⊢
        have d8 : decide (0 ≤ x.f0) = true := dT s3
        have d9 : decide (x.f0 < (ms.length : Int)) = true := dT s5
        have d9' : decide (x.f0 < ((ms.map m85).length : Int)) = true := dT (by rw [List.length_map]; exact s5)
        have e40 := F40.ok ms x.f0 M S L x s4
        have e35 := fun fr to => F35.ok (ms.getD x.f0.toNat z71) x fr to
        have e34 := F34.ok (ms.getD x.f0.toNat z71) x L
        generalize hm : ms.getD x.f0.toNat z71 = m at e40 e35 e34 htm hin ⊢
        obtain ⟨i1, i2, i3⟩ := hin ⟨toR S a2 x (freshR L m x), x.f2, wearR m x (freshR L m x)⟩ rfl
        have i1 : a2 ≤ toR S a2 x (freshR L m x) := i1
        have hmax : (if toR S a2 x (freshR L m x) > m.f0 then toR S a2 x (freshR L m x) else m.f0) = toR S a2 x (freshR L m x) := by
          split <;> omega
        have i3 : SInv M S L jobs (sumI nx * 2000 + 2000) (ms.set x.f0.toNat ⟨toR S a2 x (freshR L m x), x.f2, wearR m x (freshR L m x)⟩) (nx.set a1.toNat (nx.getD a1.toNat 0 + 1)) (en.set a1.toNat (toR S a2 x (freshR L m x))) := i3
        have hs' : sumI (nx.set a1.toNat (nx.getD a1.toNat 0 + 1)) = sumI nx + 1 := by rw [sumI_set (by omega)]; omega
        have rc := plan_ok f _ _ _ (out ++ [⟨a1, nx.getD a1.toNat 0, x.f0, a2, toR S a2 x (freshR L m x), freshR L m x⟩]) (by rw [hs', show (sumI nx + 1) * 2000 = sumI nx * 2000 + 2000 by omega]; exact i3) (by rw [hs']; omega) (by rw [hs']; simp; omega)
        have dA : ∀ y : S56, decide ((out.length + (y :: ([] : List S56)).length) ≤ 274877906944) = true := fun y => dT (by simp; omega)
        have h85 : (ms.map m85).getD x.f0.toNat z85 = m85 m := by rw [at85 s4, hm]
        constructor
        · refine Eq.trans ?_ rc.1
          unfold F16.l0
          refine lim_in ?_
          simp only [F16.l0.b, e16, bS, d1, cF, d2, d3, d4, d6, d7, d8, d9, hx, hm, Bool.and_self, cT, e34]
          cases hfr : freshR L m x with
          | true =>
            have hto : toR S a2 x true = Go.IntKind.wrap .i64 (Go.IntKind.wrap .i64 (a2 + x.f1) + S) := rfl
            rw [hfr] at hmax
            simp only [cT, F16.t26, d8, d9, hm, e35, bS, d2, d4, d5, dA, Bool.and_self, wn, ← hto, hmax]
          | false =>
            have hto : toR S a2 x false = Go.IntKind.wrap .i64 (a2 + x.f1) := rfl
            rw [hfr] at hmax
            simp only [cT, cF, F16.t26, d8, d9, hm, e35, bS, d2, d4, d5, dA, Bool.and_self, wn, ← hto, hmax]
        · refine Eq.trans ?_ rc.2
          unfold F17.l0
          refine lim_in ?_
          simp only [F17.l0.b, e17, bS, d1, cF, d2, d3, d4, d6, d7, d8, d9', hx, Bool.and_self, cT, e40]
          have hset : ∀ (t : Int) (y : S71), (((ms.set x.f0.toNat y).map m85).set x.f0.toNat (⟨t, (((ms.set x.f0.toNat y).map m85).getD x.f0.toNat z85).f1, (((ms.set x.f0.toNat y).map m85).getD x.f0.toNat z85).f2⟩ : S85)) = (ms.set x.f0.toNat ⟨t, y.f1, y.f2⟩).map m85 := fun t y => by
            rw [at85 (by simpa using s4), getD_set s4]
            rw [show (⟨t, (m85 y).f1, (m85 y).f2⟩ : S85) = m85 ⟨t, y.f1, y.f2⟩ from rfl, ← List.map_set, List.set_set]
          cases hfr : freshR L m x with
          | true =>
            have hto : toR S a2 x true = Go.IntKind.wrap .i64 (Go.IntKind.wrap .i64 (a2 + x.f1) + S) := rfl
            simp only [cT, F17.t25, bS, d2, d4, d5, dA, Bool.and_self, wn, ← hto, hset]
          | false =>
            have hto : toR S a2 x false = Go.IntKind.wrap .i64 (a2 + x.f1) := rfl
            simp only [cT, cF, F17.t25, bS, d2, d4, d5, dA, Bool.and_self, wn, ← hto, hset]

/-- What planning answers. -/
def planA (M S L : Int) (jobs : List S54) : List S56 × Int :=
  if (jobs.length : Int) > 4096 then ([], 2) else if shopR M S L jobs = false then ([], 1)
  else (planR jobs S L 161 (List.replicate M.toNat m0) (List.replicate jobs.length 0) (List.replicate jobs.length 0) [], 0)

theorem start_inv (h : ShopOk M S L jobs) : SInv M S L jobs 0 (List.replicate M.toNat m0) (List.replicate jobs.length 0) (List.replicate jobs.length 0) :=
  ⟨h, by simp, by simp, by simp, fun i hi => by rw [getD_lt (by simpa using hi)]; simp [lenJ], fun i hi => by rw [getD_lt hi]; simp, fun i hi => by rw [getD_lt (by simpa using hi)]; simp⟩
theorem sumI_zero : ∀ n : Nat, sumI (List.replicate n 0) = 0
  | 0 => rfl
  | n + 1 => by rw [List.replicate_succ, sumI, sumI_zero n]; rfl

theorem F16.ok (M S L : Int) (jobs : List S54) : F16.F ((M, S, L), jobs) = some (planA M S L jobs) ∧ F17.F ((M, S, L), jobs) = some (planA M S L jobs) := by
  unfold planA
  by_cases h0 : (jobs.length : Int) > 4096
  · rw [if_pos h0]
    constructor
    · simp only [F16.F, dT h0, cT]
    · simp only [F17.F, dT h0, cT]
  · rw [if_neg h0]
    cases hk : shopR M S L jobs with
    | false =>
      rw [if_pos rfl]
      constructor
      · simp only [F16.F, dF h0, cF, F32.ok, bS, hk, Bool.not_false, cT]
      · simp only [F17.F, dF h0, cF, F38.ok, bS, hk, Bool.not_false, cT]
    | true =>
      rw [if_neg (by decide)]
      have hs := shop_ok hk
      have := hs.m1
      have := hs.m2
      have := hs.n
      have d1 : (((decide (0 ≤ (jobs.length : Int))) && (decide ((jobs.length : Int) ≤ (jobs.length : Int)))) && (decide ((jobs.length : Int) ≤ 274877906944))) = true := by simp; omega
      have e := plan_ok 161 (List.replicate M.toNat m0) (List.replicate jobs.length 0) (List.replicate jobs.length 0) [] (by rw [sumI_zero]; exact start_inv hs) (by rw [sumI_zero]; rfl) (by rw [sumI_zero]; rfl)
      constructor
      · simp only [F16.F, dF h0, cF, F32.ok, bS, hk, Bool.not_true, F33.ok (show 0 ≤ M by omega) (show M ≤ 100 by omega), d1, cT, Int.toNat_natCast, e.1]
      · simp only [F17.F, dF h0, cF, F38.ok, bS, hk, Bool.not_true, F39.ok (show 0 ≤ M by omega) (show M ≤ 100 by omega), d1, cT, Int.toNat_natCast, e.2]
end

end Go.Proofs.YtchohkelpjfpcaaDoor.AX

/- The function 43 of the program in the small machine. No conditions. -/
namespace Go.Proofs.YtchohkelpjfpcaaDoor.AX.F43
open Go Go.Proofs.Tryd
noncomputable def code : Code := bodyOf f43
abbrev Y : Type := ByteArray
def cp : Cod uni Int := (cod1 (iInt .i64))
def cr : Coz uni ByteArray := (cozR (cod1 iStr) (codD cod0))
noncomputable def es : List (Ent prog uni) := []
theorem get : prog.funcs[43]? = some f43 := by kernel_rfl

def l0.A : Ann := ⟨[(0, .sc), (3, .sc)], [], [], []⟩
def l0.c : Cod uni (Int × ByteArray) := (codC (iInt .i64) (cod1 iStr))
def l0.xs : List (AExit × Ann) := [((.exit 0), ⟨[(3, .sc)], [], [], []⟩)]
def l0.y : Coy uni (ByteArray) := (coy1 (cod1 iStr))
noncomputable def l0.b : Int × ByteArray → Option ((Int × ByteArray) ⊕ (ByteArray))
  | (v0, v3) =>
  cond (decide (v0 > 0)) (
   let x0 := (strRow (U := uni) 4 ((Go.IntKind.wrap (Go.IntKind.u8 ) (Go.IntKind.wrap (Go.IntKind.i64 ) (48 + (Int.tmod v0 10)))) :: []))
   cond (decide (((ByteArray.size x0) + (ByteArray.size v3)) ≤ 274877906944)) (
    some (.inl ((Go.IntKind.wrap (Go.IntKind.i64 ) (Int.tdiv v0 10)), (x0 ++ v3)))) none) (
   some (.inr v3))
noncomputable def l0 (x : Int × ByteArray) : Option (ByteArray) := lim l0.b x
theorem l0.eq : ∀ x, l0.b x = roundX (mkE tab es 20 [] []) (loopAt 0 code) (cutOf l0.A l0.c) (cutsOf l0.xs l0.y) x := fun x => by kernel_rfl
theorem l0.owed {R : Type} : owed (mkE (R := R) tab es 20 [] []) (loopAt 0 code) = [] := by kernel_rfl
theorem l0.ok (w0 : World) (M : Own) (h : Pinned M []) {R : Type} : SoundO prog w0 M 20 (.block 0 (.loop (loopAt 0 code))) (loopO (R := R) 0 (cutOf l0.A l0.c) (cutsOf l0.xs l0.y) l0) :=
  loop_ok tabOk uniOk mixed l0.eq (h.sub rfl) (h.sub rfl) fun x hx => by rw [l0.owed] at hx; exact absurd hx List.not_mem_nil

noncomputable def F : Int → Option (ByteArray)
  | p0 =>
  cond (decide (p0 ≤ 0)) (
   some (ByteArray.mk (Array.mk (109 :: (48 :: []))))) (
   (l0 (p0, (ByteArray.mk (Array.mk ([] : List UInt8))))).bind fun yl0 =>
   cond (decide (((ByteArray.size (ByteArray.mk (Array.mk (109 :: [])))) + (ByteArray.size yl0)) ≤ 274877906944)) (
    some ((ByteArray.mk (Array.mk (109 :: []))) ++ yl0)) none)
theorem F.eq : ∀ x, F x = runF (mkE tab es 20 [(0, some (loopO 0 (cutOf l0.A l0.c) (cutsOf l0.xs l0.y) l0))] []) code [.sc] [.sc] [.tmp 2] (Coz.dec cr) (cp.enc x) := fun x => by kernel_rfl
theorem F.owed : owed (mkE (R := ByteArray) tab es 20 [(0, some (loopO 0 (cutOf l0.A l0.c) (cutsOf l0.xs l0.y) l0))] []) code = [((.block 0 (.loop (loopAt 0 code))), (loopO (R := _) 0 (cutOf l0.A l0.c) (cutsOf l0.xs l0.y) l0))] := by kernel_rfl
theorem con : ∀ x y, F x = some y → Con prog 43 [.sc] [.sc] (cp.enc x) (cr.enc y).1 (cr.enc y).2 :=
  func_ok (c := code) (n := 20) (pf := [.sc]) (res := [.tmp 2]) tabOk uniOk mixed get (by kernel_rfl) (by kernel_rfl) (by kernel_rfl) (by decide) F.eq fun w0 M h x hx => by rw [F.owed] at hx; rcases List.mem_cons.1 hx with rfl | hx; exact l0.ok w0 M h; exact absurd hx List.not_mem_nil
noncomputable def ent : Ent prog uni := Ent.of 43 [.sc] [.sc] cp cr F con fun args w => enters_of get (by kernel_rfl) rfl args w
end Go.Proofs.YtchohkelpjfpcaaDoor.AX.F43

/- The function 44 of the program in the small machine. No conditions. -/
namespace Go.Proofs.YtchohkelpjfpcaaDoor.AX.F44
open Go Go.Proofs.Tryd
noncomputable def code : Code := bodyOf f44
abbrev Y : Type := (Int × ((List S69) × Unit))
def cp : Cod uni ((List S69) × Int) := (codC (iRow 6) (cod1 (iInt .i64)))
def cr : Coz uni (Int × ((List S69) × Unit)) := (cozRM (cod1 (iInt .i64)) (codC (iRow 6) (codD cod0)))
noncomputable def es : List (Ent prog uni) := []
theorem get : prog.funcs[44]? = some f44 := by kernel_rfl

def l0.A : Ann := ⟨[(0, .slc 4194304 []), (1, .sc), (5, .sc)], [], [(4194304, true, 6)], [4194304]⟩
def l0.c : Cod uni (Int × Int × (List S69)) := (codC (iInt .i64) (codC (iInt .i64) (cod1 (iRow 6))))
def l0.xs : List (AExit × Ann) := [((.exit 0), ⟨[(0, .slc 4194304 []), (1, .sc)], [], [(4194304, true, 6)], [4194304]⟩)]
def l0.y : Coy uni ((Int × (List S69))) := (coy1 (codC (iInt .i64) (cod1 (iRow 6))))
noncomputable def l0.b : Int × Int × (List S69) → Option ((Int × Int × (List S69)) ⊕ ((Int × (List S69))))
  | (v1, v5, r94304) =>
  let x8 := (decide (v5 < ((List.length r94304) : Int)))
  cond x8 (
   cond ((decide (0 ≤ v5)) && x8) (
    let x10 := (List.getD r94304 (Int.toNat v5) z69)
    let x5 := (List.set r94304 (Int.toNat v5) (⟨v1, x10.f1, x10.f2, x10.f3⟩ : S69))
    cond ((decide (0 ≤ v5)) && (decide (v5 < ((List.length x5) : Int)))) (
     let x4 := (List.getD x5 (Int.toNat v5) z69)
     let x9 := (Go.IntKind.wrap (Go.IntKind.i64 ) (v1 + 1))
     let x3 := (List.set x5 (Int.toNat v5) (⟨x4.f0, x9, x4.f2, x4.f3⟩ : S69))
     cond ((decide (0 ≤ v5)) && (decide (v5 < ((List.length x3) : Int)))) (
      let x2 := (List.getD x3 (Int.toNat v5) z69)
      let x7 := (Go.IntKind.wrap (Go.IntKind.i64 ) (x9 + 1))
      let x1 := (List.set x3 (Int.toNat v5) (⟨x2.f0, x2.f1, x7, x2.f3⟩ : S69))
      cond ((decide (0 ≤ v5)) && (decide (v5 < ((List.length x1) : Int)))) (
       let x0 := (List.getD x1 (Int.toNat v5) z69)
       let x6 := (Go.IntKind.wrap (Go.IntKind.i64 ) (x7 + 1))
       some (.inl ((Go.IntKind.wrap (Go.IntKind.i64 ) (x6 + 1)), (Go.IntKind.wrap (Go.IntKind.i64 ) (v5 + 1)), (List.set x1 (Int.toNat v5) (⟨x0.f0, x0.f1, x0.f2, x6⟩ : S69))))) none) none) none) none) (
   some (.inr (v1, r94304)))
noncomputable def l0 (x : Int × Int × (List S69)) : Option ((Int × (List S69))) := lim l0.b x
theorem l0.eq : ∀ x, l0.b x = roundX (mkE tab es 41 [] []) (loopAt 0 code) (cutOf l0.A l0.c) (cutsOf l0.xs l0.y) x := fun x => by kernel_rfl
theorem l0.owed {R : Type} : owed (mkE (R := R) tab es 41 [] []) (loopAt 0 code) = [] := by kernel_rfl
theorem l0.ok (w0 : World) (M : Own) (h : Pinned M [4194304]) {R : Type} : SoundO prog w0 M 41 (.block 0 (.loop (loopAt 0 code))) (loopO (R := R) 0 (cutOf l0.A l0.c) (cutsOf l0.xs l0.y) l0) :=
  loop_ok tabOk uniOk mixed l0.eq (h.sub rfl) (h.sub rfl) fun x hx => by rw [l0.owed] at hx; exact absurd hx List.not_mem_nil

noncomputable def F : ((List S69) × Int) → Option ((Int × ((List S69) × Unit)))
  | (p0, p1) =>
  (l0 (p1, 0, p0)).bind fun yl0 =>
  some (yl0.1, (yl0.2, ()))
theorem F.eq : ∀ x, F x = runF (mkE tab es 41 [(0, some (loopO 0 (cutOf l0.A l0.c) (cutsOf l0.xs l0.y) l0))] []) code [.row 6 1, .sc] [.sc] [.tmp 4] (Coz.dec cr) (cp.enc x) := fun x => by kernel_rfl
theorem F.owed : owed (mkE (R := (Int × ((List S69) × Unit))) tab es 41 [(0, some (loopO 0 (cutOf l0.A l0.c) (cutsOf l0.xs l0.y) l0))] []) code = [((.block 0 (.loop (loopAt 0 code))), (loopO (R := _) 0 (cutOf l0.A l0.c) (cutsOf l0.xs l0.y) l0))] := by kernel_rfl
theorem con : ∀ x y, F x = some y → Con prog 44 [.row 6 1, .sc] [.sc] (cp.enc x) (cr.enc y).1 (cr.enc y).2 :=
  func_ok (c := code) (n := 41) (pf := [.row 6 1, .sc]) (res := [.tmp 4]) tabOk uniOk mixed get (by kernel_rfl) (by kernel_rfl) (by kernel_rfl) (by decide) F.eq fun w0 M h x hx => by rw [F.owed] at hx; rcases List.mem_cons.1 hx with rfl | hx; exact l0.ok w0 M h; exact absurd hx List.not_mem_nil
noncomputable def ent : Ent prog uni := Ent.of 44 [.row 6 1, .sc] [.sc] cp cr F con fun args w => enters_of get (by kernel_rfl) rfl args w
end Go.Proofs.YtchohkelpjfpcaaDoor.AX.F44

/- The function 18 of the program in the small machine. No conditions. -/
namespace Go.Proofs.YtchohkelpjfpcaaDoor.AX.F18
open Go Go.Proofs.Tryd
noncomputable def code : Code := bodyOf f18
abbrev Y : Type := (Int × ((List S54) × Unit))
def cp : Cod uni ((List S54) × Int) := (codC (iRow 2) (cod1 (iInt .i64)))
def cr : Coz uni (Int × ((List S54) × Unit)) := (cozRM (cod1 (iInt .i64)) (codC (iRow 2) (codD cod0)))
noncomputable def es : List (Ent prog uni) := [F43.ent, F44.ent]
theorem get : prog.funcs[18]? = some f18 := by kernel_rfl

def l0.A : Ann := ⟨[(0, .slc 4194304 []), (1, .sc), (5, .sc)], [], [(4194304, true, 2)], [4194304]⟩
def l0.c : Cod uni (Int × Int × (List S54)) := (codC (iInt .i64) (codC (iInt .i64) (cod1 (iRow 2))))
def l0.xs : List (AExit × Ann) := [((.exit 0), ⟨[(0, .slc 4194304 []), (1, .sc)], [], [(4194304, true, 2)], [4194304]⟩)]
def l0.y : Coy uni ((Int × (List S54))) := (coy1 (codC (iInt .i64) (cod1 (iRow 2))))
noncomputable def l0.b : Int × Int × (List S54) → Option ((Int × Int × (List S54)) ⊕ ((Int × (List S54))))
  | (v1, v5, r94304) =>
  let x4 := (decide (v5 < ((List.length r94304) : Int)))
  cond x4 (
   (F43.F v1).bind fun y43 =>
   cond ((decide (0 ≤ v5)) && x4) (
    let x6 := (List.getD r94304 (Int.toNat v5) z54)
    let x3 := (List.set r94304 (Int.toNat v5) (⟨y43, x6.f1, x6.f2⟩ : S54))
    cond ((decide (0 ≤ v5)) && (decide (v5 < ((List.length x3) : Int)))) (
     let x2 := (List.getD x3 (Int.toNat v5) z54)
     let x5 := (Go.IntKind.wrap (Go.IntKind.i64 ) (v1 + 1))
     let x1 := (List.set x3 (Int.toNat v5) (⟨x2.f0, x5, x2.f2⟩ : S54))
     cond ((decide (0 ≤ v5)) && (decide (v5 < ((List.length x1) : Int)))) (
      let x0 := (List.getD x1 (Int.toNat v5) z54)
      (F44.F (x0.f2, (Go.IntKind.wrap (Go.IntKind.i64 ) (x5 + 1)))).bind fun y44 =>
      some (.inl (y44.1, (Go.IntKind.wrap (Go.IntKind.i64 ) (v5 + 1)), (List.set x1 (Int.toNat v5) (⟨x0.f0, x0.f1, y44.2.1⟩ : S54))))) none) none) none) (
   some (.inr (v1, r94304)))
noncomputable def l0 (x : Int × Int × (List S54)) : Option ((Int × (List S54))) := lim l0.b x
theorem l0.eq : ∀ x, l0.b x = roundX (mkE tab es 35 [] []) (loopAt 0 code) (cutOf l0.A l0.c) (cutsOf l0.xs l0.y) x := fun x => by kernel_rfl
theorem l0.owed {R : Type} : owed (mkE (R := R) tab es 35 [] []) (loopAt 0 code) = [] := by kernel_rfl
theorem l0.ok (w0 : World) (M : Own) (h : Pinned M [4194304]) {R : Type} : SoundO prog w0 M 35 (.block 0 (.loop (loopAt 0 code))) (loopO (R := R) 0 (cutOf l0.A l0.c) (cutsOf l0.xs l0.y) l0) :=
  loop_ok tabOk uniOk mixed l0.eq (h.sub rfl) (h.sub rfl) fun x hx => by rw [l0.owed] at hx; exact absurd hx List.not_mem_nil

noncomputable def F : ((List S54) × Int) → Option ((Int × ((List S54) × Unit)))
  | (p0, p1) =>
  (l0 (p1, 0, p0)).bind fun yl0 =>
  some (yl0.1, (yl0.2, ()))
theorem F.eq : ∀ x, F x = runF (mkE tab es 35 [(0, some (loopO 0 (cutOf l0.A l0.c) (cutsOf l0.xs l0.y) l0))] []) code [.row 2 1, .sc] [.sc] [.tmp 4] (Coz.dec cr) (cp.enc x) := fun x => by kernel_rfl
theorem F.owed : owed (mkE (R := (Int × ((List S54) × Unit))) tab es 35 [(0, some (loopO 0 (cutOf l0.A l0.c) (cutsOf l0.xs l0.y) l0))] []) code = [((.block 0 (.loop (loopAt 0 code))), (loopO (R := _) 0 (cutOf l0.A l0.c) (cutsOf l0.xs l0.y) l0))] := by kernel_rfl
theorem con : ∀ x y, F x = some y → Con prog 18 [.row 2 1, .sc] [.sc] (cp.enc x) (cr.enc y).1 (cr.enc y).2 :=
  func_ok (c := code) (n := 35) (pf := [.row 2 1, .sc]) (res := [.tmp 4]) tabOk uniOk mixed get (by kernel_rfl) (by kernel_rfl) (by kernel_rfl) (by decide) F.eq fun w0 M h x hx => by rw [F.owed] at hx; rcases List.mem_cons.1 hx with rfl | hx; exact l0.ok w0 M h; exact absurd hx List.not_mem_nil
noncomputable def ent : Ent prog uni := Ent.of 18 [.row 2 1, .sc] [.sc] cp cr F con fun args w => enters_of get (by kernel_rfl) rfl args w
end Go.Proofs.YtchohkelpjfpcaaDoor.AX.F18

/- The function 19 of the program in the small machine. No conditions. -/
namespace Go.Proofs.YtchohkelpjfpcaaDoor.AX.F19
open Go Go.Proofs.Tryd
noncomputable def code : Code := bodyOf f19
abbrev Y : Type := (Int × ((List S56) × Unit))
def cp : Cod uni ((List S56) × Int) := (codC (iRow 3) (cod1 (iInt .i64)))
def cr : Coz uni (Int × ((List S56) × Unit)) := (cozRM (cod1 (iInt .i64)) (codC (iRow 3) (codD cod0)))
noncomputable def es : List (Ent prog uni) := []
theorem get : prog.funcs[19]? = some f19 := by kernel_rfl

def l0.A : Ann := ⟨[(0, .slc 4194304 []), (1, .sc), (5, .sc)], [], [(4194304, true, 3)], [4194304]⟩
def l0.c : Cod uni (Int × Int × (List S56)) := (codC (iInt .i64) (codC (iInt .i64) (cod1 (iRow 3))))
def l0.xs : List (AExit × Ann) := [((.exit 0), ⟨[(0, .slc 4194304 []), (1, .sc)], [], [(4194304, true, 3)], [4194304]⟩)]
def l0.y : Coy uni ((Int × (List S56))) := (coy1 (codC (iInt .i64) (cod1 (iRow 3))))
noncomputable def l0.b : Int × Int × (List S56) → Option ((Int × Int × (List S56)) ⊕ ((Int × (List S56))))
  | (v1, v5, r94304) =>
  let x14 := (decide (v5 < ((List.length r94304) : Int)))
  cond x14 (
   cond ((decide (0 ≤ v5)) && x14) (
    let x16 := (List.getD r94304 (Int.toNat v5) z56)
    let x9 := (List.set r94304 (Int.toNat v5) (⟨v1, x16.f1, x16.f2, x16.f3, x16.f4, x16.f5⟩ : S56))
    cond ((decide (0 ≤ v5)) && (decide (v5 < ((List.length x9) : Int)))) (
     let x8 := (List.getD x9 (Int.toNat v5) z56)
     let x15 := (Go.IntKind.wrap (Go.IntKind.i64 ) (v1 + 1))
     let x7 := (List.set x9 (Int.toNat v5) (⟨x8.f0, x15, x8.f2, x8.f3, x8.f4, x8.f5⟩ : S56))
     cond ((decide (0 ≤ v5)) && (decide (v5 < ((List.length x7) : Int)))) (
      let x6 := (List.getD x7 (Int.toNat v5) z56)
      let x13 := (Go.IntKind.wrap (Go.IntKind.i64 ) (x15 + 1))
      let x5 := (List.set x7 (Int.toNat v5) (⟨x6.f0, x6.f1, x13, x6.f3, x6.f4, x6.f5⟩ : S56))
      cond ((decide (0 ≤ v5)) && (decide (v5 < ((List.length x5) : Int)))) (
       let x4 := (List.getD x5 (Int.toNat v5) z56)
       let x12 := (Go.IntKind.wrap (Go.IntKind.i64 ) (x13 + 1))
       let x3 := (List.set x5 (Int.toNat v5) (⟨x4.f0, x4.f1, x4.f2, x12, x4.f4, x4.f5⟩ : S56))
       cond ((decide (0 ≤ v5)) && (decide (v5 < ((List.length x3) : Int)))) (
        let x2 := (List.getD x3 (Int.toNat v5) z56)
        let x11 := (Go.IntKind.wrap (Go.IntKind.i64 ) (x12 + 1))
        let x1 := (List.set x3 (Int.toNat v5) (⟨x2.f0, x2.f1, x2.f2, x2.f3, x11, x2.f5⟩ : S56))
        cond ((decide (0 ≤ v5)) && (decide (v5 < ((List.length x1) : Int)))) (
         let x0 := (List.getD x1 (Int.toNat v5) z56)
         let x10 := (Go.IntKind.wrap (Go.IntKind.i64 ) (x11 + 1))
         some (.inl ((Go.IntKind.wrap (Go.IntKind.i64 ) (x10 + 1)), (Go.IntKind.wrap (Go.IntKind.i64 ) (v5 + 1)), (List.set x1 (Int.toNat v5) (⟨x0.f0, x0.f1, x0.f2, x0.f3, x0.f4, ((Int.tmod x10 3) == 0)⟩ : S56))))) none) none) none) none) none) none) (
   some (.inr (v1, r94304)))
noncomputable def l0 (x : Int × Int × (List S56)) : Option ((Int × (List S56))) := lim l0.b x
theorem l0.eq : ∀ x, l0.b x = roundX (mkE tab es 57 [] []) (loopAt 0 code) (cutOf l0.A l0.c) (cutsOf l0.xs l0.y) x := fun x => by kernel_rfl
theorem l0.owed {R : Type} : owed (mkE (R := R) tab es 57 [] []) (loopAt 0 code) = [] := by kernel_rfl
theorem l0.ok (w0 : World) (M : Own) (h : Pinned M [4194304]) {R : Type} : SoundO prog w0 M 57 (.block 0 (.loop (loopAt 0 code))) (loopO (R := R) 0 (cutOf l0.A l0.c) (cutsOf l0.xs l0.y) l0) :=
  loop_ok tabOk uniOk mixed l0.eq (h.sub rfl) (h.sub rfl) fun x hx => by rw [l0.owed] at hx; exact absurd hx List.not_mem_nil

noncomputable def F : ((List S56) × Int) → Option ((Int × ((List S56) × Unit)))
  | (p0, p1) =>
  (l0 (p1, 0, p0)).bind fun yl0 =>
  some (yl0.1, (yl0.2, ()))
theorem F.eq : ∀ x, F x = runF (mkE tab es 57 [(0, some (loopO 0 (cutOf l0.A l0.c) (cutsOf l0.xs l0.y) l0))] []) code [.row 3 1, .sc] [.sc] [.tmp 4] (Coz.dec cr) (cp.enc x) := fun x => by kernel_rfl
theorem F.owed : owed (mkE (R := (Int × ((List S56) × Unit))) tab es 57 [(0, some (loopO 0 (cutOf l0.A l0.c) (cutsOf l0.xs l0.y) l0))] []) code = [((.block 0 (.loop (loopAt 0 code))), (loopO (R := _) 0 (cutOf l0.A l0.c) (cutsOf l0.xs l0.y) l0))] := by kernel_rfl
theorem con : ∀ x y, F x = some y → Con prog 19 [.row 3 1, .sc] [.sc] (cp.enc x) (cr.enc y).1 (cr.enc y).2 :=
  func_ok (c := code) (n := 57) (pf := [.row 3 1, .sc]) (res := [.tmp 4]) tabOk uniOk mixed get (by kernel_rfl) (by kernel_rfl) (by kernel_rfl) (by decide) F.eq fun w0 M h x hx => by rw [F.owed] at hx; rcases List.mem_cons.1 hx with rfl | hx; exact l0.ok w0 M h; exact absurd hx List.not_mem_nil
noncomputable def ent : Ent prog uni := Ent.of 19 [.row 3 1, .sc] [.sc] cp cr F con fun args w => enters_of get (by kernel_rfl) rfl args w
end Go.Proofs.YtchohkelpjfpcaaDoor.AX.F19

/- The function 20 of the program in the small machine. No conditions. -/
namespace Go.Proofs.YtchohkelpjfpcaaDoor.AX.F20
open Go Go.Proofs.Tryd
noncomputable def code : Code := bodyOf f20
abbrev Y : Type := Int
def cp : Cod uni ((List S56) × Int) := (codC (iRow 3) (cod1 (iInt .i64)))
def cr : Coz uni Int := (cozR (cod1 (iInt .i64)) (codD (codD cod0)))
noncomputable def es : List (Ent prog uni) := []
theorem get : prog.funcs[20]? = some f20 := by kernel_rfl

def l0.A : Ann := ⟨[(0, .slc 5000000 []), (1, .sc), (5, .sc)], [], [(5000000, false, 3)], []⟩
def l0.c : Cod uni (Int × Int × (List S56)) := (codC (iInt .i64) (codC (iInt .i64) (cod1 (iRow 3))))
def l0.xs : List (AExit × Ann) := [(.ret, ⟨[(4, .sc)], [], [], []⟩), ((.exit 0), ⟨[(1, .sc)], [], [], []⟩)]
def l0.y : Coy uni (Int ⊕ Int) := (coyS (cod1 (iInt .i64)) (coy1 (cod1 (iInt .i64))))
noncomputable def l0.b : Int × Int × (List S56) → Option ((Int × Int × (List S56)) ⊕ (Int ⊕ Int))
  | (v1, v5, r0) =>
  let x6 := (decide (v5 < ((List.length r0) : Int)))
  cond x6 (
   let x4 := ((decide (0 ≤ v5)) && x6)
   cond x4 (
    let x7 := (List.getD r0 (Int.toNat v5) z56)
    cond (x7.f0 != v1) (
     some (.inr (.inl (-1)))) (
     cond x4 (
      let x5 := (Go.IntKind.wrap (Go.IntKind.i64 ) (v1 + 1))
      cond (x7.f1 != x5) (
       some (.inr (.inl (-1)))) (
       cond x4 (
        let x3 := (Go.IntKind.wrap (Go.IntKind.i64 ) (x5 + 1))
        cond (x7.f2 != x3) (
         some (.inr (.inl (-1)))) (
         cond x4 (
          let x2 := (Go.IntKind.wrap (Go.IntKind.i64 ) (x3 + 1))
          cond (x7.f3 != x2) (
           some (.inr (.inl (-1)))) (
           cond x4 (
            let x1 := (Go.IntKind.wrap (Go.IntKind.i64 ) (x2 + 1))
            cond (x7.f4 != x1) (
             some (.inr (.inl (-1)))) (
             cond x4 (
              let x0 := (Go.IntKind.wrap (Go.IntKind.i64 ) (x1 + 1))
              cond (!(x7.f5 == ((Int.tmod x0 3) == 0))) (
               some (.inr (.inl (-1)))) (
               some (.inl ((Go.IntKind.wrap (Go.IntKind.i64 ) (x0 + 1)), (Go.IntKind.wrap (Go.IntKind.i64 ) (v5 + 1)), r0)))) none)) none)) none)) none)) none)) none) (
   some (.inr (.inr v1)))
noncomputable def l0 (x : Int × Int × (List S56)) : Option (Int ⊕ Int) := lim l0.b x
theorem l0.eq : ∀ x, l0.b x = roundX (mkE tab es 69 [] []) (loopAt 0 code) (cutOf l0.A l0.c) (cutsOf l0.xs l0.y) x := fun x => by kernel_rfl
theorem l0.owed {R : Type} : owed (mkE (R := R) tab es 69 [] []) (loopAt 0 code) = [] := by kernel_rfl
theorem l0.ok (w0 : World) (M : Own) (h : Pinned M []) {R : Type} : SoundO prog w0 M 69 (.block 0 (.loop (loopAt 0 code))) (loopO (R := R) 0 (cutOf l0.A l0.c) (cutsOf l0.xs l0.y) l0) :=
  loop_ok tabOk uniOk mixed l0.eq (h.sub rfl) (h.sub rfl) fun x hx => by rw [l0.owed] at hx; exact absurd hx List.not_mem_nil

noncomputable def F : ((List S56) × Int) → Option (Int)
  | (p0, p1) =>
  (l0 (p1, 0, p0)).bind fun q => match q with
  | (.inl yl0) =>
   some yl0
  | (.inr yl0) =>
   some yl0
theorem F.eq : ∀ x, F x = runF (mkE tab es 69 [(0, some (loopO 0 (cutOf l0.A l0.c) (cutsOf l0.xs l0.y) l0))] []) code [.row 3 0, .sc] [.sc] [.tmp 4] (Coz.dec cr) (cp.enc x) := fun x => by kernel_rfl
theorem F.owed : owed (mkE (R := Int) tab es 69 [(0, some (loopO 0 (cutOf l0.A l0.c) (cutsOf l0.xs l0.y) l0))] []) code = [((.block 0 (.loop (loopAt 0 code))), (loopO (R := _) 0 (cutOf l0.A l0.c) (cutsOf l0.xs l0.y) l0))] := by kernel_rfl
theorem con : ∀ x y, F x = some y → Con prog 20 [.row 3 0, .sc] [.sc] (cp.enc x) (cr.enc y).1 (cr.enc y).2 :=
  func_ok (c := code) (n := 69) (pf := [.row 3 0, .sc]) (res := [.tmp 4]) tabOk uniOk mixed get (by kernel_rfl) (by kernel_rfl) (by kernel_rfl) (by decide) F.eq fun w0 M h x hx => by rw [F.owed] at hx; rcases List.mem_cons.1 hx with rfl | hx; exact l0.ok w0 M h; exact absurd hx List.not_mem_nil
noncomputable def ent : Ent prog uni := Ent.of 20 [.row 3 0, .sc] [.sc] cp cr F con fun args w => enters_of get (by kernel_rfl) rfl args w
end Go.Proofs.YtchohkelpjfpcaaDoor.AX.F20

/- The function 4 of the program in the small machine. No conditions. -/
namespace Go.Proofs.YtchohkelpjfpcaaDoor.AX.F4
open Go Go.Proofs.Tryd
noncomputable def code : Code := bodyOf f4
abbrev Y : Type := Bool
def cp : Cod uni ((Int × Int × Int) × (List S64)) := (codC (iAgg (codC (iInt .i64) (codC (iInt .i64) (cod1 (iInt .i64))))) (cod1 (iRow 0)))
def cr : Coz uni Bool := (cozR (cod1 iBool) (codD (codD cod0)))
noncomputable def es : List (Ent prog uni) := [F7.ent, F10.ent, F11.ent, F16.ent, F17.ent, F15.ent, F14.ent, F18.ent, F19.ent, F20.ent]
theorem get : prog.funcs[4]? = some f4 := by kernel_rfl

noncomputable def F : ((Int × Int × Int) × (List S64)) → Option (Bool)
  | ((p0_0, p0_1, p0_2), p1) =>
  (F7.F (p1, 1048576)).bind fun y7 =>
  cond (decide (y7 < 0)) (
   some true) (
   let x0 := (F10.F (p0_0, (p0_1, p0_2)))
   x0.bind fun y10 =>
   (F11.F p1).bind fun y11 =>
   (F16.F ((y10.1, (y10.2.1, y10.2.2)), y11)).bind fun y16 =>
   (F11.F p1).bind fun y11x2 =>
   x0.bind fun y10x2 =>
   (F17.F ((y10x2.1, (y10x2.2.1, y10x2.2.2)), y11x2)).bind fun y17 =>
   let x1 := (F15.F (y17.1, y16.1))
   x1.bind fun y15 =>
   cond ((!y15) || (y17.2 != y16.2)) (
    some false) (
    (F11.F p1).bind fun y11x3 =>
    (F14.F (y11x2, y11x3)).bind fun y14 =>
    cond (!y14) (
     some false) (
     (F18.F (y11x2, 1)).bind fun y18 =>
     cond (!(decide (y18.1 < 0))) (
      x1.bind fun y15x2 =>
      cond (((decide (y18.1 < 0)) || (!y15x2)) || (y17.2 != y16.2)) (
       some false) (
       (F19.F (y17.1, 1)).bind fun y19 =>
       (F20.F (y19.2.1, 1)).bind fun y20 =>
       cond (decide (y20 < 0)) (
        some false) (
        cond (y20 != y19.1) (
         some false) (
         x0.bind fun y10x3 =>
         (F11.F p1).bind fun y11x4 =>
         (F17.F ((y10x3.1, (y10x3.2.1, y10x3.2.2)), y11x4)).bind fun y17x2 =>
         (F15.F (y17x2.1, y16.1)).bind fun y15x3 =>
         cond ((!y15x3) || (y17x2.2 != y16.2)) (
          some false) (
          (F20.F (y19.2.1, 1)).bind fun y20x2 =>
          cond (decide (y20x2 < 0)) (
           some false) (
           cond (y20x2 != y19.1) (
            some false) (
            some true))))))) (
      cond (((decide (y18.1 < 0)) || true) || (y17.2 != y16.2)) (
       some false) (
       (F19.F (y17.1, 1)).bind fun y19 =>
       (F20.F (y19.2.1, 1)).bind fun y20 =>
       cond (decide (y20 < 0)) (
        some false) (
        cond (y20 != y19.1) (
         some false) (
         x0.bind fun y10x3 =>
         (F11.F p1).bind fun y11x4 =>
         (F17.F ((y10x3.1, (y10x3.2.1, y10x3.2.2)), y11x4)).bind fun y17x2 =>
         (F15.F (y17x2.1, y16.1)).bind fun y15x2 =>
         cond ((!y15x2) || (y17x2.2 != y16.2)) (
          some false) (
          (F20.F (y19.2.1, 1)).bind fun y20x2 =>
          cond (decide (y20x2 < 0)) (
           some false) (
           cond (y20x2 != y19.1) (
            some false) (
            some true))))))))))
theorem F.eq : ∀ x, F x = runF (mkE tab es 104 [] []) code [.agg [.sc, .sc, .sc], .row 0 0] [.sc] [.tmp 4] (Coz.dec cr) (cp.enc x) := fun x => by kernel_rfl
theorem F.owed : owed (mkE (R := Bool) tab es 104 [] []) code = [] := by kernel_rfl
theorem con : ∀ x y, F x = some y → Con prog 4 [.agg [.sc, .sc, .sc], .row 0 0] [.sc] (cp.enc x) (cr.enc y).1 (cr.enc y).2 :=
  func_ok (c := code) (n := 104) (pf := [.agg [.sc, .sc, .sc], .row 0 0]) (res := [.tmp 4]) tabOk uniOk mixed get (by kernel_rfl) (by kernel_rfl) (by kernel_rfl) (by decide) F.eq fun w0 M h x hx => by rw [F.owed] at hx; exact absurd hx List.not_mem_nil
noncomputable def ent : Ent prog uni := Ent.of 4 [.agg [.sc, .sc, .sc], .row 0 0] [.sc] cp cr F con fun args w => enters_of get (by kernel_rfl) rfl args w
end Go.Proofs.YtchohkelpjfpcaaDoor.AX.F4

/- The function 27 of the program in the small machine. No conditions. -/
namespace Go.Proofs.YtchohkelpjfpcaaDoor.AX.F27
open Go Go.Proofs.Tryd
noncomputable def code : Code := bodyOf f27
abbrev Y : Type := ((Int × Int × Int × Int × (List Int)) × Int)
def cp : Cod uni ((Int × Int × Int) × (List S54) × (List S56)) := (codC (iAgg (codC (iInt .i64) (codC (iInt .i64) (cod1 (iInt .i64))))) (codC (iRow 2) (cod1 (iRow 3))))
def cr : Coz uni ((Int × Int × Int × Int × (List Int)) × Int) := (cozR (codC (iAgg (codC (iInt .i64) (codC (iInt .i64) (codC (iInt .i64) (codC (iInt .i64) (cod1 (iRow 5))))))) (cod1 (iInt .i64))) (codD (codD (codD cod0))))
noncomputable def es : List (Ent prog uni) := [F9.ent]
theorem get : prog.funcs[27]? = some f27 := by kernel_rfl

def l0.A : Ann := ⟨[(1, .slc 5000064 []), (2, .slc 5000128 []), (3, .box 5000192 0), (6, .box 5000384 0), (10, .box 5000640 0), (11, .slc 5000704 []), (12, .sc)], [(5000192, 30, [.sc, .sc, .sc]), (5000384, 49, [.sc, .sc, .sc, .sc, .nil]), (5000640, 49, [.sc, .sc, .sc, .sc, .slc 5000654 []])], [(5000064, false, 2), (5000128, false, 3), (5000704, true, 5), (5000654, true, 5)], []⟩
def l0.c : Cod uni (Int × Int × Int × Int × Int × Int × Int × Int × Int × Int × Int × Int × (List S54) × (List S56) × (List Int) × (List Int)) := (codC (iInt .i64) (codC (iInt .i64) (codC (iInt .i64) (codC (iInt .i64) (codC (iInt .i64) (codC (iInt .i64) (codC (iInt .i64) (codC (iInt .i64) (codC (iInt .i64) (codC (iInt .i64) (codC (iInt .i64) (codC (iInt .i64) (codC (iRow 2) (codC (iRow 3) (codC (iRow 5) (cod1 (iRow 5)))))))))))))))))
def l0.xs : List (AExit × Ann) := [((.exit 0), ⟨[(1, .slc 5000064 []), (3, .box 5000192 0), (6, .box 5000384 0), (10, .box 5000640 0), (11, .slc 5000704 [])], [(5000192, 30, [.sc, .sc, .sc]), (5000384, 49, [.sc, .sc, .sc, .sc, .nil]), (5000640, 49, [.sc, .sc, .sc, .sc, .slc 5000654 []])], [(5000064, false, 2), (5000704, true, 5), (5000654, true, 5)], []⟩)]
def l0.y : Coy uni ((Int × Int × Int × Int × Int × Int × Int × Int × Int × Int × Int × (List S54) × (List Int) × (List Int))) := (coy1 (codC (iInt .i64) (codC (iInt .i64) (codC (iInt .i64) (codC (iInt .i64) (codC (iInt .i64) (codC (iInt .i64) (codC (iInt .i64) (codC (iInt .i64) (codC (iInt .i64) (codC (iInt .i64) (codC (iInt .i64) (codC (iRow 2) (codC (iRow 5) (cod1 (iRow 5))))))))))))))))
noncomputable def l0.b : Int × Int × Int × Int × Int × Int × Int × Int × Int × Int × Int × Int × (List S54) × (List S56) × (List Int) × (List Int) → Option ((Int × Int × Int × Int × Int × Int × Int × Int × Int × Int × Int × Int × (List S54) × (List S56) × (List Int) × (List Int)) ⊕ ((Int × Int × Int × Int × Int × Int × Int × Int × Int × Int × Int × (List S54) × (List Int) × (List Int))))
  | (v12, b192_0, b192_1, b192_2, b384_0, b384_1, b384_2, b384_3, b640_0, b640_1, b640_2, b640_3, r64, r128, r704, r654) =>
  let x9 := (decide (v12 < ((List.length r128) : Int)))
  cond x9 (
   cond ((decide (0 ≤ v12)) && x9) (
    let x10 := (List.getD r128 (Int.toNat v12) z56)
    let x2 := ((decide (0 ≤ x10.f2)) && (decide (x10.f2 < ((List.length r654) : Int))))
    cond x2 (
     cond x2 (
      let x3 := ((decide (0 ≤ x10.f0)) && (decide (x10.f0 < ((List.length r704) : Int))))
      cond x3 (
       cond x3 (
        let x6 := (Int.toNat x10.f0)
        let x5 := (List.getD r704 x6 0)
        let x0 := (List.set r704 x6 (if (x10.f4 > x5) then x10.f4 else x5))
        let x7 := (Int.toNat x10.f2)
        let x1 := (List.set r654 x7 (Go.IntKind.wrap (Go.IntKind.i64 ) ((List.getD r654 x7 0) + (Go.IntKind.wrap (Go.IntKind.i64 ) (x10.f4 - x10.f3)))))
        let x4 := (if (x10.f4 > b640_0) then x10.f4 else b640_0)
        let x8 := (Go.IntKind.wrap (Go.IntKind.i64 ) (v12 + 1))
        cond x10.f5 (
         some (.inl (x8, b192_0, b192_1, b192_2, b384_0, b384_1, b384_2, b384_3, x4, b640_1, b640_2, (Go.IntKind.wrap (Go.IntKind.i64 ) (b640_3 + 1)), r64, r128, x0, x1))) (
         some (.inl (x8, b192_0, b192_1, b192_2, b384_0, b384_1, b384_2, b384_3, x4, b640_1, b640_2, b640_3, r64, r128, x0, x1)))) none) none) none) none) none) (
   some (.inr (b192_0, b192_1, b192_2, b384_0, b384_1, b384_2, b384_3, b640_0, b640_1, b640_2, b640_3, r64, r704, r654)))
noncomputable def l0 (x : Int × Int × Int × Int × Int × Int × Int × Int × Int × Int × Int × Int × (List S54) × (List S56) × (List Int) × (List Int)) : Option ((Int × Int × Int × Int × Int × Int × Int × Int × Int × Int × Int × (List S54) × (List Int) × (List Int))) := lim l0.b x
theorem l0.eq : ∀ x, l0.b x = roundX (mkE tab es 108 [] []) (loopAt 0 code) (cutOf l0.A l0.c) (cutsOf l0.xs l0.y) x := fun x => by kernel_rfl
theorem l0.owed {R : Type} : owed (mkE (R := R) tab es 108 [] []) (loopAt 0 code) = [] := by kernel_rfl
theorem l0.ok (w0 : World) (M : Own) (h : Pinned M []) {R : Type} : SoundO prog w0 M 108 (.block 0 (.loop (loopAt 0 code))) (loopO (R := R) 0 (cutOf l0.A l0.c) (cutsOf l0.xs l0.y) l0) :=
  loop_ok tabOk uniOk mixed l0.eq (h.sub rfl) (h.sub rfl) fun x hx => by rw [l0.owed] at hx; exact absurd hx List.not_mem_nil

def l2.A : Ann := ⟨[(1, .slc 5000064 []), (6, .box 5000384 0), (10, .box 5000640 0), (11, .slc 5000704 []), (14, .sc)], [(5000384, 49, [.sc, .sc, .sc, .sc, .nil]), (5000640, 49, [.sc, .sc, .sc, .sc, .slc 5000654 []])], [(5000064, false, 2), (5000704, true, 5), (5000654, true, 5)], []⟩
def l2.c : Cod uni (Int × Int × Int × Int × Int × Int × Int × Int × Int × (List S54) × (List Int) × (List Int)) := (codC (iInt .i64) (codC (iInt .i64) (codC (iInt .i64) (codC (iInt .i64) (codC (iInt .i64) (codC (iInt .i64) (codC (iInt .i64) (codC (iInt .i64) (codC (iInt .i64) (codC (iRow 2) (codC (iRow 5) (cod1 (iRow 5)))))))))))))
def l2.xs : List (AExit × Ann) := [((.exit 2), ⟨[(6, .box 5000384 0), (10, .box 5000640 0)], [(5000384, 49, [.sc, .sc, .sc, .sc, .nil]), (5000640, 49, [.sc, .sc, .sc, .sc, .slc 5000654 []])], [(5000654, true, 5)], []⟩)]
def l2.y : Coy uni ((Int × Int × Int × Int × Int × Int × Int × Int × (List Int))) := (coy1 (codC (iInt .i64) (codC (iInt .i64) (codC (iInt .i64) (codC (iInt .i64) (codC (iInt .i64) (codC (iInt .i64) (codC (iInt .i64) (codC (iInt .i64) (cod1 (iRow 5)))))))))))
noncomputable def l2.b : Int × Int × Int × Int × Int × Int × Int × Int × Int × (List S54) × (List Int) × (List Int) → Option ((Int × Int × Int × Int × Int × Int × Int × Int × Int × (List S54) × (List Int) × (List Int)) ⊕ ((Int × Int × Int × Int × Int × Int × Int × Int × (List Int))))
  | (v14, b384_0, b384_1, b384_2, b384_3, b640_0, b640_1, b640_2, b640_3, r64, r704, r654) =>
  let x1 := (decide (v14 < ((List.length r64) : Int)))
  cond x1 (
   cond ((decide (0 ≤ v14)) && (decide (v14 < ((List.length r704) : Int)))) (
    cond ((decide (0 ≤ v14)) && x1) (
     let x0 := (Go.IntKind.wrap (Go.IntKind.i64 ) ((List.getD r704 (Int.toNat v14) 0) - (List.getD r64 (Int.toNat v14) z54).f1))
     some (.inl ((Go.IntKind.wrap (Go.IntKind.i64 ) (v14 + 1)), b384_0, b384_1, b384_2, b384_3, b640_0, (Go.IntKind.wrap (Go.IntKind.i64 ) (b640_1 + (if (0 > x0) then 0 else x0))), b640_2, b640_3, r64, r704, r654))) none) none) (
   some (.inr (b384_0, b384_1, b384_2, b384_3, b640_0, b640_1, b640_2, b640_3, r654)))
noncomputable def l2 (x : Int × Int × Int × Int × Int × Int × Int × Int × Int × (List S54) × (List Int) × (List Int)) : Option ((Int × Int × Int × Int × Int × Int × Int × Int × (List Int))) := lim l2.b x
theorem l2.eq : ∀ x, l2.b x = roundX (mkE tab es 108 [] []) (loopAt 2 code) (cutOf l2.A l2.c) (cutsOf l2.xs l2.y) x := fun x => by kernel_rfl
theorem l2.owed {R : Type} : owed (mkE (R := R) tab es 108 [] []) (loopAt 2 code) = [] := by kernel_rfl
theorem l2.ok (w0 : World) (M : Own) (h : Pinned M []) {R : Type} : SoundO prog w0 M 108 (.block 2 (.loop (loopAt 2 code))) (loopO (R := R) 2 (cutOf l2.A l2.c) (cutsOf l2.xs l2.y) l2) :=
  loop_ok tabOk uniOk mixed l2.eq (h.sub rfl) (h.sub rfl) fun x hx => by rw [l2.owed] at hx; exact absurd hx List.not_mem_nil

noncomputable def F : ((Int × Int × Int) × (List S54) × (List S56)) → Option (((Int × Int × Int × Int × (List Int)) × Int))
  | ((p0_0, p0_1, p0_2), p1, p2) =>
  (F9.F ((p0_0, (p0_1, p0_2)), (p1, p2))).bind fun y9 =>
  cond (y9.1 != 0) (
   some ((0, (0, (0, (0, ([] : List Int))))), y9.1)) (
   cond (((decide (0 ≤ p0_0)) && (decide (p0_0 ≤ p0_0))) && (decide (p0_0 ≤ 274877906944))) (
    let x0 := ((List.length p1) : Int)
    cond (((decide (0 ≤ x0)) && (decide (x0 ≤ x0))) && (decide (x0 ≤ 274877906944))) (
     (l0 (0, p0_0, p0_1, p0_2, 0, 0, 0, 0, 0, 0, 0, 0, p1, p2, (List.replicate (Int.toNat x0) 0), (List.replicate (Int.toNat p0_0) 0))).bind fun yl0 =>
     (l2 (0, yl0.2.2.2.1, yl0.2.2.2.2.1, yl0.2.2.2.2.2.1, yl0.2.2.2.2.2.2.1, yl0.2.2.2.2.2.2.2.1, yl0.2.2.2.2.2.2.2.2.1, (Go.IntKind.wrap (Go.IntKind.i64 ) (yl0.2.2.2.2.2.2.2.2.2.2.1 * yl0.2.1)), yl0.2.2.2.2.2.2.2.2.2.2.1, yl0.2.2.2.2.2.2.2.2.2.2.2.1, yl0.2.2.2.2.2.2.2.2.2.2.2.2.1, yl0.2.2.2.2.2.2.2.2.2.2.2.2.2)).bind fun yl2 =>
     some ((yl2.2.2.2.2.1, (yl2.2.2.2.2.2.1, (yl2.2.2.2.2.2.2.1, (yl2.2.2.2.2.2.2.2.1, yl2.2.2.2.2.2.2.2.2)))), 0)) none) none)
theorem F.eq : ∀ x, F x = runF (mkE tab es 108 [(0, some (loopO 0 (cutOf l0.A l0.c) (cutsOf l0.xs l0.y) l0)), (2, some (loopO 2 (cutOf l2.A l2.c) (cutsOf l2.xs l2.y) l2))] []) code [.agg [.sc, .sc, .sc], .row 2 0, .row 3 0] [.agg [.sc, .sc, .sc, .sc, .row 5], .sc] [.cell 6 49, .tmp 7] (Coz.dec cr) (cp.enc x) := fun x => by kernel_rfl
theorem F.owed : owed (mkE (R := ((Int × Int × Int × Int × (List Int)) × Int)) tab es 108 [(0, some (loopO 0 (cutOf l0.A l0.c) (cutsOf l0.xs l0.y) l0)), (2, some (loopO 2 (cutOf l2.A l2.c) (cutsOf l2.xs l2.y) l2))] []) code = [((.block 0 (.loop (loopAt 0 code))), (loopO (R := _) 0 (cutOf l0.A l0.c) (cutsOf l0.xs l0.y) l0)), ((.block 2 (.loop (loopAt 2 code))), (loopO (R := _) 2 (cutOf l2.A l2.c) (cutsOf l2.xs l2.y) l2))] := by kernel_rfl
theorem con : ∀ x y, F x = some y → Con prog 27 [.agg [.sc, .sc, .sc], .row 2 0, .row 3 0] [.agg [.sc, .sc, .sc, .sc, .row 5], .sc] (cp.enc x) (cr.enc y).1 (cr.enc y).2 :=
  func_ok (c := code) (n := 108) (pf := [.agg [.sc, .sc, .sc], .row 2 0, .row 3 0]) (res := [.cell 6 49, .tmp 7]) tabOk uniOk mixed get (by kernel_rfl) (by kernel_rfl) (by kernel_rfl) (by decide) F.eq fun w0 M h x hx => by rw [F.owed] at hx; rcases List.mem_cons.1 hx with rfl | hx; exact l0.ok w0 M h; rcases List.mem_cons.1 hx with rfl | hx; exact l2.ok w0 M h; exact absurd hx List.not_mem_nil
noncomputable def ent : Ent prog uni := Ent.of 27 [.agg [.sc, .sc, .sc], .row 2 0, .row 3 0] [.agg [.sc, .sc, .sc, .sc, .row 5], .sc] cp cr F con fun args w => enters_of get (by kernel_rfl) rfl args w
end Go.Proofs.YtchohkelpjfpcaaDoor.AX.F27

/- The function 23 of the program in the small machine. No conditions. -/
namespace Go.Proofs.YtchohkelpjfpcaaDoor.AX.F23
open Go Go.Proofs.Tryd
noncomputable def code : Code := bodyOf f23
abbrev Y : Type := ((Int × Int × Int × Int × (List Int)) × Int)
def cp : Cod uni ((Int × Int × Int) × (List S54) × (List S56)) := (codC (iAgg (codC (iInt .i64) (codC (iInt .i64) (cod1 (iInt .i64))))) (codC (iRow 2) (cod1 (iRow 3))))
def cr : Coz uni ((Int × Int × Int × Int × (List Int)) × Int) := (cozR (codC (iAgg (codC (iInt .i64) (codC (iInt .i64) (codC (iInt .i64) (codC (iInt .i64) (cod1 (iRow 5))))))) (cod1 (iInt .i64))) (codD (codD (codD cod0))))
noncomputable def es : List (Ent prog uni) := [F13.ent]
theorem get : prog.funcs[23]? = some f23 := by kernel_rfl

def l0.A : Ann := ⟨[(1, .slc 5000064 []), (3, .box 5000192 0), (6, .box 5000384 0), (10, .box 5000640 0), (11, .slc 5000704 []), (34, .slc 5002176 []), (35, .sc), (36, .sc)], [(5000192, 30, [.sc, .sc, .sc]), (5000384, 49, [.sc, .sc, .sc, .sc, .nil]), (5000640, 49, [.sc, .sc, .sc, .sc, .slc 5000654 []])], [(5000064, false, 2), (5000704, true, 5), (5002176, false, 3), (5000654, true, 5)], []⟩
def l0.c : Cod uni (Int × Int × Int × Int × Int × Int × Int × Int × Int × Int × Int × Int × Int × (List S54) × (List Int) × (List S56) × (List Int)) := (codC (iInt .i64) (codC (iInt .i64) (codC (iInt .i64) (codC (iInt .i64) (codC (iInt .i64) (codC (iInt .i64) (codC (iInt .i64) (codC (iInt .i64) (codC (iInt .i64) (codC (iInt .i64) (codC (iInt .i64) (codC (iInt .i64) (codC (iInt .i64) (codC (iRow 2) (codC (iRow 5) (codC (iRow 3) (cod1 (iRow 5))))))))))))))))))
def l0.xs : List (AExit × Ann) := [((.exit 0), ⟨[(1, .slc 5000064 []), (3, .box 5000192 0), (6, .box 5000384 0), (10, .box 5000640 0), (11, .slc 5000704 [])], [(5000192, 30, [.sc, .sc, .sc]), (5000384, 49, [.sc, .sc, .sc, .sc, .nil]), (5000640, 49, [.sc, .sc, .sc, .sc, .slc 5000654 []])], [(5000064, false, 2), (5000704, true, 5), (5000654, true, 5)], []⟩)]
def l0.y : Coy uni ((Int × Int × Int × Int × Int × Int × Int × Int × Int × Int × Int × (List S54) × (List Int) × (List Int))) := (coy1 (codC (iInt .i64) (codC (iInt .i64) (codC (iInt .i64) (codC (iInt .i64) (codC (iInt .i64) (codC (iInt .i64) (codC (iInt .i64) (codC (iInt .i64) (codC (iInt .i64) (codC (iInt .i64) (codC (iInt .i64) (codC (iRow 2) (codC (iRow 5) (cod1 (iRow 5))))))))))))))))
noncomputable def l0.b : Int × Int × Int × Int × Int × Int × Int × Int × Int × Int × Int × Int × Int × (List S54) × (List Int) × (List S56) × (List Int) → Option ((Int × Int × Int × Int × Int × Int × Int × Int × Int × Int × Int × Int × Int × (List S54) × (List Int) × (List S56) × (List Int)) ⊕ ((Int × Int × Int × Int × Int × Int × Int × Int × Int × Int × Int × (List S54) × (List Int) × (List Int))))
  | (v35, v36, b192_0, b192_1, b192_2, b384_0, b384_1, b384_2, b384_3, b640_0, b640_1, b640_2, b640_3, r64, r704, r2176, r654) =>
  cond (decide (v36 < v35)) (
   cond ((decide (0 ≤ v36)) && (decide (v36 < ((List.length r2176) : Int)))) (
    let x9 := (List.getD r2176 (Int.toNat v36) z56)
    let x2 := ((decide (0 ≤ x9.f0)) && (decide (x9.f0 < ((List.length r704) : Int))))
    cond x2 (
     cond x2 (
      let x3 := ((decide (0 ≤ x9.f2)) && (decide (x9.f2 < ((List.length r654) : Int))))
      cond x3 (
       cond x3 (
        let x6 := (Int.toNat x9.f0)
        let x5 := (List.getD r704 x6 0)
        let x0 := (List.set r704 x6 (if (x9.f4 > x5) then x9.f4 else x5))
        let x7 := (Int.toNat x9.f2)
        let x1 := (List.set r654 x7 (Go.IntKind.wrap (Go.IntKind.i64 ) ((List.getD r654 x7 0) + (Go.IntKind.wrap (Go.IntKind.i64 ) (x9.f4 - x9.f3)))))
        let x4 := (if (x9.f4 > b640_0) then x9.f4 else b640_0)
        let x8 := (Go.IntKind.wrap (Go.IntKind.i64 ) (v36 + 1))
        cond x9.f5 (
         some (.inl (v35, x8, b192_0, b192_1, b192_2, b384_0, b384_1, b384_2, b384_3, x4, b640_1, b640_2, (Go.IntKind.wrap (Go.IntKind.i64 ) (b640_3 + 1)), r64, x0, r2176, x1))) (
         some (.inl (v35, x8, b192_0, b192_1, b192_2, b384_0, b384_1, b384_2, b384_3, x4, b640_1, b640_2, b640_3, r64, x0, r2176, x1)))) none) none) none) none) none) (
   some (.inr (b192_0, b192_1, b192_2, b384_0, b384_1, b384_2, b384_3, b640_0, b640_1, b640_2, b640_3, r64, r704, r654)))
noncomputable def l0 (x : Int × Int × Int × Int × Int × Int × Int × Int × Int × Int × Int × Int × Int × (List S54) × (List Int) × (List S56) × (List Int)) : Option ((Int × Int × Int × Int × Int × Int × Int × Int × Int × Int × Int × (List S54) × (List Int) × (List Int))) := lim l0.b x
theorem l0.eq : ∀ x, l0.b x = roundX (mkE tab es 105 [] []) (loopAt 0 code) (cutOf l0.A l0.c) (cutsOf l0.xs l0.y) x := fun x => by kernel_rfl
theorem l0.owed {R : Type} : owed (mkE (R := R) tab es 105 [] []) (loopAt 0 code) = [] := by kernel_rfl
theorem l0.ok (w0 : World) (M : Own) (h : Pinned M []) {R : Type} : SoundO prog w0 M 105 (.block 0 (.loop (loopAt 0 code))) (loopO (R := R) 0 (cutOf l0.A l0.c) (cutsOf l0.xs l0.y) l0) :=
  loop_ok tabOk uniOk mixed l0.eq (h.sub rfl) (h.sub rfl) fun x hx => by rw [l0.owed] at hx; exact absurd hx List.not_mem_nil

def l2.A : Ann := ⟨[(6, .box 5000384 0), (10, .box 5000640 0), (11, .slc 5000704 []), (84, .slc 5005376 []), (85, .sc), (86, .sc)], [(5000384, 49, [.sc, .sc, .sc, .sc, .nil]), (5000640, 49, [.sc, .sc, .sc, .sc, .slc 5000654 []])], [(5000704, true, 5), (5005376, false, 2), (5000654, true, 5)], []⟩
def l2.c : Cod uni (Int × Int × Int × Int × Int × Int × Int × Int × Int × Int × (List Int) × (List S54) × (List Int)) := (codC (iInt .i64) (codC (iInt .i64) (codC (iInt .i64) (codC (iInt .i64) (codC (iInt .i64) (codC (iInt .i64) (codC (iInt .i64) (codC (iInt .i64) (codC (iInt .i64) (codC (iInt .i64) (codC (iRow 5) (codC (iRow 2) (cod1 (iRow 5))))))))))))))
def l2.xs : List (AExit × Ann) := [((.exit 2), ⟨[(6, .box 5000384 0), (10, .box 5000640 0)], [(5000384, 49, [.sc, .sc, .sc, .sc, .nil]), (5000640, 49, [.sc, .sc, .sc, .sc, .slc 5000654 []])], [(5000654, true, 5)], []⟩)]
def l2.y : Coy uni ((Int × Int × Int × Int × Int × Int × Int × Int × (List Int))) := (coy1 (codC (iInt .i64) (codC (iInt .i64) (codC (iInt .i64) (codC (iInt .i64) (codC (iInt .i64) (codC (iInt .i64) (codC (iInt .i64) (codC (iInt .i64) (cod1 (iRow 5)))))))))))
noncomputable def l2.b : Int × Int × Int × Int × Int × Int × Int × Int × Int × Int × (List Int) × (List S54) × (List Int) → Option ((Int × Int × Int × Int × Int × Int × Int × Int × Int × Int × (List Int) × (List S54) × (List Int)) ⊕ ((Int × Int × Int × Int × Int × Int × Int × Int × (List Int))))
  | (v85, v86, b384_0, b384_1, b384_2, b384_3, b640_0, b640_1, b640_2, b640_3, r704, r5376, r654) =>
  cond (decide (v86 < v85)) (
   cond ((decide (0 ≤ v86)) && (decide (v86 < ((List.length r5376) : Int)))) (
    cond ((decide (0 ≤ v86)) && (decide (v86 < ((List.length r704) : Int)))) (
     let x0 := (Go.IntKind.wrap (Go.IntKind.i64 ) ((List.getD r704 (Int.toNat v86) 0) - (List.getD r5376 (Int.toNat v86) z54).f1))
     some (.inl (v85, (Go.IntKind.wrap (Go.IntKind.i64 ) (v86 + 1)), b384_0, b384_1, b384_2, b384_3, b640_0, (Go.IntKind.wrap (Go.IntKind.i64 ) (b640_1 + (if (x0 > 0) then x0 else 0))), b640_2, b640_3, r704, r5376, r654))) none) none) (
   some (.inr (b384_0, b384_1, b384_2, b384_3, b640_0, b640_1, b640_2, b640_3, r654)))
noncomputable def l2 (x : Int × Int × Int × Int × Int × Int × Int × Int × Int × Int × (List Int) × (List S54) × (List Int)) : Option ((Int × Int × Int × Int × Int × Int × Int × Int × (List Int))) := lim l2.b x
theorem l2.eq : ∀ x, l2.b x = roundX (mkE tab es 105 [] []) (loopAt 2 code) (cutOf l2.A l2.c) (cutsOf l2.xs l2.y) x := fun x => by kernel_rfl
theorem l2.owed {R : Type} : owed (mkE (R := R) tab es 105 [] []) (loopAt 2 code) = [] := by kernel_rfl
theorem l2.ok (w0 : World) (M : Own) (h : Pinned M []) {R : Type} : SoundO prog w0 M 105 (.block 2 (.loop (loopAt 2 code))) (loopO (R := R) 2 (cutOf l2.A l2.c) (cutsOf l2.xs l2.y) l2) :=
  loop_ok tabOk uniOk mixed l2.eq (h.sub rfl) (h.sub rfl) fun x hx => by rw [l2.owed] at hx; exact absurd hx List.not_mem_nil

noncomputable def F : ((Int × Int × Int) × (List S54) × (List S56)) → Option (((Int × Int × Int × Int × (List Int)) × Int))
  | ((p0_0, p0_1, p0_2), p1, p2) =>
  (F13.F ((p0_0, (p0_1, p0_2)), (p1, p2))).bind fun y13 =>
  cond (y13.1 != 0) (
   some ((0, (0, (0, (0, ([] : List Int))))), y13.1)) (
   cond (((decide (0 ≤ p0_0)) && (decide (p0_0 ≤ p0_0))) && (decide (p0_0 ≤ 274877906944))) (
    let x0 := ((List.length p1) : Int)
    cond (((decide (0 ≤ x0)) && (decide (x0 ≤ x0))) && (decide (x0 ≤ 274877906944))) (
     (l0 (((List.length p2) : Int), 0, p0_0, p0_1, p0_2, 0, 0, 0, 0, 0, 0, 0, 0, p1, (List.replicate (Int.toNat x0) 0), p2, (List.replicate (Int.toNat p0_0) 0))).bind fun yl0 =>
     (l2 (((List.length yl0.2.2.2.2.2.2.2.2.2.2.2.1) : Int), 0, yl0.2.2.2.1, yl0.2.2.2.2.1, yl0.2.2.2.2.2.1, yl0.2.2.2.2.2.2.1, yl0.2.2.2.2.2.2.2.1, yl0.2.2.2.2.2.2.2.2.1, (Go.IntKind.wrap (Go.IntKind.i64 ) (yl0.2.2.2.2.2.2.2.2.2.2.1 * yl0.2.1)), yl0.2.2.2.2.2.2.2.2.2.2.1, yl0.2.2.2.2.2.2.2.2.2.2.2.2.1, yl0.2.2.2.2.2.2.2.2.2.2.2.1, yl0.2.2.2.2.2.2.2.2.2.2.2.2.2)).bind fun yl2 =>
     some ((yl2.2.2.2.2.1, (yl2.2.2.2.2.2.1, (yl2.2.2.2.2.2.2.1, (yl2.2.2.2.2.2.2.2.1, yl2.2.2.2.2.2.2.2.2)))), 0)) none) none)
theorem F.eq : ∀ x, F x = runF (mkE tab es 105 [(0, some (loopO 0 (cutOf l0.A l0.c) (cutsOf l0.xs l0.y) l0)), (2, some (loopO 2 (cutOf l2.A l2.c) (cutsOf l2.xs l2.y) l2))] []) code [.agg [.sc, .sc, .sc], .row 2 0, .row 3 0] [.agg [.sc, .sc, .sc, .sc, .row 5], .sc] [.cell 6 49, .tmp 7] (Coz.dec cr) (cp.enc x) := fun x => by kernel_rfl
theorem F.owed : owed (mkE (R := ((Int × Int × Int × Int × (List Int)) × Int)) tab es 105 [(0, some (loopO 0 (cutOf l0.A l0.c) (cutsOf l0.xs l0.y) l0)), (2, some (loopO 2 (cutOf l2.A l2.c) (cutsOf l2.xs l2.y) l2))] []) code = [((.block 0 (.loop (loopAt 0 code))), (loopO (R := _) 0 (cutOf l0.A l0.c) (cutsOf l0.xs l0.y) l0)), ((.block 2 (.loop (loopAt 2 code))), (loopO (R := _) 2 (cutOf l2.A l2.c) (cutsOf l2.xs l2.y) l2))] := by kernel_rfl
theorem con : ∀ x y, F x = some y → Con prog 23 [.agg [.sc, .sc, .sc], .row 2 0, .row 3 0] [.agg [.sc, .sc, .sc, .sc, .row 5], .sc] (cp.enc x) (cr.enc y).1 (cr.enc y).2 :=
  func_ok (c := code) (n := 105) (pf := [.agg [.sc, .sc, .sc], .row 2 0, .row 3 0]) (res := [.cell 6 49, .tmp 7]) tabOk uniOk mixed get (by kernel_rfl) (by kernel_rfl) (by kernel_rfl) (by decide) F.eq fun w0 M h x hx => by rw [F.owed] at hx; rcases List.mem_cons.1 hx with rfl | hx; exact l0.ok w0 M h; rcases List.mem_cons.1 hx with rfl | hx; exact l2.ok w0 M h; exact absurd hx List.not_mem_nil
noncomputable def ent : Ent prog uni := Ent.of 23 [.agg [.sc, .sc, .sc], .row 2 0, .row 3 0] [.agg [.sc, .sc, .sc, .sc, .row 5], .sc] cp cr F con fun args w => enters_of get (by kernel_rfl) rfl args w
end Go.Proofs.YtchohkelpjfpcaaDoor.AX.F23

/- The function 47 of the program in the small machine. No conditions. -/
namespace Go.Proofs.YtchohkelpjfpcaaDoor.AX.F47
open Go Go.Proofs.Tryd
noncomputable def code : Code := bodyOf f47
abbrev Y : Type := Bool
def cp : Cod uni ((List Int) × (List Int)) := (codC (iRow 5) (cod1 (iRow 5)))
def cr : Coz uni Bool := (cozR (cod1 iBool) (codD (codD cod0)))
noncomputable def es : List (Ent prog uni) := []
theorem get : prog.funcs[47]? = some f47 := by kernel_rfl

def l0.A : Ann := ⟨[(0, .slc 5000000 []), (1, .slc 5000064 []), (5, .sc)], [], [(5000000, false, 5), (5000064, false, 5)], []⟩
def l0.c : Cod uni (Int × (List Int) × (List Int)) := (codC (iInt .i64) (codC (iRow 5) (cod1 (iRow 5))))
def l0.xs : List (AExit × Ann) := [(.ret, ⟨[(4, .sc)], [], [], []⟩), ((.exit 0), ⟨[], [], [], []⟩)]
def l0.y : Coy uni (Bool ⊕ Unit) := (coyS (cod1 iBool) (coy1 cod0))
noncomputable def l0.b : Int × (List Int) × (List Int) → Option ((Int × (List Int) × (List Int)) ⊕ (Bool ⊕ Unit))
  | (v5, r0, r64) =>
  let x0 := (decide (v5 < ((List.length r0) : Int)))
  cond x0 (
   cond ((decide (0 ≤ v5)) && x0) (
    cond ((decide (0 ≤ v5)) && (decide (v5 < ((List.length r64) : Int)))) (
     cond ((List.getD r0 (Int.toNat v5) 0) != (List.getD r64 (Int.toNat v5) 0)) (
      some (.inr (.inl false))) (
      some (.inl ((Go.IntKind.wrap (Go.IntKind.i64 ) (v5 + 1)), r0, r64)))) none) none) (
   some (.inr (.inr ())))
noncomputable def l0 (x : Int × (List Int) × (List Int)) : Option (Bool ⊕ Unit) := lim l0.b x
theorem l0.eq : ∀ x, l0.b x = roundX (mkE tab es 26 [] []) (loopAt 0 code) (cutOf l0.A l0.c) (cutsOf l0.xs l0.y) x := fun x => by kernel_rfl
theorem l0.owed {R : Type} : owed (mkE (R := R) tab es 26 [] []) (loopAt 0 code) = [] := by kernel_rfl
theorem l0.ok (w0 : World) (M : Own) (h : Pinned M []) {R : Type} : SoundO prog w0 M 26 (.block 0 (.loop (loopAt 0 code))) (loopO (R := R) 0 (cutOf l0.A l0.c) (cutsOf l0.xs l0.y) l0) :=
  loop_ok tabOk uniOk mixed l0.eq (h.sub rfl) (h.sub rfl) fun x hx => by rw [l0.owed] at hx; exact absurd hx List.not_mem_nil

noncomputable def F : ((List Int) × (List Int)) → Option (Bool)
  | (p0, p1) =>
  cond (((List.length p0) : Int) != ((List.length p1) : Int)) (
   some false) (
   (l0 (0, p0, p1)).bind fun q => match q with
   | (.inl yl0) =>
    some yl0
   | (.inr yl0) =>
    some true)
theorem F.eq : ∀ x, F x = runF (mkE tab es 26 [(0, some (loopO 0 (cutOf l0.A l0.c) (cutsOf l0.xs l0.y) l0))] []) code [.row 5 0, .row 5 0] [.sc] [.tmp 4] (Coz.dec cr) (cp.enc x) := fun x => by kernel_rfl
theorem F.owed : owed (mkE (R := Bool) tab es 26 [(0, some (loopO 0 (cutOf l0.A l0.c) (cutsOf l0.xs l0.y) l0))] []) code = [((.block 0 (.loop (loopAt 0 code))), (loopO (R := _) 0 (cutOf l0.A l0.c) (cutsOf l0.xs l0.y) l0))] := by kernel_rfl
theorem con : ∀ x y, F x = some y → Con prog 47 [.row 5 0, .row 5 0] [.sc] (cp.enc x) (cr.enc y).1 (cr.enc y).2 :=
  func_ok (c := code) (n := 26) (pf := [.row 5 0, .row 5 0]) (res := [.tmp 4]) tabOk uniOk mixed get (by kernel_rfl) (by kernel_rfl) (by kernel_rfl) (by decide) F.eq fun w0 M h x hx => by rw [F.owed] at hx; rcases List.mem_cons.1 hx with rfl | hx; exact l0.ok w0 M h; exact absurd hx List.not_mem_nil
noncomputable def ent : Ent prog uni := Ent.of 47 [.row 5 0, .row 5 0] [.sc] cp cr F con fun args w => enters_of get (by kernel_rfl) rfl args w
end Go.Proofs.YtchohkelpjfpcaaDoor.AX.F47

/- The function 28 of the program in the small machine. No conditions. -/
namespace Go.Proofs.YtchohkelpjfpcaaDoor.AX.F28
open Go Go.Proofs.Tryd
noncomputable def code : Code := bodyOf f28
abbrev Y : Type := Bool
def cp : Cod uni ((Int × Int × Int × Int × (List Int)) × (Int × Int × Int × Int × (List Int))) := (codC (iAgg (codC (iInt .i64) (codC (iInt .i64) (codC (iInt .i64) (codC (iInt .i64) (cod1 (iRow 5))))))) (cod1 (iAgg (codC (iInt .i64) (codC (iInt .i64) (codC (iInt .i64) (codC (iInt .i64) (cod1 (iRow 5)))))))))
def cr : Coz uni Bool := (cozR (cod1 iBool) (codD (codD cod0)))
noncomputable def es : List (Ent prog uni) := [F47.ent]
theorem get : prog.funcs[28]? = some f28 := by kernel_rfl

noncomputable def F : ((Int × Int × Int × Int × (List Int)) × (Int × Int × Int × Int × (List Int))) → Option (Bool)
  | ((p0_0, p0_1, p0_2, p0_3, p0_4), (p1_0, p1_1, p1_2, p1_3, p1_4)) =>
  cond (p0_0 != p1_0) (
   some false) (
   cond (p0_1 != p1_1) (
    some false) (
    cond (p0_2 != p1_2) (
     some false) (
     cond (p0_3 != p1_3) (
      some false) (
      (F47.F (p0_4, p1_4)).bind fun y47 =>
      cond (!y47) (
       some false) (
       some true)))))
theorem F.eq : ∀ x, F x = runF (mkE tab es 31 [] []) code [.agg [.sc, .sc, .sc, .sc, .row 5 0], .agg [.sc, .sc, .sc, .sc, .row 5 0]] [.sc] [.tmp 4] (Coz.dec cr) (cp.enc x) := fun x => by kernel_rfl
theorem F.owed : owed (mkE (R := Bool) tab es 31 [] []) code = [] := by kernel_rfl
theorem con : ∀ x y, F x = some y → Con prog 28 [.agg [.sc, .sc, .sc, .sc, .row 5 0], .agg [.sc, .sc, .sc, .sc, .row 5 0]] [.sc] (cp.enc x) (cr.enc y).1 (cr.enc y).2 :=
  func_ok (c := code) (n := 31) (pf := [.agg [.sc, .sc, .sc, .sc, .row 5 0], .agg [.sc, .sc, .sc, .sc, .row 5 0]]) (res := [.tmp 4]) tabOk uniOk mixed get (by kernel_rfl) (by kernel_rfl) (by kernel_rfl) (by decide) F.eq fun w0 M h x hx => by rw [F.owed] at hx; exact absurd hx List.not_mem_nil
noncomputable def ent : Ent prog uni := Ent.of 28 [.agg [.sc, .sc, .sc, .sc, .row 5 0], .agg [.sc, .sc, .sc, .sc, .row 5 0]] [.sc] cp cr F con fun args w => enters_of get (by kernel_rfl) rfl args w
end Go.Proofs.YtchohkelpjfpcaaDoor.AX.F28

/- The function 48 of the program in the small machine. No conditions. -/
namespace Go.Proofs.YtchohkelpjfpcaaDoor.AX.F48
open Go Go.Proofs.Tryd
noncomputable def code : Code := bodyOf f48
abbrev Y : Type := (Int × ((List Int) × Unit))
def cp : Cod uni ((List Int) × Int) := (codC (iRow 5) (cod1 (iInt .i64)))
def cr : Coz uni (Int × ((List Int) × Unit)) := (cozRM (cod1 (iInt .i64)) (codC (iRow 5) (codD cod0)))
noncomputable def es : List (Ent prog uni) := []
theorem get : prog.funcs[48]? = some f48 := by kernel_rfl

def l0.A : Ann := ⟨[(0, .slc 4194304 []), (1, .sc), (5, .sc)], [], [(4194304, true, 5)], [4194304]⟩
def l0.c : Cod uni (Int × Int × (List Int)) := (codC (iInt .i64) (codC (iInt .i64) (cod1 (iRow 5))))
def l0.xs : List (AExit × Ann) := [((.exit 0), ⟨[(0, .slc 4194304 []), (1, .sc)], [], [(4194304, true, 5)], [4194304]⟩)]
def l0.y : Coy uni ((Int × (List Int))) := (coy1 (codC (iInt .i64) (cod1 (iRow 5))))
noncomputable def l0.b : Int × Int × (List Int) → Option ((Int × Int × (List Int)) ⊕ ((Int × (List Int))))
  | (v1, v5, r94304) =>
  let x0 := (decide (v5 < ((List.length r94304) : Int)))
  cond x0 (
   cond ((decide (0 ≤ v5)) && x0) (
    some (.inl ((Go.IntKind.wrap (Go.IntKind.i64 ) (v1 + 1)), (Go.IntKind.wrap (Go.IntKind.i64 ) (v5 + 1)), (List.set r94304 (Int.toNat v5) v1)))) none) (
   some (.inr (v1, r94304)))
noncomputable def l0 (x : Int × Int × (List Int)) : Option ((Int × (List Int))) := lim l0.b x
theorem l0.eq : ∀ x, l0.b x = roundX (mkE tab es 19 [] []) (loopAt 0 code) (cutOf l0.A l0.c) (cutsOf l0.xs l0.y) x := fun x => by kernel_rfl
theorem l0.owed {R : Type} : owed (mkE (R := R) tab es 19 [] []) (loopAt 0 code) = [] := by kernel_rfl
theorem l0.ok (w0 : World) (M : Own) (h : Pinned M [4194304]) {R : Type} : SoundO prog w0 M 19 (.block 0 (.loop (loopAt 0 code))) (loopO (R := R) 0 (cutOf l0.A l0.c) (cutsOf l0.xs l0.y) l0) :=
  loop_ok tabOk uniOk mixed l0.eq (h.sub rfl) (h.sub rfl) fun x hx => by rw [l0.owed] at hx; exact absurd hx List.not_mem_nil

noncomputable def F : ((List Int) × Int) → Option ((Int × ((List Int) × Unit)))
  | (p0, p1) =>
  (l0 (p1, 0, p0)).bind fun yl0 =>
  some (yl0.1, (yl0.2, ()))
theorem F.eq : ∀ x, F x = runF (mkE tab es 19 [(0, some (loopO 0 (cutOf l0.A l0.c) (cutsOf l0.xs l0.y) l0))] []) code [.row 5 1, .sc] [.sc] [.tmp 4] (Coz.dec cr) (cp.enc x) := fun x => by kernel_rfl
theorem F.owed : owed (mkE (R := (Int × ((List Int) × Unit))) tab es 19 [(0, some (loopO 0 (cutOf l0.A l0.c) (cutsOf l0.xs l0.y) l0))] []) code = [((.block 0 (.loop (loopAt 0 code))), (loopO (R := _) 0 (cutOf l0.A l0.c) (cutsOf l0.xs l0.y) l0))] := by kernel_rfl
theorem con : ∀ x y, F x = some y → Con prog 48 [.row 5 1, .sc] [.sc] (cp.enc x) (cr.enc y).1 (cr.enc y).2 :=
  func_ok (c := code) (n := 19) (pf := [.row 5 1, .sc]) (res := [.tmp 4]) tabOk uniOk mixed get (by kernel_rfl) (by kernel_rfl) (by kernel_rfl) (by decide) F.eq fun w0 M h x hx => by rw [F.owed] at hx; rcases List.mem_cons.1 hx with rfl | hx; exact l0.ok w0 M h; exact absurd hx List.not_mem_nil
noncomputable def ent : Ent prog uni := Ent.of 48 [.row 5 1, .sc] [.sc] cp cr F con fun args w => enters_of get (by kernel_rfl) rfl args w
end Go.Proofs.YtchohkelpjfpcaaDoor.AX.F48

/- The function 29 of the program in the small machine. No conditions. -/
namespace Go.Proofs.YtchohkelpjfpcaaDoor.AX.F29
open Go Go.Proofs.Tryd
noncomputable def code : Code := bodyOf f29
abbrev Y : Type := (Int × ((List Int) × Unit))
def cp : Cod uni ((Int × Int × Int × Int × (List Int)) × Int) := (codC (iAgg (codC (iInt .i64) (codC (iInt .i64) (codC (iInt .i64) (codC (iInt .i64) (cod1 (iRow 5))))))) (cod1 (iInt .i64)))
def cr : Coz uni (Int × ((List Int) × Unit)) := (cozRM (cod1 (iInt .i64)) (codC (iAgg (codD (codD (codD (codD (cod1 (iRow 5))))))) (codD cod0)))
noncomputable def es : List (Ent prog uni) := [F48.ent]
theorem get : prog.funcs[29]? = some f29 := by kernel_rfl

noncomputable def F : ((Int × Int × Int × Int × (List Int)) × Int) → Option ((Int × ((List Int) × Unit)))
  | ((p0_0, p0_1, p0_2, p0_3, p0_4), p1) =>
  (F48.F (p0_4, p1)).bind fun y48 =>
  some (y48.1, (y48.2.1, ()))
theorem F.eq : ∀ x, F x = runF (mkE tab es 10 [] []) code [.agg [.sc, .sc, .sc, .sc, .row 5 1], .sc] [.sc] [.tmp 4] (Coz.dec cr) (cp.enc x) := fun x => by kernel_rfl
theorem F.owed : owed (mkE (R := (Int × ((List Int) × Unit))) tab es 10 [] []) code = [] := by kernel_rfl
theorem con : ∀ x y, F x = some y → Con prog 29 [.agg [.sc, .sc, .sc, .sc, .row 5 1], .sc] [.sc] (cp.enc x) (cr.enc y).1 (cr.enc y).2 :=
  func_ok (c := code) (n := 10) (pf := [.agg [.sc, .sc, .sc, .sc, .row 5 1], .sc]) (res := [.tmp 4]) tabOk uniOk mixed get (by kernel_rfl) (by kernel_rfl) (by kernel_rfl) (by decide) F.eq fun w0 M h x hx => by rw [F.owed] at hx; exact absurd hx List.not_mem_nil
noncomputable def ent : Ent prog uni := Ent.of 29 [.agg [.sc, .sc, .sc, .sc, .row 5 1], .sc] [.sc] cp cr F con fun args w => enters_of get (by kernel_rfl) rfl args w
end Go.Proofs.YtchohkelpjfpcaaDoor.AX.F29

/- The function 49 of the program in the small machine. No conditions. -/
namespace Go.Proofs.YtchohkelpjfpcaaDoor.AX.F49
open Go Go.Proofs.Tryd
noncomputable def code : Code := bodyOf f49
abbrev Y : Type := Int
def cp : Cod uni ((List Int) × Int) := (codC (iRow 5) (cod1 (iInt .i64)))
def cr : Coz uni Int := (cozR (cod1 (iInt .i64)) (codD (codD cod0)))
noncomputable def es : List (Ent prog uni) := []
theorem get : prog.funcs[49]? = some f49 := by kernel_rfl

def l0.A : Ann := ⟨[(0, .slc 5000000 []), (1, .sc), (5, .sc)], [], [(5000000, false, 5)], []⟩
def l0.c : Cod uni (Int × Int × (List Int)) := (codC (iInt .i64) (codC (iInt .i64) (cod1 (iRow 5))))
def l0.xs : List (AExit × Ann) := [(.ret, ⟨[(4, .sc)], [], [], []⟩), ((.exit 0), ⟨[(1, .sc)], [], [], []⟩)]
def l0.y : Coy uni (Int ⊕ Int) := (coyS (cod1 (iInt .i64)) (coy1 (cod1 (iInt .i64))))
noncomputable def l0.b : Int × Int × (List Int) → Option ((Int × Int × (List Int)) ⊕ (Int ⊕ Int))
  | (v1, v5, r0) =>
  let x0 := (decide (v5 < ((List.length r0) : Int)))
  cond x0 (
   cond ((decide (0 ≤ v5)) && x0) (
    cond ((List.getD r0 (Int.toNat v5) 0) != v1) (
     some (.inr (.inl (-1)))) (
     some (.inl ((Go.IntKind.wrap (Go.IntKind.i64 ) (v1 + 1)), (Go.IntKind.wrap (Go.IntKind.i64 ) (v5 + 1)), r0)))) none) (
   some (.inr (.inr v1)))
noncomputable def l0 (x : Int × Int × (List Int)) : Option (Int ⊕ Int) := lim l0.b x
theorem l0.eq : ∀ x, l0.b x = roundX (mkE tab es 21 [] []) (loopAt 0 code) (cutOf l0.A l0.c) (cutsOf l0.xs l0.y) x := fun x => by kernel_rfl
theorem l0.owed {R : Type} : owed (mkE (R := R) tab es 21 [] []) (loopAt 0 code) = [] := by kernel_rfl
theorem l0.ok (w0 : World) (M : Own) (h : Pinned M []) {R : Type} : SoundO prog w0 M 21 (.block 0 (.loop (loopAt 0 code))) (loopO (R := R) 0 (cutOf l0.A l0.c) (cutsOf l0.xs l0.y) l0) :=
  loop_ok tabOk uniOk mixed l0.eq (h.sub rfl) (h.sub rfl) fun x hx => by rw [l0.owed] at hx; exact absurd hx List.not_mem_nil

noncomputable def F : ((List Int) × Int) → Option (Int)
  | (p0, p1) =>
  (l0 (p1, 0, p0)).bind fun q => match q with
  | (.inl yl0) =>
   some yl0
  | (.inr yl0) =>
   some yl0
theorem F.eq : ∀ x, F x = runF (mkE tab es 21 [(0, some (loopO 0 (cutOf l0.A l0.c) (cutsOf l0.xs l0.y) l0))] []) code [.row 5 0, .sc] [.sc] [.tmp 4] (Coz.dec cr) (cp.enc x) := fun x => by kernel_rfl
theorem F.owed : owed (mkE (R := Int) tab es 21 [(0, some (loopO 0 (cutOf l0.A l0.c) (cutsOf l0.xs l0.y) l0))] []) code = [((.block 0 (.loop (loopAt 0 code))), (loopO (R := _) 0 (cutOf l0.A l0.c) (cutsOf l0.xs l0.y) l0))] := by kernel_rfl
theorem con : ∀ x y, F x = some y → Con prog 49 [.row 5 0, .sc] [.sc] (cp.enc x) (cr.enc y).1 (cr.enc y).2 :=
  func_ok (c := code) (n := 21) (pf := [.row 5 0, .sc]) (res := [.tmp 4]) tabOk uniOk mixed get (by kernel_rfl) (by kernel_rfl) (by kernel_rfl) (by decide) F.eq fun w0 M h x hx => by rw [F.owed] at hx; rcases List.mem_cons.1 hx with rfl | hx; exact l0.ok w0 M h; exact absurd hx List.not_mem_nil
noncomputable def ent : Ent prog uni := Ent.of 49 [.row 5 0, .sc] [.sc] cp cr F con fun args w => enters_of get (by kernel_rfl) rfl args w
end Go.Proofs.YtchohkelpjfpcaaDoor.AX.F49

/- The function 30 of the program in the small machine. No conditions. -/
namespace Go.Proofs.YtchohkelpjfpcaaDoor.AX.F30
open Go Go.Proofs.Tryd
noncomputable def code : Code := bodyOf f30
abbrev Y : Type := Int
def cp : Cod uni ((Int × Int × Int × Int × (List Int)) × Int) := (codC (iAgg (codC (iInt .i64) (codC (iInt .i64) (codC (iInt .i64) (codC (iInt .i64) (cod1 (iRow 5))))))) (cod1 (iInt .i64)))
def cr : Coz uni Int := (cozR (cod1 (iInt .i64)) (codD (codD cod0)))
noncomputable def es : List (Ent prog uni) := [F49.ent]
theorem get : prog.funcs[30]? = some f30 := by kernel_rfl

noncomputable def F : ((Int × Int × Int × Int × (List Int)) × Int) → Option (Int)
  | ((p0_0, p0_1, p0_2, p0_3, p0_4), p1) =>
  (F49.F (p0_4, p1)).bind fun y49 =>
  cond (decide (y49 < 0)) (
   some (-1)) (
   some y49)
theorem F.eq : ∀ x, F x = runF (mkE tab es 12 [] []) code [.agg [.sc, .sc, .sc, .sc, .row 5 0], .sc] [.sc] [.tmp 4] (Coz.dec cr) (cp.enc x) := fun x => by kernel_rfl
theorem F.owed : owed (mkE (R := Int) tab es 12 [] []) code = [] := by kernel_rfl
theorem con : ∀ x y, F x = some y → Con prog 30 [.agg [.sc, .sc, .sc, .sc, .row 5 0], .sc] [.sc] (cp.enc x) (cr.enc y).1 (cr.enc y).2 :=
  func_ok (c := code) (n := 12) (pf := [.agg [.sc, .sc, .sc, .sc, .row 5 0], .sc]) (res := [.tmp 4]) tabOk uniOk mixed get (by kernel_rfl) (by kernel_rfl) (by kernel_rfl) (by decide) F.eq fun w0 M h x hx => by rw [F.owed] at hx; exact absurd hx List.not_mem_nil
noncomputable def ent : Ent prog uni := Ent.of 30 [.agg [.sc, .sc, .sc, .sc, .row 5 0], .sc] [.sc] cp cr F con fun args w => enters_of get (by kernel_rfl) rfl args w
end Go.Proofs.YtchohkelpjfpcaaDoor.AX.F30

/- The function 6 of the program in the small machine. No conditions. -/
namespace Go.Proofs.YtchohkelpjfpcaaDoor.AX.F6
open Go Go.Proofs.Tryd
noncomputable def code : Code := bodyOf f6
abbrev Y : Type := Bool
def cp : Cod uni ((Int × Int × Int) × (List S64) × (List S56)) := (codC (iAgg (codC (iInt .i64) (codC (iInt .i64) (cod1 (iInt .i64))))) (codC (iRow 0) (cod1 (iRow 1))))
def cr : Coz uni Bool := (cozR (cod1 iBool) (codD (codD (codD cod0))))
noncomputable def es : List (Ent prog uni) := [F7.ent, F8.ent, F10.ent, F11.ent, F12.ent, F27.ent, F23.ent, F28.ent, F14.ent, F15.ent, F18.ent, F19.ent, F29.ent, F30.ent]
theorem get : prog.funcs[6]? = some f6 := by kernel_rfl

noncomputable def F : ((Int × Int × Int) × (List S64) × (List S56)) → Option (Bool)
  | ((p0_0, p0_1, p0_2), p1, p2) =>
  (F7.F (p1, 1048576)).bind fun y7 =>
  cond (decide (y7 < 0)) (
   some true) (
   (F8.F (p2, y7)).bind fun y8 =>
   cond (decide (y8 < 0)) (
    some true) (
    let x3 := (F10.F (p0_0, (p0_1, p0_2)))
    x3.bind fun y10 =>
    (F11.F p1).bind fun y11 =>
    (F12.F p2).bind fun y12 =>
    (F27.F ((y10.1, (y10.2.1, y10.2.2)), (y11, y12))).bind fun y27 =>
    (F11.F p1).bind fun y11x2 =>
    (F12.F p2).bind fun y12x2 =>
    x3.bind fun y10x2 =>
    (F23.F ((y10x2.1, (y10x2.2.1, y10x2.2.2)), (y11x2, y12x2))).bind fun y23 =>
    let x0 := (F28.F ((y23.1.1, (y23.1.2.1, (y23.1.2.2.1, (y23.1.2.2.2.1, y23.1.2.2.2.2)))), (y27.1.1, (y27.1.2.1, (y27.1.2.2.1, (y27.1.2.2.2.1, y27.1.2.2.2.2))))))
    x0.bind fun y28 =>
    cond ((!y28) || (y23.2 != y27.2)) (
     some false) (
     (F11.F p1).bind fun y11x3 =>
     (F14.F (y11x2, y11x3)).bind fun y14 =>
     cond (!y14) (
      some false) (
      (F12.F p2).bind fun y12x3 =>
      (F15.F (y12x2, y12x3)).bind fun y15 =>
      cond (!y15) (
       some false) (
       (F18.F (y11x2, 1)).bind fun y18 =>
       (F19.F (y12x2, y18.1)).bind fun y19 =>
       let x1 := (F29.F ((y23.1.1, (y23.1.2.1, (y23.1.2.2.1, (y23.1.2.2.2.1, y23.1.2.2.2.2)))), 1))
       cond (!(decide (y19.1 < 0))) (
        x0.bind fun y28x2 =>
        cond (((decide (y19.1 < 0)) || (!y28x2)) || (y23.2 != y27.2)) (
         some false) (
         x1.bind fun y29 =>
         let x2 := (F30.F ((y23.1.1, (y23.1.2.1, (y23.1.2.2.1, (y23.1.2.2.2.1, y29.2.1)))), 1))
         x2.bind fun y30 =>
         cond (decide (y30 < 0)) (
          some false) (
          cond (y30 != y29.1) (
           some false) (
           x3.bind fun y10x3 =>
           (F11.F p1).bind fun y11x4 =>
           (F12.F p2).bind fun y12x4 =>
           (F23.F ((y10x3.1, (y10x3.2.1, y10x3.2.2)), (y11x4, y12x4))).bind fun y23x2 =>
           (F28.F ((y23x2.1.1, (y23x2.1.2.1, (y23x2.1.2.2.1, (y23x2.1.2.2.2.1, y23x2.1.2.2.2.2)))), (y27.1.1, (y27.1.2.1, (y27.1.2.2.1, (y27.1.2.2.2.1, y27.1.2.2.2.2)))))).bind fun y28x3 =>
           cond ((!y28x3) || (y23x2.2 != y27.2)) (
            some false) (
            x2.bind fun y30x2 =>
            cond (decide (y30x2 < 0)) (
             some false) (
             cond (y30x2 != y29.1) (
              some false) (
              some true))))))) (
        cond (((decide (y19.1 < 0)) || true) || (y23.2 != y27.2)) (
         some false) (
         x1.bind fun y29 =>
         let x2 := (F30.F ((y23.1.1, (y23.1.2.1, (y23.1.2.2.1, (y23.1.2.2.2.1, y29.2.1)))), 1))
         x2.bind fun y30 =>
         cond (decide (y30 < 0)) (
          some false) (
          cond (y30 != y29.1) (
           some false) (
           x3.bind fun y10x3 =>
           (F11.F p1).bind fun y11x4 =>
           (F12.F p2).bind fun y12x4 =>
           (F23.F ((y10x3.1, (y10x3.2.1, y10x3.2.2)), (y11x4, y12x4))).bind fun y23x2 =>
           (F28.F ((y23x2.1.1, (y23x2.1.2.1, (y23x2.1.2.2.1, (y23x2.1.2.2.2.1, y23x2.1.2.2.2.2)))), (y27.1.1, (y27.1.2.1, (y27.1.2.2.1, (y27.1.2.2.2.1, y27.1.2.2.2.2)))))).bind fun y28x2 =>
           cond ((!y28x2) || (y23x2.2 != y27.2)) (
            some false) (
            x2.bind fun y30x2 =>
            cond (decide (y30x2 < 0)) (
             some false) (
             cond (y30x2 != y29.1) (
              some false) (
              some true))))))))))))
theorem F.eq : ∀ x, F x = runF (mkE tab es 127 [] []) code [.agg [.sc, .sc, .sc], .row 0 0, .row 1 0] [.sc] [.tmp 6] (Coz.dec cr) (cp.enc x) := fun x => by kernel_rfl
theorem F.owed : owed (mkE (R := Bool) tab es 127 [] []) code = [] := by kernel_rfl
theorem con : ∀ x y, F x = some y → Con prog 6 [.agg [.sc, .sc, .sc], .row 0 0, .row 1 0] [.sc] (cp.enc x) (cr.enc y).1 (cr.enc y).2 :=
  func_ok (c := code) (n := 127) (pf := [.agg [.sc, .sc, .sc], .row 0 0, .row 1 0]) (res := [.tmp 6]) tabOk uniOk mixed get (by kernel_rfl) (by kernel_rfl) (by kernel_rfl) (by decide) F.eq fun w0 M h x hx => by rw [F.owed] at hx; exact absurd hx List.not_mem_nil
noncomputable def ent : Ent prog uni := Ent.of 6 [.agg [.sc, .sc, .sc], .row 0 0, .row 1 0] [.sc] cp cr F con fun args w => enters_of get (by kernel_rfl) rfl args w
end Go.Proofs.YtchohkelpjfpcaaDoor.AX.F6

/- What the functions of the laws of plans answer. No conditions. -/
namespace Go.Proofs.YtchohkelpjfpcaaDoor.AX
open Go

theorem F53.ok (l : List S69) (h : l.length ≤ 1048576) : F53.F l = some (l) := by
  have := lim_run (f := F53.l0.b) (fun i => ((i : Int), l, upTo id z69 l i)) l.length (y := l) (fun i hi => by
    have e := upTo_set (c := id) (z := z69) (d := z69) hi
    have d1 : decide ((i : Int) < (l.length : Int)) = true := dT (by omega)
    have d2 : decide ((0 : Int) ≤ (i : Int)) = true := dT (by omega)
    have d3 : decide ((i : Int) < ((upTo id z69 l i).length : Int)) = true := dT (by rw [upTo_len (by omega)]; omega)
    have w : Go.IntKind.wrap .i64 ((i : Int) + 1) = ((i + 1 : Nat) : Int) := by rw [w64 (by omega) (by omega)]; rfl
    
    simp only [F53.l0.b, F62.F, d1, d2, d3, w, Bool.and_self, cT, bS, Int.toNat_natCast]
    exact congrArg (fun q => some (Sum.inl (((i + 1 : Nat) : Int), l, q))) e)
    (by
      have d1 : decide ((l.length : Int) < (l.length : Int)) = false := dF (by omega)
      simp only [F53.l0.b, d1, cF, upTo_all, List.map_id])
  have d0 : (((decide (0 ≤ (l.length : Int))) && (decide ((l.length : Int) ≤ (l.length : Int)))) && (decide ((l.length : Int) ≤ 274877906944))) = true := by simp; omega
  simp only [F53.F, d0, cT, Int.toNat_natCast, ← upTo_zero (c := id) (z := z69) (l := l)]
  exact congrArg (fun q => Option.bind q fun y => some y) this

theorem F12.ok (l : List S56) (h : l.length ≤ 1048576) : F12.F l = some (l) := by
  have := lim_run (f := F12.l0.b) (fun i => ((i : Int), l, upTo id z56 l i)) l.length (y := l) (fun i hi => by
    have e := upTo_set (c := id) (z := z56) (d := z56) hi
    have d1 : decide ((i : Int) < (l.length : Int)) = true := dT (by omega)
    have d2 : decide ((0 : Int) ≤ (i : Int)) = true := dT (by omega)
    have d3 : decide ((i : Int) < ((upTo id z56 l i).length : Int)) = true := dT (by rw [upTo_len (by omega)]; omega)
    have w : Go.IntKind.wrap .i64 ((i : Int) + 1) = ((i + 1 : Nat) : Int) := by rw [w64 (by omega) (by omega)]; rfl
    
    simp only [F12.l0.b, F37.F, d1, d2, d3, w, Bool.and_self, cT, bS, Int.toNat_natCast]
    exact congrArg (fun q => some (Sum.inl (((i + 1 : Nat) : Int), l, q))) e)
    (by
      have d1 : decide ((l.length : Int) < (l.length : Int)) = false := dF (by omega)
      simp only [F12.l0.b, d1, cF, upTo_all, List.map_id])
  have d0 : (((decide (0 ≤ (l.length : Int))) && (decide ((l.length : Int) ≤ (l.length : Int)))) && (decide ((l.length : Int) ≤ 274877906944))) = true := by simp; omega
  simp only [F12.F, d0, cT, Int.toNat_natCast, ← upTo_zero (c := id) (z := z56) (l := l)]
  exact congrArg (fun q => Option.bind q fun y => some y) this

def c64 (x : S64) : S54 := ⟨x.f0, x.f1, x.f2⟩
theorem F11.ok (l : List S64) (h : l.length ≤ 1048576) (h2 : ∀ x ∈ l, x.f2.length ≤ 1048576) : F11.F l = some (l.map c64) := by
  have := lim_run (f := F11.l0.b) (fun i => ((i : Int), l, upTo c64 z54 l i)) l.length (y := l.map c64) (fun i hi => by
    have e := upTo_set (c := c64) (z := z54) (d := z64) hi
    have d1 : decide ((i : Int) < (l.length : Int)) = true := dT (by omega)
    have d2 : decide ((0 : Int) ≤ (i : Int)) = true := dT (by omega)
    have d3 : decide ((i : Int) < ((upTo c64 z54 l i).length : Int)) = true := dT (by rw [upTo_len (by omega)]; omega)
    have w : Go.IntKind.wrap .i64 ((i : Int) + 1) = ((i + 1 : Nat) : Int) := by rw [w64 (by omega) (by omega)]; rfl
    have e53 := F53.ok (l.getD i z64).f2 (h2 _ (by rw [getD_lt hi]; exact List.getElem_mem hi))
    simp only [F11.l0.b, F36.F, e53, d1, d2, d3, w, Bool.and_self, cT, bS, Int.toNat_natCast]
    exact congrArg (fun q => some (Sum.inl (((i + 1 : Nat) : Int), l, q))) e)
    (by
      have d1 : decide ((l.length : Int) < (l.length : Int)) = false := dF (by omega)
      simp only [F11.l0.b, d1, cF, upTo_all])
  have d0 : (((decide (0 ≤ (l.length : Int))) && (decide ((l.length : Int) ≤ (l.length : Int)))) && (decide ((l.length : Int) ≤ 274877906944))) = true := by simp; omega
  simp only [F11.F, d0, cT, Int.toNat_natCast, ← upTo_zero (c := c64) (z := z54) (l := l)]
  exact congrArg (fun q => Option.bind q fun y => some y) this

theorem F64.ok (a b c d : Int) : F64.F ((a, b, c, d), (a, b, c, d)) = some true := by simp (disch := rfl) only [F64.F, nF, cF]
theorem F42.ok (a b c d e : Int) (g : Bool) : F42.F ((a, b, c, d, e, g), (a, b, c, d, e, g)) = some true := by simp (disch := rfl) only [F42.F, nF, cF, qT, Bool.not_true]
theorem F55.ok (p : List S69) (h : p.length ≤ 1048576) : F55.F (p, p) = some true := by
  have := lim_run (f := F55.l0.b) (fun i => ((i : Int), p, p)) p.length (y := .inr ()) (fun i hi => by
    have d1 : decide ((i : Int) < (p.length : Int)) = true := dT (by omega)
    have d2 : decide ((0 : Int) ≤ (i : Int)) = true := dT (by omega)
    have w : Go.IntKind.wrap .i64 ((i : Int) + 1) = ((i + 1 : Nat) : Int) := by rw [w64 (by omega) (by omega)]; rfl
    simp only [F55.l0.b, d1, d2, F64.ok, w, Bool.and_self, cT, cF, bS, Bool.not_true])
    (by
      have d1 : decide ((p.length : Int) < (p.length : Int)) = false := dF (by omega)
      simp only [F55.l0.b, d1, cF])
  have n0 : (((p.length : Int)) != (p.length : Int)) = false := nF rfl
  simp only [F55.F, n0, cF]
  exact congrArg (fun q : Option (Bool ⊕ Unit) => q.bind fun q => match q with | .inl y => some y | .inr y => some true) this

theorem F15.ok (p : List S56) (h : p.length ≤ 1048576) : F15.F (p, p) = some true := by
  have := lim_run (f := F15.l0.b) (fun i => ((i : Int), p, p)) p.length (y := .inr ()) (fun i hi => by
    have d1 : decide ((i : Int) < (p.length : Int)) = true := dT (by omega)
    have d2 : decide ((0 : Int) ≤ (i : Int)) = true := dT (by omega)
    have w : Go.IntKind.wrap .i64 ((i : Int) + 1) = ((i + 1 : Nat) : Int) := by rw [w64 (by omega) (by omega)]; rfl
    simp only [F15.l0.b, d1, d2, F42.ok, w, Bool.and_self, cT, cF, bS, Bool.not_true])
    (by
      have d1 : decide ((p.length : Int) < (p.length : Int)) = false := dF (by omega)
      simp only [F15.l0.b, d1, cF])
  have n0 : (((p.length : Int)) != (p.length : Int)) = false := nF rfl
  simp only [F15.F, n0, cF]
  exact congrArg (fun q : Option (Bool ⊕ Unit) => q.bind fun q => match q with | .inl y => some y | .inr y => some true) this

theorem F41.ok (x : S54) (h : x.f2.length ≤ 1048576) : F41.F ((x.f0, x.f1, x.f2), (x.f0, x.f1, x.f2)) = some true := by
  have e : (x.f0.toList == x.f0.toList) = true := by simp
  have n : (x.f1 != x.f1) = false := nF rfl
  simp only [F41.F, e, n, Bool.not_true, cF, F55.ok x.f2 h, bS]
theorem F14.ok (p : List S54) (h : p.length ≤ 1048576) (h2 : ∀ x ∈ p, x.f2.length ≤ 1048576) : F14.F (p, p) = some true := by
  have := lim_run (f := F14.l0.b) (fun i => ((i : Int), p, p)) p.length (y := .inr ()) (fun i hi => by
    have d1 : decide ((i : Int) < (p.length : Int)) = true := dT (by omega)
    have d2 : decide ((0 : Int) ≤ (i : Int)) = true := dT (by omega)
    have w : Go.IntKind.wrap .i64 ((i : Int) + 1) = ((i + 1 : Nat) : Int) := by rw [w64 (by omega) (by omega)]; rfl
    simp only [F14.l0.b, d1, d2, F41.ok _ (h2 _ (show p.getD i z54 ∈ p by rw [getD_lt hi]; exact List.getElem_mem hi)), Int.toNat_natCast, w, Bool.and_self, cT, cF, bS, Bool.not_true])
    (by
      have d1 : decide ((p.length : Int) < (p.length : Int)) = false := dF (by omega)
      simp only [F14.l0.b, d1, cF])
  have n0 : (((p.length : Int)) != (p.length : Int)) = false := nF rfl
  simp only [F14.F, n0, cF]
  exact congrArg (fun q : Option (Bool ⊕ Unit) => q.bind fun q => match q with | .inl y => some y | .inr y => some true) this

/- marks -/
def g56 (k : Int) (_ : S56) : S56 := ⟨k, k + 1, k + 1 + 1, k + 1 + 1 + 1, k + 1 + 1 + 1 + 1, Int.tmod (k + 1 + 1 + 1 + 1 + 1) 3 == 0⟩

theorem F19.ok (l : List S56) (k : Int) (h : l.length ≤ 1048576) (hk : 0 ≤ k) (hk2 : k ≤ 100000000) : F19.F (l, k) = some (k + 6 * (l.length : Int), mkL g56 (fun _ => 6) k l, ()) := by
  have := lim_run (f := F19.l0.b) (fun i => (mkK (fun _ => 6) k (l.take i), (i : Int), mkAt g56 (fun _ => 6) k l i)) l.length (y := (k + 6 * (l.length : Int), mkL g56 (fun _ => 6) k l)) (fun i hi => by
    have e := mkAt_set (g := g56) (c := fun _ => 6) (k := k) (d := z56) hi
    have e2 : mkK (fun _ => (6 : Int)) k (l.take i) = k + 6 * i := by rw [mkK_const]; simp; omega
    have e3 : mkK (fun _ => (6 : Int)) k (l.take (i + 1)) = k + 6 * (i + 1 : Nat) := by rw [mkK_const]; simp; omega
    have hl : (mkAt g56 (fun _ => 6) k l i).length = l.length := mkAt_len
    simp (disch := omega) only [F19.l0.b, dT, dF, w64, hl, e2, e3, List.length_set, Bool.and_self, cT, Int.toNat_natCast, getD_set, List.set_set, g56] at e ⊢
    rw [← e]
    simp only [Option.some.injEq, Sum.inl.injEq, Prod.mk.injEq]
    exact ⟨by omega, by omega, trivial⟩)
    (by simp (disch := omega) only [F19.l0.b, dT, dF, cF, mkAt_all, mkAt_len, List.take_length, mkK_const, mkL_len])
  simp (disch := omega) only [F19.F]
  exact congrArg (fun q : Option (Int × List S56) => q.bind fun y => some (y.1, y.2, ())) (by simpa [mkAt_zero, mkK] using this)

theorem F20.ok (l : List S56) (k : Int) (h : l.length ≤ 1048576) (hk : 0 ≤ k) (hk2 : k ≤ 100000000) : F20.F (mkL g56 (fun _ => 6) k l, k) = some (k + 6 * (l.length : Int)) := by
  have := lim_run (f := F20.l0.b) (fun i => (mkK (fun _ => 6) k (l.take i), (i : Int), mkL g56 (fun _ => 6) k l)) l.length (y := .inr (k + 6 * (l.length : Int))) (fun i hi => by
    have e := mkL_get (g := g56) (c := fun _ => 6) (k := k) (d := z56) hi
    have e2 : mkK (fun _ => (6 : Int)) k (l.take i) = k + 6 * i := by rw [mkK_const]; simp; omega
    have e3 : mkK (fun _ => (6 : Int)) k (l.take (i + 1)) = k + 6 * (i + 1 : Nat) := by rw [mkK_const]; simp; omega
    simp (disch := omega) only [F20.l0.b, dT, dF, w64, nT, nF, mkL_len, e, e2, e3, Bool.and_self, cT, cF, Int.toNat_natCast, g56, beq_self_eq_true, Bool.not_true]
    simp only [Option.some.injEq, Sum.inl.injEq, Prod.mk.injEq]
    exact ⟨by omega, by omega, trivial⟩)
    (by simp (disch := omega) only [F20.l0.b, dT, dF, cF, List.take_length, mkK_const, mkL_len])
  simp (disch := omega) only [F20.F]
  exact congrArg (fun q : Option (Int ⊕ Int) => q.bind fun q => match q with | .inl y => some y | .inr y => some y) (by simpa [mkK] using this)

def g69 (k : Int) (_ : S69) : S69 := ⟨k, k + 1, k + 1 + 1, k + 1 + 1 + 1⟩
theorem F44.ok (l : List S69) (k : Int) (h : l.length ≤ 1048576) (hk : 0 ≤ k) (hk2 : k ≤ 100000000) : F44.F (l, k) = some (k + 4 * (l.length : Int), mkL g69 (fun _ => 4) k l, ()) := by
  have := lim_run (f := F44.l0.b) (fun i => (mkK (fun _ => 4) k (l.take i), (i : Int), mkAt g69 (fun _ => 4) k l i)) l.length (y := (k + 4 * (l.length : Int), mkL g69 (fun _ => 4) k l)) (fun i hi => by
    have e := mkAt_set (g := g69) (c := fun _ => 4) (k := k) (d := z69) hi
    have e2 : mkK (fun _ => (4 : Int)) k (l.take i) = k + 4 * i := by rw [mkK_const]; simp; omega
    have e3 : mkK (fun _ => (4 : Int)) k (l.take (i + 1)) = k + 4 * (i + 1 : Nat) := by rw [mkK_const]; simp; omega
    have hl : (mkAt g69 (fun _ => 4) k l i).length = l.length := mkAt_len
    simp (disch := omega) only [F44.l0.b, dT, dF, w64, hl, e2, e3, List.length_set, Bool.and_self, cT, Int.toNat_natCast, getD_set, List.set_set, g69] at e ⊢
    rw [← e]
    simp only [Option.some.injEq, Sum.inl.injEq, Prod.mk.injEq]
    exact ⟨by omega, by omega, trivial⟩)
    (by simp (disch := omega) only [F44.l0.b, dT, dF, cF, mkAt_all, mkAt_len, List.take_length, mkK_const, mkL_len])
  simp (disch := omega) only [F44.F]
  exact congrArg (fun q : Option (Int × List S69) => q.bind fun y => some (y.1, y.2, ())) (by simpa [mkAt_zero, mkK] using this)

theorem F43.l0_ok : ∀ (n : Nat) (k : Int) (t : ByteArray), 0 ≤ k → k.toNat ≤ n → k ≤ 1000000000 → t.size + k.toNat ≤ 2000000000 → ∃ t', F43.l0 (k, t) = some t' ∧ t'.size ≤ 2000000000
  | n, k, t, hk, hn, hk2, ht => by
    by_cases h0 : k > 0
    · cases n with
      | zero => omega
      | succ n =>
        have hs : (strRow (U := uni) 4 ((Go.IntKind.wrap (Go.IntKind.u8 ) (Go.IntKind.wrap (Go.IntKind.i64 ) (48 + (Int.tmod k 10)))) :: [])).size = 1 := by
          unfold strRow; rw [strOfNums_size]; rfl
        have hd : 0 ≤ Int.tdiv k 10 ∧ Int.tdiv k 10 < k := by rw [Int.tdiv_eq_ediv_of_nonneg hk]; omega
        have w : Go.IntKind.wrap .i64 (Int.tdiv k 10) = Int.tdiv k 10 := w64 (by omega) (by omega)
        obtain ⟨t', h1, h2⟩ := F43.l0_ok n (Int.tdiv k 10) (strRow (U := uni) 4 ((Go.IntKind.wrap (Go.IntKind.u8 ) (Go.IntKind.wrap (Go.IntKind.i64 ) (48 + (Int.tmod k 10)))) :: []) ++ t) hd.1 (by omega) (by omega) (by rw [ByteArray.size_append, hs]; omega)
        refine ⟨t', ?_, h2⟩
        rw [← h1]
        have d : decide (((strRow (U := uni) 4 ((Go.IntKind.wrap (Go.IntKind.u8 ) (Go.IntKind.wrap (Go.IntKind.i64 ) (48 + (Int.tmod k 10)))) :: [])).size + t.size) ≤ 274877906944) = true := dT (by rw [hs]; omega)
        unfold F43.l0
        exact lim_in (by simp only [F43.l0.b, dT h0, cT, d, w])
    · exact ⟨t, by unfold F43.l0; exact lim_out (by simp only [F43.l0.b, dF h0, cF]), by omega⟩

theorem F43.ok (k : Int) (hk : 0 ≤ k) (hk2 : k ≤ 1000000000) : ∃ t, F43.F k = some t := by
  by_cases h0 : k ≤ 0
  · exact ⟨_, by simp only [F43.F, dT h0, cT]; rfl⟩
  · have hz : (ByteArray.mk (Array.mk ([] : List UInt8))).size = 0 := rfl
    obtain ⟨t, h1, h2⟩ := F43.l0_ok k.toNat k (ByteArray.mk (Array.mk ([] : List UInt8))) hk (Nat.le_refl _) hk2 (by rw [hz]; omega)
    have d : decide (((ByteArray.size (ByteArray.mk (Array.mk (109 :: [])))) + (ByteArray.size t)) ≤ 274877906944) = true := dT (by rw [show (ByteArray.mk (Array.mk ((109 : UInt8) :: []))).size = 1 from rfl]; omega)
    exact ⟨_, by simp only [F43.F, dF h0, cF, h1, bS, d, cT]; rfl⟩

def totM : List S54 → Int
  | [] => 0
  | x :: l => 2 + 4 * (x.f2.length : Int) + totM l
theorem totM_nn : ∀ l : List S54, 0 ≤ totM l
  | [] => by simp [totM]
  | x :: l => by have := totM_nn l; simp only [totM]; omega

theorem F18.l0_ok (l : List S54) (h : l.length ≤ 1048576) (h2 : ∀ x ∈ l, x.f2.length ≤ 1048576) : ∀ (n i : Nat) (k : Int) (row : List S54), i + n = l.length → row.length = l.length → (∀ j, i ≤ j → row.getD j z54 = l.getD j z54) → 0 ≤ k → k + totM (l.drop i) ≤ 100000000 →
    ∃ row', F18.l0 (k, (i : Int), row) = some (k + totM (l.drop i), row')
  | 0, i, k, row, hi, hr, hj, hk, hk2 => by
    rw [List.drop_eq_nil_of_le (by omega)]
    have d : decide ((i : Int) < (row.length : Int)) = false := dF (by omega)
    exact ⟨row, by unfold F18.l0; exact lim_out (by simp only [F18.l0.b, d, cF, totM, Int.add_zero])⟩
  | n + 1, i, k, row, hi, hr, hj, hk, hk2 => by
    have hlt : i < l.length := by omega
    rw [drop_cons hlt] at hk2 ⊢
    simp only [totM] at hk2 ⊢
    have hd := totM_nn (l.drop (i + 1))
    have hg : l.getD i z54 = l[i] := getD_lt hlt
    generalize hx : l[i] = x at hk2 hg ⊢
    have hxl : x.f2.length ≤ 1048576 := h2 x (by rw [← hx]; exact List.getElem_mem hlt)
    have hg2 : row.getD i z54 = x := by rw [hj i (Nat.le_refl _), hg]
    obtain ⟨t, ht⟩ := F43.ok k hk (by omega)
    have w1 : Go.IntKind.wrap .i64 (k + 1) = k + 1 := w64 (by omega) (by omega)
    have w2 : Go.IntKind.wrap .i64 (k + 1 + 1) = k + 1 + 1 := w64 (by omega) (by omega)
    have w : Go.IntKind.wrap .i64 ((i : Int) + 1) = ((i + 1 : Nat) : Int) := by rw [w64 (by omega) (by omega)]; rfl
    have e44 := F44.ok x.f2 (k + 1 + 1) hxl (by omega) (by omega)
    have d1 : ∀ r : List S54, r.length = l.length → decide ((i : Int) < (r.length : Int)) = true := fun r hr => dT (by omega)
    have d2 : decide ((0 : Int) ≤ (i : Int)) = true := dT (by omega)
    have hrl : i < row.length := by omega
    obtain ⟨row', h3⟩ := F18.l0_ok l h h2 n (i + 1) (k + (2 + 4 * (x.f2.length : Int))) (row.set i ⟨t, k + 1, mkL g69 (fun _ => 4) (k + 1 + 1) x.f2⟩) (by omega) (by simpa using hr) (fun j hj' => by rw [getD_set_ne (by omega)]; exact hj j (by omega)) (by omega) (by omega)
    refine ⟨row', ?_⟩
    rw [show k + (2 + 4 * (x.f2.length : Int) + totM (l.drop (i + 1))) = k + (2 + 4 * (x.f2.length : Int)) + totM (l.drop (i + 1)) by omega, ← h3]
    unfold F18.l0
    refine lim_in ?_
    simp only [F18.l0.b, d1 row hr, ht, bS, d2, Bool.and_self, cT, Int.toNat_natCast, hg2]
    simp only [List.length_set, d1 row hr, d2, Bool.and_self, cT, getD_set hrl, List.set_set, w1]
    simp only [w2, e44, bS, w]
    rw [show k + 1 + 1 + 4 * (x.f2.length : Int) = k + (2 + 4 * (x.f2.length : Int)) by omega]

theorem F18.ok (l : List S54) (h : l.length ≤ 1048576) (h2 : ∀ x ∈ l, x.f2.length ≤ 1048576) (ht : totM l ≤ 99999999) : ∃ r, F18.F (l, 1) = some (1 + totM l, r, ()) := by
  obtain ⟨row', e⟩ := F18.l0_ok l h h2 l.length 0 1 l (by omega) rfl (fun _ _ => rfl) (by decide) (by rw [List.drop_zero]; omega)
  rw [List.drop_zero] at e
  have e : F18.l0 (1, 0, l) = some (1 + totM l, row') := e
  exact ⟨row', by simp only [F18.F, e, bS]⟩

/- sizes -/
def totJ : List S64 → Int
  | [] => 0
  | x :: l => (x.f0.size : Int) + (x.f2.length : Int) + totJ l
theorem totJ_nn : ∀ l : List S64, 0 ≤ totJ l
  | [] => by simp [totJ]
  | x :: l => by have := totJ_nn l; simp only [totJ]; omega

theorem F50.ok (l : List S69) (k : Int) (h : (l.length : Int) ≤ 9223372036854775807) (hk : 0 ≤ k) (hk2 : k ≤ 1048576) : F50.F (l, k) = some (if k - l.length < 0 then -1 else k - l.length) := by
  have w : Go.IntKind.wrap .i64 (k - (l.length : Int)) = k - l.length := w64 (by omega) (by omega)
  by_cases h0 : k - (l.length : Int) < 0
  · simp only [F50.F, w, dT h0, cT, if_pos h0]
  · simp only [F50.F, w, dF h0, cF, if_neg h0]

theorem F31.ok (x : S64) (k : Int) (h : (x.f0.size : Int) ≤ 9223372036854775807) (h2 : (x.f2.length : Int) ≤ 9223372036854775807) (hk : 0 ≤ k) (hk2 : k ≤ 1048576) : F31.F ((x.f0, x.f1, x.f2), k) = some (if k - x.f0.size - x.f2.length < 0 then -1 else k - x.f0.size - x.f2.length) := by
  have w : Go.IntKind.wrap .i64 (k - (x.f0.size : Int)) = k - x.f0.size := w64 (by omega) (by omega)
  have m1 : decide ((-1 : Int) < 0) = true := rfl
  by_cases h0 : k - (x.f0.size : Int) < 0
  · rw [if_pos (by omega)]; simp only [F31.F, w, dT h0, cT]
  · have e := F50.ok x.f2 (k - x.f0.size) h2 (by omega) (by omega)
    by_cases h1 : k - (x.f0.size : Int) - x.f2.length < 0
    · rw [if_pos h1] at e ⊢; simp only [F31.F, w, dF h0, cF, e, bS, m1, cT]
    · rw [if_neg h1] at e ⊢; simp only [F31.F, w, dF h0, cF, e, bS, dF h1]

theorem F7.l0_ok (l : List S64) (hl : l.length ≤ 1048576) (h : ∀ x ∈ l, (x.f0.size : Int) ≤ 9223372036854775807 ∧ (x.f2.length : Int) ≤ 9223372036854775807) : ∀ (n i : Nat) (k : Int), i + n = l.length → 0 ≤ k → k ≤ 1048576 →
    F7.l0 (k, (i : Int), l) = some (if k - totJ (l.drop i) < 0 then .inl (-1) else .inr (k - totJ (l.drop i)))
  | 0, i, k, hi, hk, hk2 => by
    rw [List.drop_eq_nil_of_le (by omega)]
    have d : decide ((i : Int) < (l.length : Int)) = false := dF (by omega)
    simp only [totJ, Int.sub_zero]
    rw [if_neg (by omega)]
    unfold F7.l0; exact lim_out (by simp only [F7.l0.b, d, cF])
  | n + 1, i, k, hi, hk, hk2 => by
    have hlt : i < l.length := by omega
    rw [drop_cons hlt]
    have hd := totJ_nn (l.drop (i + 1))
    have hg : l.getD i z64 = l[i] := getD_lt hlt
    have hx2 := h l[i] (List.getElem_mem hlt)
    generalize hx : l[i] = x at hg hx2 ⊢
    rw [show totJ (x :: l.drop (i + 1)) = (x.f0.size : Int) + (x.f2.length : Int) + totJ (l.drop (i + 1)) from rfl]
    have d : decide ((i : Int) < (l.length : Int)) = true := dT (by omega)
    have d2 : decide ((0 : Int) ≤ (i : Int)) = true := dT (by omega)
    have w : Go.IntKind.wrap .i64 ((i : Int) + 1) = ((i + 1 : Nat) : Int) := by rw [w64 (by omega) (by omega)]; rfl
    have e := F31.ok x k hx2.1 hx2.2 hk hk2
    by_cases h0 : k - (x.f0.size : Int) - x.f2.length < 0
    · rw [if_pos h0] at e
      rw [if_pos (by omega)]
      have m1 : decide ((-1 : Int) < 0) = true := rfl
      unfold F7.l0; exact lim_out (by simp only [F7.l0.b, d, d2, Bool.and_self, cT, Int.toNat_natCast, hg, e, bS, m1])
    · rw [if_neg h0] at e
      have rc := F7.l0_ok l hl h n (i + 1) (k - x.f0.size - x.f2.length) (by omega) (by omega) (by omega)
      rw [show k - ((x.f0.size : Int) + x.f2.length + totJ (l.drop (i + 1))) = k - x.f0.size - x.f2.length - totJ (l.drop (i + 1)) by omega, ← rc]
      unfold F7.l0; exact lim_in (by simp only [F7.l0.b, d, d2, Bool.and_self, cT, Int.toNat_natCast, hg, e, bS, dF h0, cF, w])

theorem F7.ok (l : List S64) (hl : (l.length : Int) ≤ 9223372036854775807) (h : ∀ x ∈ l, (x.f0.size : Int) ≤ 9223372036854775807 ∧ (x.f2.length : Int) ≤ 9223372036854775807) (k : Int) (hk : 0 ≤ k) (hk2 : k ≤ 1048576) :
    F7.F (l, k) = some (if k - l.length < 0 then -1 else if k - l.length - totJ l < 0 then -1 else k - l.length - totJ l) := by
  have w : Go.IntKind.wrap .i64 (k - (l.length : Int)) = k - l.length := w64 (by omega) (by omega)
  by_cases h0 : k - (l.length : Int) < 0
  · rw [if_pos h0]; simp only [F7.F, w, dT h0, cT]
  · rw [if_neg h0]
    have e := F7.l0_ok l (by omega) h l.length 0 (k - l.length) (by omega) (by omega) (by omega)
    rw [List.drop_zero] at e
    have e : F7.l0 (k - l.length, 0, l) = _ := e
    by_cases h1 : k - (l.length : Int) - totJ l < 0
    · rw [if_pos h1] at e ⊢; simp only [F7.F, w, dF h0, cF, e, bS]
    · rw [if_neg h1] at e ⊢; simp only [F7.F, w, dF h0, cF, e, bS]

theorem totJ_mem : ∀ {l : List S64} {x : S64}, x ∈ l → (x.f0.size : Int) + (x.f2.length : Int) ≤ totJ l
  | y :: l, x, h => by
    simp only [totJ]
    have := totJ_nn l
    rcases List.mem_cons.1 h with rfl | h
    · omega
    · have := totJ_mem h; omega
theorem totM_le : ∀ l : List S64, totM (l.map c64) ≤ 2 * (l.length : Int) + 4 * totJ l
  | [] => by simp [totM, totJ]
  | x :: l => by
    have := totM_le l
    simp only [List.map_cons, totM, totJ, c64, List.length_cons]
    omega

theorem planR_len (jobs : List S54) (S L : Int) : ∀ (f : Nat) (ms : List S71) (nx en : List Int) (out : List S56), (planR jobs S L f ms nx en out).length ≤ out.length + f
  | 0, ms, nx, en, out => by simp [planR]
  | f + 1, ms, nx, en, out => by
    simp only [planR]
    split
    · omega
    · refine Nat.le_trans (planR_len jobs S L f _ _ _ _) ?_
      simp; omega
theorem planA_len (M S L : Int) (jobs : List S54) : (planA M S L jobs).1.length ≤ 161 := by
  unfold planA
  split
  · simp
  · split
    · simp
    · exact Nat.le_trans (planR_len _ _ _ _ _ _ _ _) (by simp)

theorem F4.law_of (M S L : Int) (l : List S64) (hl : (l.length : Int) ≤ 9223372036854775807) (h : ∀ x ∈ l, (x.f0.size : Int) ≤ 9223372036854775807 ∧ (x.f2.length : Int) ≤ 9223372036854775807) : F4.F ((M, S, L), l) = some true := by
  have e7 := F7.ok l hl h 1048576 (by decide) (by decide)
  have m1 : decide ((-1 : Int) < 0) = true := rfl
  have e10 : F10.F (M, S, L) = some (M, S, L) := rfl
  by_cases h0 : 1048576 - (l.length : Int) < 0
  · rw [if_pos h0] at e7; simp only [F4.F, e7, bS, m1, cT]
  rw [if_neg h0] at e7
  by_cases h1 : 1048576 - (l.length : Int) - totJ l < 0
  · rw [if_pos h1] at e7; simp only [F4.F, e7, bS, m1, cT]
  rw [if_neg h1] at e7
  have hx : ∀ x ∈ l, x.f2.length ≤ 1048576 := fun x hx => by have := totJ_mem hx; omega
  have hx2 : ∀ x ∈ l.map c64, x.f2.length ≤ 1048576 := fun x hx' => by
    obtain ⟨y, hy, rfl⟩ := List.mem_map.1 hx'
    exact hx y hy
  have e11 := F11.ok l (by omega) hx
  have hp := F16.ok M S L (l.map c64)
  have hpl := planA_len M S L (l.map c64)
  generalize planA M S L (l.map c64) = q at hp hpl
  obtain ⟨q1, q2⟩ := q
  dsimp only at hpl
  have e15 := F15.ok q1 (by omega)
  have e14 := F14.ok (l.map c64) (by simp; omega) hx2
  have htm := totM_le l
  have hnn := totM_nn (l.map c64)
  obtain ⟨r, e18⟩ := F18.ok (l.map c64) (by simp; omega) hx2 (by omega)
  have e19 := F19.ok q1 1 (by omega) (by decide) (by decide)
  have e20 := F20.ok q1 1 (by omega) (by decide) (by decide)
  have d1 : decide (1 + totM (l.map c64) < 0) = false := dF (by omega)
  have d2 : decide (1 + 6 * (q1.length : Int) < 0) = false := dF (by omega)
  have n1 : (q2 != q2) = false := nF rfl
  have n2 : (1 + 6 * (q1.length : Int) != 1 + 6 * (q1.length : Int)) = false := nF rfl
  simp only [F4.F, e7, dF h1, cF, bS, e10, e11, hp.1, hp.2, e15, e14, e18, d1, Bool.not_true, Bool.not_false, cT, n1, Bool.or_self, e19, e20, d2, n2]

end Go.Proofs.YtchohkelpjfpcaaDoor.AX

/- Plans that are handed in: what is asked of a slot. No conditions. -/
namespace Go.Proofs.YtchohkelpjfpcaaDoor.AX
open Go

def tP (jobs : List S54) (x : S56) : S69 := (jobs.getD x.f0.toNat z54).f2.getD x.f1.toNat z69
def outP (jobs : List S54) (x : S56) : Bool := ((((decide (x.f0 < 0)) || (decide (x.f0 ≥ (jobs.length : Int)))) || (decide (x.f1 < 0))) || (decide (x.f1 ≥ ((jobs.getD x.f0.toNat z54).f2.length : Int))))
def badP (jobs : List S54) (x : S56) : Bool := outP jobs x || ((tP jobs x).f0 != x.f2)
def sameP (x : S56) (p : S56) : Bool := (x.f0 == p.f0) && (x.f1 == p.f1)
def prevP (x : S56) (p : S56) : Bool := (x.f0 == p.f0) && (x.f1 - 1 == p.f1)
def aheadP (pre : List S56) (x : S56) : Bool := if x.f1 > 0 then (match pre.find? (prevP x) with | none => false | some p => decide (p.f4 ≤ x.f3)) else true
def chkP (jobs : List S54) (S L : Int) (pre : List S56) (ms : List S71) (x : S56) : Int ⊕ List S71 :=
  if badP jobs x = true then .inl 8
  else if pre.any (sameP x) = true then .inl 7
  else if ((decide (x.f3 < 0)) || (decide (x.f3 > 1000000000))) = true then .inl 5
  else if (!aheadP pre x || decide (x.f3 < (ms.getD x.f2.toNat z71).f0)) = true then .inl 13
  else if freshR L (ms.getD x.f2.toNat z71) (tP jobs x) ≠ x.f5 then .inl 16
  else if x.f4 ≠ toR S x.f3 (tP jobs x) x.f5 then .inl 19
  else .inr (ms.set x.f2.toNat ⟨x.f4, (tP jobs x).f2, wearR (ms.getD x.f2.toNat z71) (tP jobs x) x.f5⟩)

/-- The slots so far, the machines. -/
structure PInv (M S L : Int) (jobs : List S54) (pre : List S56) (ms : List S71) : Prop where
  ok : ShopOk M S L jobs
  lm : ms.length = M.toNat
  bm : ∀ i, i < ms.length → 0 ≤ (ms.getD i z71).f0
  uq : pre.Pairwise (fun p q => ¬ (q.f0 = p.f0 ∧ q.f1 = p.f1))
  st : ∀ p ∈ pre, 0 ≤ p.f1

section
variable {M S L : Int} {jobs : List S54} {pre plan : List S56} {ms : List S71} {x : S56} {i : Nat}

theorem badP_no (hok : ShopOk M S L jobs) (h : badP jobs x = false) : 0 ≤ x.f0 ∧ x.f0 < jobs.length ∧ 0 ≤ x.f1 ∧ x.f1 < ((jobs.getD x.f0.toNat z54).f2.length : Int) ∧ x.f1 < 8 ∧ (tP jobs x).f0 = x.f2 ∧ 0 ≤ x.f2 ∧ x.f2 < M ∧ 1 ≤ (tP jobs x).f1 ∧ (tP jobs x).f1 ≤ 1000 := by
  unfold badP outP at h
  simp only [Bool.or_eq_false_iff, decide_eq_false_iff_not, bne_eq_false_iff_eq] at h
  obtain ⟨⟨⟨⟨h1, h2⟩, h3⟩, h4⟩, h5⟩ := h
  have hj : x.f0.toNat < jobs.length := by omega
  have hjm := hok.job (jobs.getD x.f0.toNat z54) (by rw [getD_lt hj]; exact List.getElem_mem hj)
  have e := getD_lt (l := (jobs.getD x.f0.toNat z54).f2) (d := z69) (i := x.f1.toNat) (by omega)
  have hx := hjm.2.2.2.2 (tP jobs x) (by unfold tP; rw [e]; exact List.getElem_mem _)
  have := hjm.2.1
  refine ⟨by omega, by omega, by omega, by omega, by omega, h5, by omega, by omega, by omega, by omega⟩

theorem toR_eq (hok : ShopOk M S L jobs) {t : S69} (h1 : 1 ≤ t.f1) (h2 : t.f1 ≤ 1000) {f : Int} (h3 : 0 ≤ f) (h4 : f ≤ 1000000000) (fr : Bool) :
    toR S f t fr = (bif fr then f + t.f1 + S else f + t.f1) ∧ Go.IntKind.wrap .i64 (f + (bif fr then Go.IntKind.wrap .i64 (t.f1 + S) else t.f1)) = toR S f t fr := by
  have := hok.s1
  have := hok.s2
  unfold toR
  rw [w64 (x := f + t.f1) (by omega) (by omega), w64 (x := f + t.f1 + S) (by omega) (by omega), w64 (x := t.f1 + S) (by omega) (by omega)]
  cases fr
  · simp only [cond_false]; exact ⟨trivial, w64 (by omega) (by omega)⟩
  · simp only [cond_true]; exact ⟨trivial, by rw [w64 (by omega) (by omega)]; omega⟩

theorem chk_next (h : PInv M S L jobs pre ms) {ms' : List S71} (hc : chkP jobs S L pre ms x = .inr ms') : PInv M S L jobs (pre ++ [x]) ms' := by
  unfold chkP at hc
  split at hc
  · cases hc
  · rename_i hb
    split at hc
    · cases hc
    · rename_i hs
      split at hc
      · cases hc
      · rename_i hr
        split at hc
        · cases hc
        · split at hc
          · cases hc
          · split at hc
            · cases hc
            · rename_i hto
              injection hc with hc
              subst hc
              have hb := badP_no h.ok (by simpa using hb)
              simp only [Bool.or_eq_true, decide_eq_true_eq, not_or] at hr
              have ht := (toR_eq h.ok hb.2.2.2.2.2.2.2.2.1 hb.2.2.2.2.2.2.2.2.2 (f := x.f3) (by omega) (by omega) x.f5).1
              have hto : x.f4 = toR S x.f3 (tP jobs x) x.f5 := by simpa using hto
              have hs1 := h.ok.s1
              refine ⟨h.ok, by simp [h.lm], fun i hi => ?_, ?_, fun p hp => ?_⟩
              · refine getD_set_cases (fun y : S71 => 0 ≤ y.f0) ?_ (h.bm i (by simpa using hi))
                show 0 ≤ x.f4
                rw [hto, ht]
                cases x.f5 <;> simp only [cond_true, cond_false] <;> omega
              · rw [List.pairwise_append]
                refine ⟨h.uq, List.pairwise_singleton _ _, fun p hp q hq => ?_⟩
                simp at hq; subst hq
                intro ⟨e1, e2⟩
                apply hs
                rw [List.any_eq_true]
                exact ⟨p, hp, by simp [sameP, e1, e2]⟩
              · rcases List.mem_append.1 hp with hp | hp
                · exact h.st p hp
                · simp at hp; subst hp; exact hb.2.2.1

/- the reference's look at the slots so far -/
def lookG (x : S56) (a : Bool) (p : S56) : Bool ⊕ Unit :=
  if p.f0 ≠ x.f0 then .inl a else if p.f1 = x.f1 then .inr () else if p.f1 = x.f1 - 1 then .inl (decide (p.f4 ≤ x.f3)) else .inl a

theorem look_same : ∀ (l : List S56) (a : Bool), l.any (sameP x) = true → goL (lookG x) l a = .inr ()
  | [], _, h => by simp at h
  | p :: l, a, h => by
    rw [goL]
    simp only [List.any_cons, Bool.or_eq_true] at h
    by_cases h1 : p.f0 = x.f0
    · by_cases h2 : p.f1 = x.f1
      · have : lookG x a p = .inr () := by unfold lookG; rw [if_neg (by simpa using h1), if_pos h2]
        rw [this]
      · have hn : sameP x p = false := by unfold sameP; simp [h1, Ne.symm h2]
        rw [hn] at h
        have hl := h.resolve_left (by decide)
        by_cases h3 : p.f1 = x.f1 - 1
        · have : lookG x a p = .inl (decide (p.f4 ≤ x.f3)) := by unfold lookG; rw [if_neg (by simpa using h1), if_neg h2, if_pos h3]
          rw [this]; exact look_same l _ hl
        · have : lookG x a p = .inl a := by unfold lookG; rw [if_neg (by simpa using h1), if_neg h2, if_neg h3]
          rw [this]; exact look_same l _ hl
    · have hn : sameP x p = false := by unfold sameP; simp [Ne.symm h1]
      rw [hn] at h
      have : lookG x a p = .inl a := by unfold lookG; rw [if_pos h1]
      rw [this]; exact look_same l _ (h.resolve_left (by decide))

theorem look_none : ∀ (l : List S56) (a : Bool), l.Pairwise (fun p q => ¬ (q.f0 = p.f0 ∧ q.f1 = p.f1)) → l.any (sameP x) = false → goL (lookG x) l a = .inl (match l.find? (prevP x) with | none => a | some p => decide (p.f4 ≤ x.f3))
  | [], _, _, _ => rfl
  | p :: l, a, hu, h => by
    rw [goL]
    simp only [List.any_cons, Bool.or_eq_false_iff] at h
    rw [List.pairwise_cons] at hu
    by_cases h1 : p.f0 = x.f0
    · have h2 : p.f1 ≠ x.f1 := fun h2 => by have := h.1; unfold sameP at this; simp [h1, h2] at this
      by_cases h3 : p.f1 = x.f1 - 1
      · have e : lookG x a p = .inl (decide (p.f4 ≤ x.f3)) := by unfold lookG; rw [if_neg (by simpa using h1), if_neg h2, if_pos h3]
        have ep : prevP x p = true := by unfold prevP; simp [h1, h3]
        have hr : l.find? (prevP x) = none := by
          rw [List.find?_eq_none]
          intro q hq hq2
          unfold prevP at hq2
          simp only [Bool.and_eq_true, beq_iff_eq] at hq2
          exact hu.1 q hq ⟨by omega, by omega⟩
        rw [e]
        simp only [List.find?_cons, ep]
        rw [look_none l _ hu.2 h.2, hr]
      · have e : lookG x a p = .inl a := by unfold lookG; rw [if_neg (by simpa using h1), if_neg h2, if_neg h3]
        have ep : prevP x p = false := by unfold prevP; simp [h1]; omega
        rw [e]
        simp only [List.find?_cons, ep]
        exact look_none l _ hu.2 h.2
    · have e : lookG x a p = .inl a := by unfold lookG; rw [if_pos h1]
      have ep : prevP x p = false := by unfold prevP; simp [Ne.symm h1]
      rw [e]
      simp only [List.find?_cons, ep]
      exact look_none l _ hu.2 h.2

theorem look_ahead (h : PInv M S L jobs pre ms) (hs : pre.any (sameP x) = false) (h1 : 0 ≤ x.f1) : goL (lookG x) pre (x.f1 == 0) = .inl (aheadP pre x) := by
  rw [look_none pre _ h.uq hs]
  unfold aheadP
  by_cases h0 : x.f1 > 0
  · rw [if_pos h0, qF (show ¬ x.f1 = 0 by omega)]
  · rw [if_neg h0, qT (show x.f1 = 0 by omega)]
    cases hf : pre.find? (prevP x) with
    | none => rfl
    | some p =>
      have hp := List.find?_some hf
      have hm := h.st p (List.mem_of_find?_eq_some hf)
      unfold prevP at hp
      simp only [Bool.and_eq_true, beq_iff_eq] at hp
      omega

theorem F9.l2_ok (plan : List S56) (i : Nat) (hi : i ≤ plan.length) (hl : plan.length ≤ 5000) (a late : Bool) (t : S69) (hx : 0 ≤ x.f1 ∧ x.f1 < 8) : F9.l2 ((i : Int), a, late, 0, M, S, L, x.f0, x.f1, x.f2, x.f3, x.f4, x.f5, t.f0, t.f1, t.f2, t.f3, jobs, plan, ms) =
    some (Sum.elim (fun a => .inr ((i : Int), a, late, M, S, L, x.f0, x.f1, x.f2, x.f3, x.f4, x.f5, t.f0, t.f1, t.f2, t.f3, jobs, plan, ms)) (fun _ => .inl (7, (i : Int))) (goL (lookG x) (plan.take i) a)) := by
  have hlt : (plan.take i).length = i := by simp; omega
  exact lim_go (f := F9.l2.b) (fun k a => ((i : Int), a, late, (k : Int), M, S, L, x.f0, x.f1, x.f2, x.f3, x.f4, x.f5, t.f0, t.f1, t.f2, t.f3, jobs, plan, ms)) (plan.take i) z56 (lookG x) (fun _ => True) (z := fun a => .inr ((i : Int), a, late, M, S, L, x.f0, x.f1, x.f2, x.f3, x.f4, x.f5, t.f0, t.f1, t.f2, t.f3, jobs, plan, ms)) (o := fun _ => .inl (7, (i : Int))) a trivial (fun _ _ _ _ _ _ => trivial) (fun k a hk _ => by
    rw [hlt] at hk
    rw [getD_take hk hi]
    have d1 : decide ((k : Int) < (i : Int)) = true := dT (by omega)
    have d2 : decide ((0 : Int) ≤ (k : Int)) = true := dT (by omega)
    have d3 : decide ((k : Int) < (plan.length : Int)) = true := dT (by omega)
    have w : Go.IntKind.wrap .i64 ((k : Int) + 1) = ((k + 1 : Nat) : Int) := by rw [w64 (by omega) (by omega)]; rfl
    have w2 : Go.IntKind.wrap .i64 (x.f1 - 1) = x.f1 - 1 := w64 (by omega) (by omega)
    generalize hp : plan.getD k z56 = p
    unfold lookG
    by_cases h1 : p.f0 = x.f0
    · rw [if_neg (by simpa using h1)]
      by_cases h2 : p.f1 = x.f1
      · rw [if_pos h2]
        simp only [F9.l2.b, d1, d2, d3, Bool.and_self, cT, Int.toNat_natCast, hp, nF h1, cF, qT h2]
      · rw [if_neg h2]
        by_cases h3 : p.f1 = x.f1 - 1
        · rw [if_pos h3]
          simp only [F9.l2.b, d1, d2, d3, Bool.and_self, cT, Int.toNat_natCast, hp, nF h1, cF, qF h2, w2, qT h3, w]
        · rw [if_neg h3]
          simp only [F9.l2.b, d1, d2, d3, Bool.and_self, cT, Int.toNat_natCast, hp, nF h1, cF, qF h2, w2, qF h3, w]
    · rw [if_pos h1]
      simp only [F9.l2.b, d1, d2, d3, Bool.and_self, cT, Int.toNat_natCast, hp, nT h1, w])
    (fun a _ => by
      rw [hlt]
      have d1 : decide ((i : Int) < (i : Int)) = false := dF (by omega)
      simp only [F9.l2.b, d1, cF])
/-- What comes of the slots: a code with a slot's number, or none. -/
def codeP (jobs : List S54) (S L : Int) : List S56 → List S71 → List S56 → Int → Option (Int × Int)
  | _, _, [], _ => none
  | pre, ms, x :: l, i => match chkP jobs S L pre ms x with
    | .inl c => some (c, i)
    | .inr ms' => codeP jobs S L (pre ++ [x]) ms' l (i + 1)

theorem mS (b : Bool) : (!b || b) = true := by cases b <;> rfl

/-- The reference's round. -/
theorem F9.round (h : PInv M S L jobs (plan.take i) ms) (hi : i < plan.length) (hl : plan.length ≤ 5000) : F9.l0.b ((i : Int), M, S, L, jobs, plan, ms) =
    some (match chkP jobs S L (plan.take i) ms (plan.getD i z56) with | .inl c => .inr (.inl (c, (i : Int))) | .inr ms' => .inl (((i + 1 : Nat) : Int), M, S, L, jobs, plan, ms')) := by
  have d : decide ((i : Int) < (plan.length : Int)) = true := dT (by omega)
  have d2 : decide ((0 : Int) ≤ (i : Int)) = true := dT (by omega)
  have w : Go.IntKind.wrap .i64 ((i : Int) + 1) = ((i + 1 : Nat) : Int) := by rw [w64 (by omega) (by omega)]; rfl
  have hok := h.ok
  have e2 := fun x a late t hx => F9.l2_ok (M := M) (S := S) (L := L) (jobs := jobs) (ms := ms) (x := x) plan i (by omega) hl a late t hx
  generalize hx : plan.getD i z56 = x
  unfold chkP
  cases hb : badP jobs x with
  | true =>
    rw [if_pos rfl]
    have hb' := hb
    unfold badP outP at hb'
    cases h3 : (((decide (x.f0 < 0)) || (decide (x.f0 ≥ (jobs.length : Int)))) || (decide (x.f1 < 0))) with
    | true => simp only [F9.l0.b, d, d2, Bool.and_self, cT, Int.toNat_natCast, hx, h3, Bool.not_true, Bool.not_false, Bool.true_or]
    | false =>
      have h3' := h3
      simp only [Bool.or_eq_false_iff, decide_eq_false_iff_not] at h3'
      have d3 : decide (0 ≤ x.f0) = true := dT (by omega)
      have d4 : decide (x.f0 < (jobs.length : Int)) = true := dT (by omega)
      cases h4 : decide (x.f1 ≥ ((jobs.getD x.f0.toNat z54).f2.length : Int)) with
      | true => simp only [F9.l0.b, d, d2, Bool.and_self, cT, Int.toNat_natCast, hx, h3, h4, d3, d4, Bool.not_true, Bool.not_false, Bool.true_or, Bool.false_or, Bool.or_true]
      | false =>
        have h4' := of_decide_eq_false h4
        have d5 : decide (0 ≤ x.f1) = true := dT (by omega)
        have d6 : decide (x.f1 < ((jobs.getD x.f0.toNat z54).f2.length : Int)) = true := dT (by omega)
        rw [h3, h4] at hb'
        simp only [Bool.or_self, Bool.false_or] at hb'
        unfold tP at hb'
        simp only [F9.l0.b, d, d2, Bool.and_self, cT, Int.toNat_natCast, hx, h3, h4, d3, d4, d5, d6, Bool.not_true, Bool.not_false, Bool.true_or, Bool.false_or, Bool.or_true, Bool.or_self, hb']
  | false =>
    rw [if_neg (by decide)]
    obtain ⟨b1, b2, b3, b4, b5, b6, b7, b8, b9, b10⟩ := badP_no hok hb
    have hb' := hb
    unfold badP outP at hb'
    simp only [Bool.or_eq_false_iff] at hb'
    obtain ⟨⟨hb1, hb2⟩, hb3⟩ := hb'
    have hb1 : (((decide (x.f0 < 0)) || (decide (x.f0 ≥ (jobs.length : Int)))) || (decide (x.f1 < 0))) = false := by simp only [Bool.or_eq_false_iff]; exact hb1
    have d3 : decide (0 ≤ x.f0) = true := dT b1
    have d4 : decide (x.f0 < (jobs.length : Int)) = true := dT b2
    have d5 : decide (0 ≤ x.f1) = true := dT b3
    have d6 : decide (x.f1 < ((jobs.getD x.f0.toNat z54).f2.length : Int)) = true := dT b4
    have hlm := h.lm
    have d7 : decide (0 ≤ x.f2) = true := dT b7
    have d8 : decide (x.f2 < (ms.length : Int)) = true := dT (by omega)
    have ht : (jobs.getD x.f0.toNat z54).f2.getD x.f1.toNat z69 = tP jobs x := rfl
    have e2 := e2 x (x.f1 == 0) (decide (x.f3 ≥ (ms.getD x.f2.toNat z71).f0)) (tP jobs x) ⟨b3, b5⟩
    have e34 := F34.ok (ms.getD x.f2.toNat z71) (tP jobs x) L
    have e35 := fun fr to => F35.ok (ms.getD x.f2.toNat z71) (tP jobs x) fr to
    cases hs : (plan.take i).any (sameP x) with
    | true =>
      rw [if_pos rfl]
      rw [look_same _ _ hs, Sum.elim_inr] at e2
      simp only [F9.l0.b, d, d2, Bool.and_self, cT, cF, Int.toNat_natCast, hx, hb1, hb2, ht, hb3, d3, d4, d5, d6, d7, d8, Bool.not_true, Bool.not_false, Bool.or_true, Bool.or_self, e2, bS]
    | false =>
      rw [if_neg (by decide)]
      rw [look_ahead h hs b3, Sum.elim_inl] at e2
      cases hr : ((decide (x.f3 < 0)) || (decide (x.f3 > 1000000000))) with
      | true =>
        rw [if_pos rfl]
        simp only [F9.l0.b, d, d2, Bool.and_self, cT, cF, Int.toNat_natCast, hx, hb1, hb2, ht, hb3, d3, d4, d5, d6, d7, d8, Bool.not_true, Bool.not_false, Bool.or_true, Bool.or_self, e2, bS, hr]
      | false =>
        rw [if_neg (by decide)]
        have hr' := hr
        simp only [Bool.or_eq_false_iff, decide_eq_false_iff_not] at hr'
        have hlate : (!decide (x.f3 ≥ (ms.getD x.f2.toNat z71).f0)) = decide (x.f3 < (ms.getD x.f2.toNat z71).f0) := by
          by_cases hc : x.f3 ≥ (ms.getD x.f2.toNat z71).f0
          · rw [dT hc, dF (by omega)]; rfl
          · rw [dF hc, dT (by omega)]; rfl
        cases ha : (!aheadP (plan.take i) x || decide (x.f3 < (ms.getD x.f2.toNat z71).f0)) with
        | true =>
          rw [if_pos rfl]
          simp only [F9.l0.b, d, d2, Bool.and_self, cT, cF, Int.toNat_natCast, hx, hb1, hb2, ht, hb3, d3, d4, d5, d6, d7, d8, Bool.not_true, Bool.not_false, Bool.or_true, Bool.or_self, e2, bS, hr, hlate, ha]
        | false =>
          rw [if_neg (by decide)]
          have hge : (ms.getD x.f2.toNat z71).f0 ≤ x.f3 := by
            simp only [Bool.or_eq_false_iff, decide_eq_false_iff_not] at ha; omega
          by_cases hf : freshR L (ms.getD x.f2.toNat z71) (tP jobs x) = x.f5
          · rw [if_neg (by simpa using hf)]
            have hfe : (!(freshR L (ms.getD x.f2.toNat z71) (tP jobs x) == x.f5)) = false := by rw [hf]; simp
            obtain ⟨t1, t2⟩ := toR_eq hok b9 b10 (f := x.f3) (by omega) (by omega) x.f5
            by_cases hto : x.f4 = toR S x.f3 (tP jobs x) x.f5
            · rw [if_neg (by simpa using hto)]
              have hs1 := hok.s1
              have hmax : (if x.f4 > (ms.getD x.f2.toNat z71).f0 then x.f4 else (ms.getD x.f2.toNat z71).f0) = x.f4 := by
                rw [if_pos]
                rw [hto, t1]
                cases x.f5 <;> simp only [cond_true, cond_false] <;> omega
              have e35 := e35 x.f5 x.f4
              rw [hmax] at e35
              have hcond : ∀ v : Int, v = (bif x.f5 then Go.IntKind.wrap .i64 ((tP jobs x).f1 + S) else (tP jobs x).f1) → (x.f4 != Go.IntKind.wrap .i64 (x.f3 + v)) = false := fun v hv => by
                subst hv; rw [t2]; exact nF hto
              cases h5 : x.f5 with
              | true =>
                have hn := hcond _ rfl
                rw [h5, cond_true] at hn
                rw [h5] at hf e35 hfe e2
                rw [hf] at e34
                simp only [F9.l0.b, F9.t33, d, d2, Bool.and_self, cT, cF, Int.toNat_natCast, hx, hb1, hb2, ht, hb3, d3, d4, d5, d6, d7, d8, Bool.not_true, Bool.not_false, Bool.or_true, Bool.or_self, e2, bS, hr, hlate, ha, e34, h5, beq_self_eq_true, hn, e35, w]
              | false =>
                have hn := hcond _ rfl
                rw [h5, cond_false] at hn
                rw [h5] at hf e35 hfe e2
                rw [hf] at e34
                simp only [F9.l0.b, F9.t33, d, d2, Bool.and_self, cT, cF, Int.toNat_natCast, hx, hb1, hb2, ht, hb3, d3, d4, d5, d6, d7, d8, Bool.not_true, Bool.not_false, Bool.or_true, Bool.or_self, e2, bS, hr, hlate, ha, e34, h5, beq_self_eq_true, hn, e35, w]
            · rw [if_pos hto]
              have hcond : ∀ v : Int, v = (bif x.f5 then Go.IntKind.wrap .i64 ((tP jobs x).f1 + S) else (tP jobs x).f1) → (x.f4 != Go.IntKind.wrap .i64 (x.f3 + v)) = true := fun v hv => by
                subst hv; rw [t2]; exact nT hto
              cases h5 : x.f5 with
              | true =>
                have hn := hcond _ rfl
                rw [h5, cond_true] at hn
                rw [h5] at hf e2
                rw [hf] at e34
                simp only [F9.l0.b, F9.t33, d, d2, Bool.and_self, cT, cF, Int.toNat_natCast, hx, hb1, hb2, ht, hb3, d3, d4, d5, d6, d7, d8, Bool.not_true, Bool.not_false, Bool.or_true, Bool.or_self, e2, bS, hr, hlate, ha, e34, h5, beq_self_eq_true, hn]
              | false =>
                have hn := hcond _ rfl
                rw [h5, cond_false] at hn
                rw [h5] at hf e2
                rw [hf] at e34
                simp only [F9.l0.b, F9.t33, d, d2, Bool.and_self, cT, cF, Int.toNat_natCast, hx, hb1, hb2, ht, hb3, d3, d4, d5, d6, d7, d8, Bool.not_true, Bool.not_false, Bool.or_true, Bool.or_self, e2, bS, hr, hlate, ha, e34, h5, beq_self_eq_true, hn]
          · rw [if_pos hf]
            have hfe : (!(freshR L (ms.getD x.f2.toNat z71) (tP jobs x) == x.f5)) = true := by simpa using hf
            simp only [F9.l0.b, d, d2, Bool.and_self, cT, cF, Int.toNat_natCast, hx, hb1, hb2, ht, hb3, d3, d4, d5, d6, d7, d8, Bool.not_true, Bool.not_false, Bool.or_true, Bool.or_self, e2, bS, hr, hlate, ha, e34, hfe]
end

end Go.Proofs.YtchohkelpjfpcaaDoor.AX

/- Plans that are handed in: the program answers as the reference. No conditions. -/
namespace Go.Proofs.YtchohkelpjfpcaaDoor.AX
open Go

def c78 (p : S56) : S78 := ⟨p.f0, p.f1, p.f4⟩
theorem mhas_T (p : S78 → Bool) (l : List S78) : mhas (U := uni) 12 p l = l.any p := rfl
theorem mfind_U (p : S78 → Bool) (l : List S78) : (mfind (U := uni) 12 p l : S78) = mfT z78 p l := rfl
theorem mput_U (p : S78 → Bool) (x : S78) : ∀ l : List S78, (mput (U := uni) 12 p x l : List S78) = mpT p x l
  | [] => rfl
  | y :: r => congrArg (fun t => bif p y then x :: r else y :: t) (mput_U p x r)
theorem mpT_new {E : Type} (p : E → Bool) (x : E) : ∀ l : List E, l.any p = false → mpT p x l = l ++ [x]
  | [], _ => rfl
  | y :: r, h => by
    simp only [List.any_cons, Bool.or_eq_false_iff] at h
    simp only [mpT, h.1, cond_false, List.cons_append, mpT_new p x r h.2]

theorem any78 (x : S56) (pre : List S56) : (pre.map c78).any (fun (e : S78) => ((x.f0 == e.f0) && (x.f1 == e.f1))) = pre.any (sameP x) := by
  rw [List.any_map]; rfl
theorem any78p (x : S56) (pre : List S56) : (pre.map c78).any (fun (e : S78) => ((x.f0 == e.f0) && (x.f1 - 1 == e.f1))) = (pre.find? (prevP x)).isSome := by
  rw [List.any_map, List.isSome_find?]; rfl
theorem find78p (x : S56) (pre : List S56) {p : S56} (h : pre.find? (prevP x) = some p) : (mfT z78 (fun (e : S78) => ((x.f0 == e.f0) && (x.f1 - 1 == e.f1))) (pre.map c78)).f2 = p.f4 := by
  unfold mfT
  rw [List.find?_map]
  rw [show ((fun (e : S78) => ((x.f0 == e.f0) && (x.f1 - 1 == e.f1))) ∘ c78) = prevP x from rfl, h]
  rfl

section
variable {M S L : Int} {jobs : List S54} {plan : List S56} {ms : List S71} {i : Nat}

/-- What stands behind the test of the step ahead. -/
theorem F13.t22_ok (h : PInv M S L jobs (plan.take i) ms) {x : S56} (hb : badP jobs x = false) (hs : (plan.take i).any (sameP x) = false) (hr : 0 ≤ x.f3 ∧ x.f3 ≤ 1000000000) (n : Int) :
    F13.t22 ((i : Int), n, (i : Int), M, S, L, x.f0, x.f1, x.f2, x.f3, x.f4, x.f5, x.f0, x.f1, jobs, plan, (plan.take i).map c78, ms.map m85) = some (
      if x.f3 < (ms.getD x.f2.toNat z71).f0 then .inl (13, (i : Int))
      else if freshR L (ms.getD x.f2.toNat z71) (tP jobs x) ≠ x.f5 then .inl (16, (i : Int))
      else if x.f4 ≠ toR S x.f3 (tP jobs x) x.f5 then .inl (19, (i : Int))
      else .inr (n, (i : Int), M, S, L, jobs, plan, (plan.take i ++ [x]).map c78, (ms.set x.f2.toNat ⟨x.f4, (tP jobs x).f2, wearR (ms.getD x.f2.toNat z71) (tP jobs x) x.f5⟩).map m85)) := by
  have hok := h.ok
  obtain ⟨b1, b2, b3, b4, b5, b6, b7, b8, b9, b10⟩ := badP_no hok hb
  have hlm := h.lm
  have hx2 : x.f2.toNat < ms.length := by omega
  have d3 : decide (0 ≤ x.f0) = true := dT b1
  have d4 : decide (x.f0 < (jobs.length : Int)) = true := dT b2
  have d5 : decide (0 ≤ x.f1) = true := dT b3
  have d6 : decide (x.f1 < ((jobs.getD x.f0.toNat z54).f2.length : Int)) = true := dT b4
  have d7 : decide (0 ≤ x.f2) = true := dT b7
  have d8 : decide (x.f2 < ((ms.map m85).length : Int)) = true := dT (by rw [List.length_map]; omega)
  have ht : (jobs.getD x.f0.toNat z54).f2.getD x.f1.toNat z69 = tP jobs x := rfl
  have g : (ms.map m85).getD x.f2.toNat z85 = m85 (ms.getD x.f2.toNat z71) := at85 hx2
  have hm0 : (m85 (ms.getD x.f2.toNat z71)).f0 = (ms.getD x.f2.toNat z71).f0 := rfl
  have e40 := F40.ok ms x.f2 M S L (tP jobs x) hx2
  have hmp : mpT (fun (e : S78) => ((x.f0 == e.f0) && (x.f1 == e.f1))) (⟨x.f0, x.f1, x.f4⟩ : S78) ((plan.take i).map c78) = (plan.take i ++ [x]).map c78 := by
    rw [mpT_new _ _ _ (by rw [any78]; exact hs), List.map_append]; rfl
  have hset : ∀ (t : Int) (y : S71), (((ms.set x.f2.toNat y).map m85).set x.f2.toNat (⟨t, (((ms.set x.f2.toNat y).map m85).getD x.f2.toNat z85).f1, (((ms.set x.f2.toNat y).map m85).getD x.f2.toNat z85).f2⟩ : S85)) = (ms.set x.f2.toNat ⟨t, y.f1, y.f2⟩).map m85 := fun t y => by
    rw [at85 (by simpa using hx2), getD_set hx2]
    rw [show (⟨t, (m85 y).f1, (m85 y).f2⟩ : S85) = m85 ⟨t, y.f1, y.f2⟩ from rfl, ← List.map_set, List.set_set]
  by_cases hl : x.f3 < (ms.getD x.f2.toNat z71).f0
  · rw [if_pos hl]
    simp only [F13.t22, d7, d8, Bool.and_self, cT, g, hm0, dT hl]
  · rw [if_neg hl]
    by_cases hf : freshR L (ms.getD x.f2.toNat z71) (tP jobs x) = x.f5
    · rw [if_neg (by simpa using hf)]
      rw [hf] at e40
      have hto : ∀ b, x.f5 = b → toR S x.f3 (tP jobs x) b = (bif b then Go.IntKind.wrap .i64 (Go.IntKind.wrap .i64 (x.f3 + (tP jobs x).f1) + S) else Go.IntKind.wrap .i64 (x.f3 + (tP jobs x).f1)) := fun b _ => rfl
      by_cases h4 : x.f4 = toR S x.f3 (tP jobs x) x.f5
      · rw [if_neg (by simpa using h4)]
        cases h5 : x.f5 with
        | true =>
          rw [h5] at h4 e40
          have h4' : Go.IntKind.wrap .i64 (Go.IntKind.wrap .i64 (x.f3 + (tP jobs x).f1) + S) = x.f4 := h4.symm
          have n0 : (x.f4 != x.f4) = false := nF rfl
          simp only [F13.t22, F13.t31, d3, d4, d5, d6, d7, d8, Bool.and_self, cT, cF, g, hm0, dF hl, ht, e40, bS, h5, beq_self_eq_true, Bool.not_true, h4', n0, mput_U, hmp, hset]
        | false =>
          rw [h5] at h4 e40
          have h4' : Go.IntKind.wrap .i64 (x.f3 + (tP jobs x).f1) = x.f4 := h4.symm
          have n0 : (x.f4 != x.f4) = false := nF rfl
          simp only [F13.t22, F13.t31, d3, d4, d5, d6, d7, d8, Bool.and_self, cT, cF, g, hm0, dF hl, ht, e40, bS, h5, beq_self_eq_true, Bool.not_true, h4', n0, mput_U, hmp, hset]
      · rw [if_pos h4]
        cases h5 : x.f5 with
        | true =>
          rw [h5] at h4 e40
          have n0 : (x.f4 != Go.IntKind.wrap .i64 (Go.IntKind.wrap .i64 (x.f3 + (tP jobs x).f1) + S)) = true := nT h4
          simp only [F13.t22, F13.t31, d3, d4, d5, d6, d7, d8, Bool.and_self, cT, cF, g, hm0, dF hl, ht, e40, bS, h5, beq_self_eq_true, Bool.not_true, n0]
        | false =>
          rw [h5] at h4 e40
          have n0 : (x.f4 != Go.IntKind.wrap .i64 (x.f3 + (tP jobs x).f1)) = true := nT h4
          simp only [F13.t22, F13.t31, d3, d4, d5, d6, d7, d8, Bool.and_self, cT, cF, g, hm0, dF hl, ht, e40, bS, h5, beq_self_eq_true, Bool.not_true, n0]
    · rw [if_pos hf]
      have hfe : (!(freshR L (ms.getD x.f2.toNat z71) (tP jobs x) == x.f5)) = true := by simpa using hf
      simp only [F13.t22, F13.t31, d3, d4, d5, d6, d7, d8, Bool.and_self, cT, cF, g, hm0, dF hl, ht, e40, bS, hfe]

/-- The program's round. -/
theorem F13.round (h : PInv M S L jobs (plan.take i) ms) (hi : i < plan.length) (hl : plan.length ≤ 5000) : F13.l0.b ((plan.length : Int), (i : Int), M, S, L, jobs, plan, (plan.take i).map c78, ms.map m85) =
    some (match chkP jobs S L (plan.take i) ms (plan.getD i z56) with | .inl c => .inr (.inl (c, (i : Int))) | .inr ms' => .inl ((plan.length : Int), ((i + 1 : Nat) : Int), M, S, L, jobs, plan, (plan.take i ++ [plan.getD i z56]).map c78, ms'.map m85)) := by
  have d : decide ((i : Int) < (plan.length : Int)) = true := dT (by omega)
  have d2 : decide ((0 : Int) ≤ (i : Int)) = true := dT (by omega)
  have w : Go.IntKind.wrap .i64 ((i : Int) + 1) = ((i + 1 : Nat) : Int) := by rw [w64 (by omega) (by omega)]; rfl
  have hok := h.ok
  generalize hx : plan.getD i z56 = x
  unfold chkP
  cases hb : badP jobs x with
  | true =>
    rw [if_pos rfl]
    have hb' := hb
    unfold badP outP at hb'
    cases h3 : (((decide (x.f0 < 0)) || (decide (x.f0 ≥ (jobs.length : Int)))) || (decide (x.f1 < 0))) with
    | true => simp only [F13.l0.b, d, d2, Bool.and_self, cT, Int.toNat_natCast, hx, h3, Bool.not_true, Bool.not_false, Bool.true_or]
    | false =>
      have h3' := h3
      simp only [Bool.or_eq_false_iff, decide_eq_false_iff_not] at h3'
      have d3 : decide (0 ≤ x.f0) = true := dT (by omega)
      have d4 : decide (x.f0 < (jobs.length : Int)) = true := dT (by omega)
      cases h4 : decide (x.f1 ≥ ((jobs.getD x.f0.toNat z54).f2.length : Int)) with
      | true => simp only [F13.l0.b, d, d2, Bool.and_self, cT, Int.toNat_natCast, hx, h3, h4, d3, d4, Bool.not_true, Bool.not_false, Bool.true_or, Bool.false_or, Bool.or_true]
      | false =>
        have h4' := of_decide_eq_false h4
        have d5 : decide (0 ≤ x.f1) = true := dT (by omega)
        have d6 : decide (x.f1 < ((jobs.getD x.f0.toNat z54).f2.length : Int)) = true := dT (by omega)
        rw [h3, h4] at hb'
        simp only [Bool.or_self, Bool.false_or] at hb'
        unfold tP at hb'
        simp only [F13.l0.b, d, d2, Bool.and_self, cT, Int.toNat_natCast, hx, h3, h4, d3, d4, d5, d6, Bool.not_true, Bool.not_false, Bool.true_or, Bool.false_or, Bool.or_true, Bool.or_self, hb']
  | false =>
    rw [if_neg (by decide)]
    obtain ⟨b1, b2, b3, b4, b5, b6, b7, b8, b9, b10⟩ := badP_no hok hb
    have hb' := hb
    unfold badP outP at hb'
    simp only [Bool.or_eq_false_iff] at hb'
    obtain ⟨⟨hb1, hb2⟩, hb3⟩ := hb'
    have hb1 : (((decide (x.f0 < 0)) || (decide (x.f0 ≥ (jobs.length : Int)))) || (decide (x.f1 < 0))) = false := by simp only [Bool.or_eq_false_iff]; exact hb1
    have d3 : decide (0 ≤ x.f0) = true := dT b1
    have d4 : decide (x.f0 < (jobs.length : Int)) = true := dT b2
    have d5 : decide (0 ≤ x.f1) = true := dT b3
    have d6 : decide (x.f1 < ((jobs.getD x.f0.toNat z54).f2.length : Int)) = true := dT b4
    have ht : (jobs.getD x.f0.toNat z54).f2.getD x.f1.toNat z69 = tP jobs x := rfl
    have w1 : Go.IntKind.wrap .i64 (x.f1 - 1) = x.f1 - 1 := w64 (by omega) (by omega)
    cases hs : (plan.take i).any (sameP x) with
    | true =>
      rw [if_pos rfl]
      simp only [F13.l0.b, d, d2, Bool.and_self, cT, cF, Int.toNat_natCast, hx, hb1, hb2, ht, hb3, d3, d4, d5, d6, Bool.not_true, Bool.not_false, Bool.or_true, Bool.or_self, mhas_T, any78, hs]
    | false =>
      rw [if_neg (by decide)]
      cases hr : ((decide (x.f3 < 0)) || (decide (x.f3 > 1000000000))) with
      | true =>
        rw [if_pos rfl]
        simp only [F13.l0.b, d, d2, Bool.and_self, cT, cF, Int.toNat_natCast, hx, hb1, hb2, ht, hb3, d3, d4, d5, d6, Bool.not_true, Bool.not_false, Bool.or_true, Bool.or_self, mhas_T, any78, hs, hr]
      | false =>
        rw [if_neg (by decide)]
        have hr' := hr
        simp only [Bool.or_eq_false_iff, decide_eq_false_iff_not] at hr'
        have e22 := F13.t22_ok h hb hs ⟨by omega, by omega⟩ (plan.length : Int)
        have rest : aheadP (plan.take i) x = true → ((F13.t22 ((i : Int), (plan.length : Int), (i : Int), M, S, L, x.f0, x.f1, x.f2, x.f3, x.f4, x.f5, x.f0, x.f1, jobs, plan, (plan.take i).map c78, ms.map m85)).bind fun q => match q with
            | (.inl yt22) => (some (.inr (.inl (yt22.1, yt22.2))) : Option ((Int × Int × Int × Int × Int × (List S54) × (List S56) × (List S78) × (List S85)) ⊕ ((Int × Int) ⊕ ((List S54) × (List S56) × (List S78)))))
            | (.inr yt22) => some (.inl (yt22.1, (Go.IntKind.wrap .i64 (yt22.2.1 + 1)), yt22.2.2.1, yt22.2.2.2.1, yt22.2.2.2.2.1, yt22.2.2.2.2.2.1, yt22.2.2.2.2.2.2.1, yt22.2.2.2.2.2.2.2.1, yt22.2.2.2.2.2.2.2.2))) =
            some (match (if (!aheadP (plan.take i) x || decide (x.f3 < (ms.getD x.f2.toNat z71).f0)) = true then (.inl 13 : Int ⊕ List S71)
              else if freshR L (ms.getD x.f2.toNat z71) (tP jobs x) ≠ x.f5 then .inl 16
              else if x.f4 ≠ toR S x.f3 (tP jobs x) x.f5 then .inl 19
              else .inr (ms.set x.f2.toNat ⟨x.f4, (tP jobs x).f2, wearR (ms.getD x.f2.toNat z71) (tP jobs x) x.f5⟩)) with
              | .inl c => .inr (.inl (c, (i : Int))) | .inr ms' => .inl ((plan.length : Int), ((i + 1 : Nat) : Int), M, S, L, jobs, plan, (plan.take i ++ [x]).map c78, ms'.map m85)) := fun ha => by
          rw [e22, ha, bS]
          by_cases q1 : x.f3 < (ms.getD x.f2.toNat z71).f0
          · rw [if_pos q1, if_pos (show (!true || decide (x.f3 < (ms.getD x.f2.toNat z71).f0)) = true by rw [dT q1]; rfl)]
          · rw [if_neg q1, if_neg (show ¬ (!true || decide (x.f3 < (ms.getD x.f2.toNat z71).f0)) = true by rw [dF q1]; decide)]
            by_cases q2 : freshR L (ms.getD x.f2.toNat z71) (tP jobs x) ≠ x.f5
            · rw [if_pos q2, if_pos q2]
            · rw [if_neg q2, if_neg q2]
              by_cases q3 : x.f4 ≠ toR S x.f3 (tP jobs x) x.f5
              · rw [if_pos q3, if_pos q3]
              · rw [if_neg q3, if_neg q3]
                simp only [w]
        by_cases h1 : x.f1 > 0
        · cases hf : (plan.take i).find? (prevP x) with
          | none =>
            have ha : aheadP (plan.take i) x = false := by unfold aheadP; rw [if_pos h1, hf]
            rw [if_pos (show (!aheadP (plan.take i) x || decide (x.f3 < (ms.getD x.f2.toNat z71).f0)) = true by rw [ha]; rfl)]
            simp only [F13.l0.b, d, d2, Bool.and_self, cT, cF, Int.toNat_natCast, hx, hb1, hb2, ht, hb3, d3, d4, d5, d6, Bool.not_true, Bool.not_false, Bool.or_true, Bool.or_self, mhas_T, any78, hs, hr, dT h1, w1, any78p, hf, Option.isSome_none, Bool.true_or]
          | some p =>
            have ha : aheadP (plan.take i) x = decide (p.f4 ≤ x.f3) := by unfold aheadP; rw [if_pos h1, hf]
            have hfp := find78p x (plan.take i) hf
            by_cases hp : p.f4 ≤ x.f3
            · rw [dT hp] at ha
              have dp : decide (x.f3 < p.f4) = false := dF (by omega)
              rw [← rest ha]
              simp only [F13.l0.b, d, d2, Bool.and_self, cT, cF, Int.toNat_natCast, hx, hb1, hb2, ht, hb3, d3, d4, d5, d6, Bool.not_true, Bool.not_false, Bool.or_true, Bool.or_self, mhas_T, any78, hs, hr, dT h1, w1, any78p, hf, Option.isSome_some, mfind_U, hfp, dp]
              rfl
            · rw [dF hp] at ha
              have dp : decide (x.f3 < p.f4) = true := dT (by omega)
              rw [if_pos (show (!aheadP (plan.take i) x || decide (x.f3 < (ms.getD x.f2.toNat z71).f0)) = true by rw [ha]; rfl)]
              simp only [F13.l0.b, d, d2, Bool.and_self, cT, cF, Int.toNat_natCast, hx, hb1, hb2, ht, hb3, d3, d4, d5, d6, Bool.not_true, Bool.not_false, Bool.or_true, Bool.or_self, mhas_T, any78, hs, hr, dT h1, w1, any78p, hf, Option.isSome_some, mfind_U, hfp, dp]
        · have ha : aheadP (plan.take i) x = true := by unfold aheadP; rw [if_neg h1]
          rw [← rest ha]
          simp only [F13.l0.b, d, d2, Bool.and_self, cT, cF, Int.toNat_natCast, hx, hb1, hb2, ht, hb3, d3, d4, d5, d6, Bool.not_true, Bool.not_false, Bool.or_true, Bool.or_self, mhas_T, any78, hs, hr, dF h1]
          rfl
end

end Go.Proofs.YtchohkelpjfpcaaDoor.AX

/- Plans that are handed in: both answer the same. No conditions. -/
namespace Go.Proofs.YtchohkelpjfpcaaDoor.AX
open Go

section
variable {M S L : Int} {jobs : List S54} {plan : List S56}

theorem code_loops (hl : plan.length ≤ 5000) : ∀ (n i : Nat) (ms : List S71), i + n = plan.length → PInv M S L jobs (plan.take i) ms →
    F9.l0 ((i : Int), M, S, L, jobs, plan, ms) = some (match codeP jobs S L (plan.take i) ms (plan.drop i) i with | none => .inr (jobs, plan) | some c => .inl c) ∧
    F13.l0 ((plan.length : Int), (i : Int), M, S, L, jobs, plan, (plan.take i).map c78, ms.map m85) = some (match codeP jobs S L (plan.take i) ms (plan.drop i) i with | none => .inr (jobs, plan, plan.map c78) | some c => .inl c)
  | 0, i, ms, hi, h => by
    have d : decide ((i : Int) < (plan.length : Int)) = false := dF (by omega)
    have ht : plan.take i = plan := List.take_of_length_le (by omega)
    rw [List.drop_eq_nil_of_le (by omega), ht]
    constructor
    · unfold F9.l0; exact lim_out (by simp only [F9.l0.b, d, cF, codeP])
    · unfold F13.l0; exact lim_out (by simp only [F13.l0.b, d, cF, codeP])
  | n + 1, i, ms, hi, h => by
    have hlt : i < plan.length := by omega
    have r9 := F9.round h hlt hl
    have r13 := F13.round h hlt hl
    have hnx := fun ms' hc => chk_next (x := plan.getD i z56) (ms' := ms') h hc
    rw [drop_cons hlt]
    have hg : plan.getD i z56 = plan[i] := getD_lt hlt
    have htk : plan.take i ++ [plan[i]] = plan.take (i + 1) := by simp
    rw [hg] at r9 r13 hnx
    rw [htk] at r13 hnx
    simp only [codeP]
    rw [htk]
    generalize chkP jobs S L (plan.take i) ms plan[i] = q at r9 r13 hnx ⊢
    cases q with
    | inl c =>
      constructor
      · unfold F9.l0; exact lim_out r9
      · unfold F13.l0; exact lim_out r13
    | inr ms' =>
      obtain ⟨a, b⟩ := code_loops hl n (i + 1) ms' (by omega) (hnx ms' rfl)
      constructor
      · refine Eq.trans ?_ a
        unfold F9.l0; exact lim_in r9
      · refine Eq.trans ?_ b
        unfold F13.l0; exact lim_in r13

def sumL (jobs : List S54) : Int := jobs.foldl (fun a j => Go.IntKind.wrap .i64 (a + (j.f2.length : Int))) 0

theorem F9.l4_ok (h : jobs.length ≤ 5000) : F9.l4 (0, 0, jobs, plan) = some (sumL jobs, plan) :=
  lim_fold (f := F9.l4.b) (fun i (a : Int) => (a, (i : Int), jobs, plan)) jobs z54 (fun a j => Go.IntKind.wrap .i64 (a + (j.f2.length : Int))) (fun _ => True) (z := fun a => (a, plan)) 0 trivial (fun _ _ _ _ => trivial) (fun i a hi _ => by
    have d1 : decide ((i : Int) < (jobs.length : Int)) = true := dT (by omega)
    have d2 : decide ((0 : Int) ≤ (i : Int)) = true := dT (by omega)
    have w : Go.IntKind.wrap .i64 ((i : Int) + 1) = ((i + 1 : Nat) : Int) := by rw [w64 (by omega) (by omega)]; rfl
    simp only [F9.l4.b, d1, d2, Bool.and_self, cT, Int.toNat_natCast, w])
    (fun a _ => by
      have d1 : decide ((jobs.length : Int) < (jobs.length : Int)) = false := dF (by omega)
      simp only [F9.l4.b, d1, cF])

theorem F13.l2_ok (h : jobs.length ≤ 5000) (mp : List S78) : F13.l2 (0, (jobs.length : Int), 0, plan, mp, jobs) = some (sumL jobs, plan, mp) :=
  lim_fold (f := F13.l2.b) (fun i (a : Int) => (a, (jobs.length : Int), (i : Int), plan, mp, jobs)) jobs z54 (fun a j => Go.IntKind.wrap .i64 (a + (j.f2.length : Int))) (fun _ => True) (z := fun a => (a, plan, mp)) 0 trivial (fun _ _ _ _ => trivial) (fun i a hi _ => by
    have d1 : decide ((i : Int) < (jobs.length : Int)) = true := dT (by omega)
    have d2 : decide ((0 : Int) ≤ (i : Int)) = true := dT (by omega)
    have w : Go.IntKind.wrap .i64 ((i : Int) + 1) = ((i + 1 : Nat) : Int) := by rw [w64 (by omega) (by omega)]; rfl
    simp only [F13.l2.b, d1, d2, Bool.and_self, cT, Int.toNat_natCast, w])
    (fun a _ => by
      have d1 : decide ((jobs.length : Int) < (jobs.length : Int)) = false := dF (by omega)
      simp only [F13.l2.b, d1, cF])

/-- What is answered about a plan. -/
def planC (M S L : Int) (jobs : List S54) (plan : List S56) : Int × Int :=
  if ((decide ((jobs.length : Int) > 4096)) || (decide ((plan.length : Int) > 4096))) = true then (2, 0)
  else if shopR M S L jobs = false then (1, 0)
  else match codeP jobs S L [] (List.replicate M.toNat m0) plan 0 with
    | some c => c
    | none => if (plan.length : Int) < sumL jobs then (18, (plan.length : Int)) else (0, 0)

theorem F9.ok (M S L : Int) (jobs : List S54) (plan : List S56) : F9.F ((M, S, L), jobs, plan) = some (planC M S L jobs plan) ∧ F13.F ((M, S, L), jobs, plan) = some (planC M S L jobs plan) := by
  unfold planC
  cases h0 : ((decide ((jobs.length : Int) > 4096)) || (decide ((plan.length : Int) > 4096))) with
  | true =>
    rw [if_pos rfl]
    exact ⟨by simp only [F9.F, h0, cT], by simp only [F13.F, h0, cT]⟩
  | false =>
    rw [if_neg (by decide)]
    have h0' := h0
    simp only [Bool.or_eq_false_iff, decide_eq_false_iff_not] at h0'
    cases hk : shopR M S L jobs with
    | false =>
      rw [if_pos rfl]
      exact ⟨by simp only [F9.F, h0, cF, F32.ok, bS, hk, Bool.not_false, cT], by simp only [F13.F, h0, cF, F38.ok, bS, hk, Bool.not_false, cT]⟩
    | true =>
      rw [if_neg (by decide)]
      have hs := shop_ok hk
      have := hs.m1
      have := hs.m2
      have := hs.n
      have hinv : PInv M S L jobs (plan.take 0) (List.replicate M.toNat m0) := ⟨hs, by simp, fun i hi => by rw [getD_lt hi]; simp, List.Pairwise.nil, fun p hp => by simp at hp⟩
      obtain ⟨a, b⟩ := code_loops (by omega) plan.length 0 _ (by omega) hinv
      simp only [List.take_zero, List.drop_zero, List.map_nil] at a b
      have a : F9.l0 (0, M, S, L, jobs, plan, List.replicate M.toNat m0) = _ := a
      have b : F13.l0 ((plan.length : Int), 0, M, S, L, jobs, plan, [], (List.replicate M.toNat m0).map m85) = _ := b
      have e4 := F9.l4_ok (jobs := jobs) (plan := plan) (by omega)
      have e2 := F13.l2_ok (jobs := jobs) (plan := plan) (by omega) (plan.map c78)
      rw [show ((0 : Nat) : Int) = 0 from rfl] at a b
      cases hc : codeP jobs S L [] (List.replicate M.toNat m0) plan 0 with
      | some c =>
        rw [hc] at a b
        constructor
        · simp only [F9.F, h0, cF, F32.ok, bS, hk, Bool.not_true, F33.ok (show 0 ≤ M by omega) (show M ≤ 100 by omega), a]
        · simp only [F13.F, h0, cF, F38.ok, bS, hk, Bool.not_true, F39.ok (show 0 ≤ M by omega) (show M ≤ 100 by omega), b]
      | none =>
        rw [hc] at a b
        by_cases hq : (plan.length : Int) < sumL jobs
        · constructor
          · simp only [F9.F, h0, cF, F32.ok, bS, hk, Bool.not_true, F33.ok (show 0 ≤ M by omega) (show M ≤ 100 by omega), a, e4, dT hq, cT, if_pos hq]
          · simp only [F13.F, h0, cF, F38.ok, bS, hk, Bool.not_true, F39.ok (show 0 ≤ M by omega) (show M ≤ 100 by omega), b, e2, List.length_map, dT hq, cT, if_pos hq]
        · constructor
          · simp only [F9.F, h0, cF, F32.ok, bS, hk, Bool.not_true, F33.ok (show 0 ≤ M by omega) (show M ≤ 100 by omega), a, e4, dF hq, if_neg hq]
          · simp only [F13.F, h0, cF, F38.ok, bS, hk, Bool.not_true, F39.ok (show 0 ≤ M by omega) (show M ≤ 100 by omega), b, e2, List.length_map, dF hq, if_neg hq]
end

end Go.Proofs.YtchohkelpjfpcaaDoor.AX

/- What rows of jobs are. No conditions. -/
namespace Go.Proofs.YtchohkelpjfpcaaDoor.AX
open Go

theorem jobs_row {l : List S64} (h : ∀ n, RowOk (U := uni) ky n 0 l) : (l.length : Int) ≤ 9223372036854775807 ∧ ∀ x ∈ l, (x.f0.size : Int) ≤ 9223372036854775807 ∧ (x.f2.length : Int) ≤ 9223372036854775807 := by
  have h0 : l.length ≤ maxLen := (h 0).1
  refine ⟨by unfold maxLen at h0; omega, fun x hx => ?_⟩
  have h1 : ElOk (U := uni) ky 1 0 x := (h 1).2 x hx
  have hs : x.f0.size ≤ maxLen := h1.1
  obtain ⟨_, hr⟩ := h1.2.2.1
  have hl : x.f2.length ≤ maxLen := hr.1
  unfold maxLen at hs hl
  exact ⟨by omega, by omega⟩

end Go.Proofs.YtchohkelpjfpcaaDoor.AX

/- The law of looking at a plan, plainly. No conditions. -/
namespace Go.Proofs.YtchohkelpjfpcaaDoor.AX
open Go

theorem F8.ok (l : List S56) (k : Int) (h : (l.length : Int) ≤ 9223372036854775807) (hk : 0 ≤ k) (hk2 : k ≤ 1048576) : F8.F (l, k) = some (if k - l.length < 0 then -1 else k - l.length) := by
  have w : Go.IntKind.wrap .i64 (k - (l.length : Int)) = k - l.length := w64 (by omega) (by omega)
  by_cases h0 : k - (l.length : Int) < 0
  · simp only [F8.F, w, dT h0, cT, if_pos h0]
  · simp only [F8.F, w, dF h0, cF, if_neg h0]

theorem F3.law_of (M S L : Int) (l : List S64) (pl : List S56) (hl : (l.length : Int) ≤ 9223372036854775807) (h : ∀ x ∈ l, (x.f0.size : Int) ≤ 9223372036854775807 ∧ (x.f2.length : Int) ≤ 9223372036854775807) (hp : (pl.length : Int) ≤ 9223372036854775807) : F3.F ((M, S, L), l, pl) = some true := by
  have e7 := F7.ok l hl h 1048576 (by decide) (by decide)
  have m1 : decide ((-1 : Int) < 0) = true := rfl
  have e10 : F10.F (M, S, L) = some (M, S, L) := rfl
  have hnj := totJ_nn l
  by_cases h0 : 1048576 - (l.length : Int) < 0
  · rw [if_pos h0] at e7; simp only [F3.F, e7, bS, m1, cT]
  rw [if_neg h0] at e7
  by_cases h1 : 1048576 - (l.length : Int) - totJ l < 0
  · rw [if_pos h1] at e7; simp only [F3.F, e7, bS, m1, cT]
  rw [if_neg h1] at e7
  have e8 := F8.ok pl (1048576 - (l.length : Int) - totJ l) hp (by omega) (by omega)
  by_cases h2 : 1048576 - (l.length : Int) - totJ l - pl.length < 0
  · rw [if_pos h2] at e8; simp only [F3.F, e7, dF h1, cF, e8, bS, m1, cT]
  rw [if_neg h2] at e8
  have hx : ∀ x ∈ l, x.f2.length ≤ 1048576 := fun x hx => by have := totJ_mem hx; omega
  have hx2 : ∀ x ∈ l.map c64, x.f2.length ≤ 1048576 := fun x hx' => by
    obtain ⟨y, hy, rfl⟩ := List.mem_map.1 hx'
    exact hx y hy
  have e11 := F11.ok l (by omega) hx
  have e12 := F12.ok pl (by omega)
  have hc := F9.ok M S L (l.map c64) pl
  generalize planC M S L (l.map c64) pl = q at hc
  obtain ⟨q1, q2⟩ := q
  have e15 := F15.ok pl (by omega)
  have e14 := F14.ok (l.map c64) (by simp; omega) hx2
  have n1 : (q1 != q1) = false := nF rfl
  have n2 : (q2 != q2) = false := nF rfl
  simp only [F3.F, e7, dF h1, cF, e8, dF h2, bS, e10, e11, e12, hc.1, hc.2, n1, n2, Bool.or_self, e15, e14, Bool.not_true]

theorem F3.law {P : Prop} (x : Int × Int × Int) (l : List S64) (pl : List S56) (h0 : P) (h1 : ∀ n, RowOk (U := uni) ky n 0 l) (h2 : ∀ n, RowOk (U := uni) ky n 1 pl) : F3.F (x, l, pl) = some true := by
  obtain ⟨a, b, c⟩ := x
  have hp : pl.length ≤ maxLen := (h2 0).1
  unfold maxLen at hp
  exact F3.law_of a b c l pl (jobs_row h1).1 (jobs_row h1).2 (by omega)

end Go.Proofs.YtchohkelpjfpcaaDoor.AX

/- The law FnExactPlanCode answers true at every input. No conditions. -/
namespace Go.Proofs.YtchohkelpjfpcaaDoor.fnExactPlanCode
open Go.ChangeShapes Go.WideShapes Go.ChangeAt Go.RowKit Go.Proofs.YtchohkelpjfpcaaDoor.AX
open Go.ChangeMaps (open_string shut_string)
set_option maxRecDepth 100000
theorem first_eq : Rows.laid_unicode_utf8_first = Lib.firstData := by kernel_rfl
theorem accept_eq : Rows.laid_unicode_utf8_acceptRanges (H := Unit) = Lib.acceptData := by kernel_rfl
theorem own : ownKnob Tryd.prog.godebug = none := by kernel_rfl
theorem laidOut : laidOutB Tryd.prog = true := by kernel_rfl
theorem flat23t : Flat Tryd.prog uni ky 23 [.int .i64, .int .i64, .int .i64] := .struct 23 _ [.int .i64, .int .i64, .int .i64] Tryd.underlying23 rfl (.cons _ _ _ [.int .i64] _ rfl flat3t rfl (.cons _ _ _ [.int .i64] _ rfl flat3t rfl (.cons _ _ _ [.int .i64] _ rfl flat3t rfl (.nil _))))
theorem parts23 {ts : List (T El)} (o : ∀ n, TsOf (U := uni) (RowOk (U := uni) ky n) [.int .i64, .int .i64, .int .i64] ts) : ∃ (x0 : Int) (x1 : Int) (x2 : Int), ts = [.lit (.int .i64 x0), .lit (.int .i64 x1), .lit (.int .i64 x2)] ∧ ∀ n, TsOf (U := uni) (RowOk (U := uni) ky n) [.int .i64, .int .i64, .int .i64] [.lit (.int .i64 x0), .lit (.int .i64 x1), .lit (.int .i64 x2)] :=
  match ts, o, o 0 with
  | [.lit (.int k0 x0), .lit (.int k1 x1), .lit (.int k2 x2)], o, ⟨⟨h0, _⟩, ⟨h1, _⟩, ⟨h2, _⟩, _⟩ => by subst h0; subst h1; subst h2; exact ⟨x0, x1, x2, rfl, o⟩
set_option maxRecDepth 100000 in
theorem lifted (os : Os) (started : os.Started) (H : Type) (enc : TypeId × Value → H) :
    ReturnsInHanded {} Tryd.checked os 3 .any (fun w args => (Rows.fnExactPlanCodeSpec.pre enc Tryd.prog Tryd.f3 [] false w args ∧ laidMetH Tryd.prog Rows.fnExactPlanCodeRow.laid w) ∧ sizedMet enc Tryd.prog Tryd.f3 (OpenSpec.ofChange Rows.fnExactPlanCodeSpec) false w args)
      (Rows.fnExactPlanCodeSpec.post enc Tryd.prog Tryd.f3 false true false false) := by
  refine returnsInHanded_of_change_and (C := Tryd.checked) (X := fun w _ => laidMetH Tryd.prog Rows.fnExactPlanCodeRow.laid w) (fun _ _ _ hh h => h.of_heap hh) own started (by kernel_rfl) Tryd.func3
    (ChangeSpec.witness_shaped (enc := enc) (C := Tryd.checked) (os := os) (X := fun w _ => laidMetH Tryd.prog Rows.fnExactPlanCodeRow.laid w) false (World.laidAll Tryd.prog os Rows.fnExactPlanCodeRow.laid) #[.agg #[.int .i64 0, .int .i64 0, .int .i64 0], .slice none 0 0, .slice none 0 0] 8 (World.laidAll_os _ _ _)
      (World.shaped_of_ZipB (by kernel_rfl) (by kernel_rfl)) (by kernel_rfl) (by kernel_rfl) (by kernel_rfl)
      (by rw [MakeChecks.laidMetH_plain _ _ _ (by kernel_rfl)]; exact laidMet_laidAll _ (by kernel_rfl) (by kernel_rfl))) ?_
  intro W base args ds gs before hval0 hW _ _ hL _
  rw [MakeChecks.laidMetH_plain _ _ _ (by kernel_rfl)] at hL
  have hT : Lib.Utf8Tabs 0 1 W := Go.Proofs.utf8Tabs_of_reads (ρ := Tryd.lays197_ren) { Tryd.lays197 with } ⟨by kernel_rfl, by kernel_rfl, by kernel_rfl, by kernel_rfl, by kernel_rfl, by kernel_rfl, by kernel_rfl⟩ (first_eq ▸ Lib.laidMet.reads hL (.tail _ (.head _))) (accept_eq ▸ Lib.laidMet.reads hL (.head _))
  have hval : ∀ (j : Nat) t v, Tryd.f3.params[j]? = some t → args[j]? = some v → Value.okWide Tryd.prog W .any base t v := hval0
  have hW' := hW
  obtain ⟨p, q, hA0, hV, rfl, hfz, hnd⟩ := hW
  have hA : DataW.TrodAll enc Tryd.prog W 0 (fun _ => true) true Tryd.f3.params.toList args.toList ds p := hA0
  rw [Tryd.params3] at hA hval
  obtain ⟨v0, vs0, d0, ds0, p0, q0, hargs, rfl, rfl, h0, r0⟩ := trodAll_cons hA
  obtain ⟨v1, vs1, d1, ds1, p1, q1, rfl, rfl, rfl, h1, r1⟩ := trodAll_cons r0
  obtain ⟨v2, vs2, d2, ds2, p2, q2, rfl, rfl, rfl, h2, r2⟩ := trodAll_cons r1
  obtain ⟨rfl, rfl, rfl⟩ := trodAll_nil r2
  obtain rfl : args = #[v0, v1, v2] := by cases args; simp_all
  obtain ⟨rfl, rfl⟩ := trodVars_none hV
  have k0 := h0
  have lt0 : ∀ x ∈ p0, x.block < W.heap.size := by obtain ⟨m, hm⟩ := k0; exact DataW.trod_lt m _ _ _ hm
  obtain ⟨ts0, F0, i0, o0⟩ := open_parts kindsOk Tryd.underlying23 flat23t (hval 0 23 v0 rfl rfl) h0
  obtain ⟨c0_0, c0_1, c0_2, rfl, w0⟩ := parts23 o0
  have k1 := h1
  have lt1 : ∀ x ∈ p1, x.block < W.heap.size := by obtain ⟨m, hm⟩ := k1; exact DataW.trod_lt m _ _ _ hm
  obtain ⟨l1, F1, i1, o1⟩ := open_slice kindsOk (k := 0) Tryd.underlying24 (List.cons_ne_nil _ _) (hval 1 24 v1 rfl rfl) h1
  have k2 := h2
  have lt2 : ∀ x ∈ p2, x.block < W.heap.size := by obtain ⟨m, hm⟩ := k2; exact DataW.trod_lt m _ _ _ hm
  obtain ⟨l2, F2, i2, o2⟩ := open_slice kindsOk (k := 1) Tryd.underlying25 (List.cons_ne_nil _ _) (hval 2 25 v2 rfl rfl) h2
  clear hA0 hval0
  have hcon := F3.con ((c0_0, c0_1, c0_2), l1, l2) true (F3.law (c0_0, c0_1, c0_2) l1 l2 w0 o1 o2) [v0, v1, v2] W [] _ ⟨[], [], F0, _, i0, ⟨[], [], F1, _, i1, ⟨[], [], F2, _, i2, ⟨rfl, rfl⟩, rfl, rfl⟩, rfl, rfl⟩, rfl, rfl⟩ (by simp) (by simp) (DoorOk.none hT)
  refine hcon.mono fun e W' ⟨rs, vs, G, E', hr, hR, he, hO, hfr, _, _⟩ => ?_
  obtain rfl : rs = [.val (.bool true)] := by injection hr with hr; exact hr.symm
  obtain rfl : vs = [.bool true] := by
    match vs, hR with
    | [v], ⟨_, _, ⟨h, _⟩, _, _⟩ => rw [h]
  subst he
  have bel := below_of hfr
  exact ⟨_, rfl, _, _, _, [], _, [], hW', trodAll_mk1 (shut_bool Tryd.underlying4 _), (trodAll_cons_mk (Below.trod laidOut (by kernel_rfl) (of_decide_eq_true (by kernel_rfl)) k0 bel lt0) (trodAll_cons_mk (Below.trod laidOut (by kernel_rfl) (of_decide_eq_true (by kernel_rfl)) k1 bel lt1) (trodAll_cons_mk (Below.trod laidOut (by kernel_rfl) (of_decide_eq_true (by kernel_rfl)) k2 bel lt2) trodAll_mk0))), rfl, bel.frame _, fun h => by cases h⟩
theorem over : Rows.fnExactPlanCodeRow.holds Tryd.pinned (OpenSpec.ofChange Rows.fnExactPlanCodeSpec) :=
  OpenClaim.holds_of_wide 3 Tryd.f3 rfl rfl rfl rfl rfl rfl rfl ⟨rfl, rfl, rfl, rfl, rfl⟩ rfl rfl rfl rfl rfl (by kernel_rfl) Tryd.func3 (by kernel_rfl)
    (of_decide_eq_true (by kernel_rfl)) (by unfold Func.isWrapper; first | (rw [if_pos (by decide +kernel)]; kernel_rfl) | (rw [if_neg (by decide +kernel)]; exact ⟨rfl, rfl⟩))
    (fun os started H enc _ => lifted os started H enc)
theorem proved : Rows.FnExactPlanCodeCardSaid :=
  Claim7.holds_tied_plain_at .later [] [.data, .pinned] true (true, "3e69e200e7782e7ed9c644d5db90e73c70318a309b1acafbb83f1b71aec2840c") false over (fun _ h => by cases h) (by kernel_rfl) (fun _ h => by cases h) fnExactPlanCode_row_tie rfl ⟨rfl, rfl⟩ (by kernel_rfl) rfl
    (fun f fn hf hfn => by
      obtain rfl : f = 3 := Option.some.inj ((show Tryd.prog.funcNamed "loop.example/g00056/laws.FnExactPlanCode" = some 3 by kernel_rfl).symm.trans hf) |>.symm
      obtain rfl : fn = Tryd.f3 := (Option.some.inj (Tryd.func3.symm.trans hfn)).symm
      exact ⟨by kernel_rfl, fun j t ht => by
        rw [Tryd.params3] at ht
        have hm : t ∈ [23, 24, 25] := by simpa using Array.mem_of_getElem? ht
        have hall : ([23, 24, 25].all fun u => !Tryd.prog.wantsStandIn u) = true := by kernel_rfl
        exact (show Tryd.prog.wantsStandIn t = false by simpa using List.all_eq_true.1 hall t hm)⟩)
    (by kernel_rfl)
end Go.Proofs.YtchohkelpjfpcaaDoor.fnExactPlanCode
namespace Go.Proofs.YtchohkelpjfpcaaDoor
theorem fnExactPlanCode_holds : Rows.FnExactPlanCodeCardSaid := fnExactPlanCode.proved
end Go.Proofs.YtchohkelpjfpcaaDoor

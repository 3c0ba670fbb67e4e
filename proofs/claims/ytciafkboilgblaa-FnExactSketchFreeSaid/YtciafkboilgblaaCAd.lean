/- The function 15 of the program in the small machine. No conditions. -/
import Derived.KernelRfl
import Derived.Test.YtciafkboilgblaaRows
import Derived.WalkKit
import Derived.ProofKit
import Derived.OpenShut
import Derived.ShutString
import Derived.ChangeOld
import Derived.Below
import Derived.SizedLaws
import Derived.Test.YtciafkboilgblaaCAc
set_option linter.unusedVariables false
set_option linter.unusedSimpArgs false
set_option linter.unusedSectionVars false
namespace Go.Proofs.Ytciafkboilgblaa.AX.F15
open Go Go.Proofs.Try
noncomputable def code : Code := bodyOf f15
abbrev Y : Type := Int
def cp : Cod uni ((List Int) × Int) := (codC (iRow 2) (cod1 (iInt .i64)))
def cr : Coz uni Int := (cozR (cod1 (iInt .i64)) (codD (codD cod0)))
noncomputable def es : List (Ent prog uni) := []
theorem get : prog.funcs[15]? = some f15 := by kernel_rfl

def l0.A : Ann := ⟨[(0, .slc 5000000 []), (1, .sc), (5, .sc)], [], [(5000000, false, 2)], []⟩
def l0.c : Cod uni (Int × Int × (List Int)) := (codC (iInt .i64) (codC (iInt .i64) (cod1 (iRow 2))))
def l0.xs : List (AExit × Ann) := [(.ret, ⟨[(4, .sc)], [], [], []⟩), ((.exit 0), ⟨[(1, .sc)], [], [], []⟩)]
def l0.y : Coy uni (Int ⊕ Int) := (coyS (cod1 (iInt .i64)) (coy1 (cod1 (iInt .i64))))
noncomputable def l0.b : Int × Int × (List Int) → Option ((Int × Int × (List Int)) ⊕ (Int ⊕ Int))
  | (v1, v5, r0) =>
  let x0 := (decide (v5 < ((List.length r0) : Int)))
  cond x0 (
   cond ((decide (0 ≤ v5)) && x0) (
    cond ((List.getD r0 (Int.toNat v5) 0) != v1) (
     some (.inr (.inl (-1)))) (
     some (.inl ((Go.IntKind.wrap (Go.IntKind.i64 ) (v1 + 1)), (Go.IntKind.wrap (Go.IntKind.i64 ) (v5 + 1)), r0)))) none) (
   some (.inr (.inr v1)))
noncomputable def l0 (x : Int × Int × (List Int)) : Option (Int ⊕ Int) := lim l0.b x
theorem l0.eq : ∀ x, l0.b x = roundX (mkE tab es 21 [] []) (loopAt 0 code) (cutOf l0.A l0.c) (cutsOf l0.xs l0.y) x := fun x => by kernel_rfl
theorem l0.owed {R : Type} : owed (mkE (R := R) tab es 21 [] []) (loopAt 0 code) = [] := by kernel_rfl
theorem l0.ok (w0 : World) (M : Own) (h : Pinned M []) {R : Type} : SoundO prog w0 M 21 (.block 0 (.loop (loopAt 0 code))) (loopO (R := R) 0 (cutOf l0.A l0.c) (cutsOf l0.xs l0.y) l0) :=
  loop_ok tabOk uniOk mixed l0.eq (h.sub rfl) (h.sub rfl) fun x hx => by rw [l0.owed] at hx; exact absurd hx List.not_mem_nil

noncomputable def F : ((List Int) × Int) → Option (Int)
  | (p0, p1) =>
  (l0 (p1, 0, p0)).bind fun q => match q with
  | (.inl yl0) =>
   some yl0
  | (.inr yl0) =>
   some yl0
theorem F.eq : ∀ x, F x = runF (mkE tab es 21 [(0, some (loopO 0 (cutOf l0.A l0.c) (cutsOf l0.xs l0.y) l0))] []) code [.row 2 0, .sc] [.sc] [.tmp 4] (Coz.dec cr) (cp.enc x) := fun x => by kernel_rfl
theorem F.owed : owed (mkE (R := Int) tab es 21 [(0, some (loopO 0 (cutOf l0.A l0.c) (cutsOf l0.xs l0.y) l0))] []) code = [((.block 0 (.loop (loopAt 0 code))), (loopO (R := _) 0 (cutOf l0.A l0.c) (cutsOf l0.xs l0.y) l0))] := by kernel_rfl
theorem con : ∀ x y, F x = some y → Con prog 15 [.row 2 0, .sc] [.sc] (cp.enc x) (cr.enc y).1 (cr.enc y).2 :=
  func_ok (c := code) (n := 21) (pf := [.row 2 0, .sc]) (res := [.tmp 4]) tabOk uniOk mixed get (by kernel_rfl) (by kernel_rfl) (by kernel_rfl) (by decide) F.eq fun w0 M h x hx => by rw [F.owed] at hx; rcases List.mem_cons.1 hx with rfl | hx; exact l0.ok w0 M h; exact absurd hx List.not_mem_nil
noncomputable def ent : Ent prog uni := Ent.of 15 [.row 2 0, .sc] [.sc] cp cr F con fun args w => enters_of get (by kernel_rfl) rfl args w
end Go.Proofs.Ytciafkboilgblaa.AX.F15

/- The function 4 of the program in the small machine. No conditions. -/
namespace Go.Proofs.Ytciafkboilgblaa.AX.F4
open Go Go.Proofs.Try
noncomputable def code : Code := bodyOf f4
abbrev Y : Type := Bool
def cp : Cod uni (Int × (List S31)) := (cod1 (iAgg (codC (iInt .i64) (cod1 (iRow 3)))))
def cr : Coz uni Bool := (cozR (cod1 iBool) (codD cod0))
noncomputable def es : List (Ent prog uni) := [F9.ent, F10.ent, F7.ent, F6.ent, F11.ent, F12.ent, F13.ent, F14.ent, F15.ent]
theorem get : prog.funcs[4]? = some f4 := by kernel_rfl

noncomputable def F : (Int × (List S31)) → Option (Bool)
  | (p0_0, p0_1) =>
  (F9.F ((p0_0, p0_1), 1048576)).bind fun y9 =>
  cond (decide (y9 < 0)) (
   some true) (
   (F10.F (p0_0, p0_1)).bind fun y10 =>
   (F7.F (y10.1, y10.2)).bind fun y7 =>
   (F10.F (p0_0, p0_1)).bind fun y10x2 =>
   (F6.F (y10x2.1, y10x2.2)).bind fun y6 =>
   let x1 := (F13.F ((y10x2.1, y10x2.2), 1))
   let x2 := (F11.F (y6.2.1, y7.2.1))
   cond (!(y6.1 != y7.1)) (
    x2.bind fun y11 =>
    cond (((y6.1 != y7.1) || (!y11)) || (y6.2.2 != y7.2.2)) (
     some false) (
     (F10.F (p0_0, p0_1)).bind fun y10x3 =>
     (F12.F ((y10x2.1, y10x2.2), (y10x3.1, y10x3.2))).bind fun y12 =>
     cond (!y12) (
      some false) (
      x1.bind fun y13 =>
      let x0 := ((decide (y13.1 < 0)) || (y6.1 != y7.1))
      cond (!x0) (
       x2.bind fun y11x2 =>
       cond ((x0 || (!y11x2)) || (y6.2.2 != y7.2.2)) (
        some false) (
        (F14.F (y6.2.1, 1)).bind fun y14 =>
        (F15.F (y14.2.1, 1)).bind fun y15 =>
        cond (decide (y15 < 0)) (
         some false) (
         cond (y15 != y14.1) (
          some false) (
          (F10.F (p0_0, p0_1)).bind fun y10x4 =>
          (F6.F (y10x4.1, y10x4.2)).bind fun y6x2 =>
          cond (!(y6x2.1 != y7.1)) (
           (F11.F (y6x2.2.1, y7.2.1)).bind fun y11x3 =>
           cond (((y6x2.1 != y7.1) || (!y11x3)) || (y6x2.2.2 != y7.2.2)) (
            some false) (
            (F15.F (y14.2.1, 1)).bind fun y15x2 =>
            cond (decide (y15x2 < 0)) (
             some false) (
             cond (y15x2 != y14.1) (
              some false) (
              some true)))) (
           cond (((y6x2.1 != y7.1) || true) || (y6x2.2.2 != y7.2.2)) (
            some false) (
            (F15.F (y14.2.1, 1)).bind fun y15x2 =>
            cond (decide (y15x2 < 0)) (
             some false) (
             cond (y15x2 != y14.1) (
              some false) (
              some true)))))))) (
       cond ((x0 || true) || (y6.2.2 != y7.2.2)) (
        some false) (
        (F14.F (y6.2.1, 1)).bind fun y14 =>
        (F15.F (y14.2.1, 1)).bind fun y15 =>
        cond (decide (y15 < 0)) (
         some false) (
         cond (y15 != y14.1) (
          some false) (
          (F10.F (p0_0, p0_1)).bind fun y10x4 =>
          (F6.F (y10x4.1, y10x4.2)).bind fun y6x2 =>
          cond (!(y6x2.1 != y7.1)) (
           (F11.F (y6x2.2.1, y7.2.1)).bind fun y11x2 =>
           cond (((y6x2.1 != y7.1) || (!y11x2)) || (y6x2.2.2 != y7.2.2)) (
            some false) (
            (F15.F (y14.2.1, 1)).bind fun y15x2 =>
            cond (decide (y15x2 < 0)) (
             some false) (
             cond (y15x2 != y14.1) (
              some false) (
              some true)))) (
           cond (((y6x2.1 != y7.1) || true) || (y6x2.2.2 != y7.2.2)) (
            some false) (
            (F15.F (y14.2.1, 1)).bind fun y15x2 =>
            cond (decide (y15x2 < 0)) (
             some false) (
             cond (y15x2 != y14.1) (
              some false) (
              some true))))))))))) (
    cond (((y6.1 != y7.1) || true) || (y6.2.2 != y7.2.2)) (
     some false) (
     (F10.F (p0_0, p0_1)).bind fun y10x3 =>
     (F12.F ((y10x2.1, y10x2.2), (y10x3.1, y10x3.2))).bind fun y12 =>
     cond (!y12) (
      some false) (
      x1.bind fun y13 =>
      let x0 := ((decide (y13.1 < 0)) || (y6.1 != y7.1))
      cond (!x0) (
       x2.bind fun y11 =>
       cond ((x0 || (!y11)) || (y6.2.2 != y7.2.2)) (
        some false) (
        (F14.F (y6.2.1, 1)).bind fun y14 =>
        (F15.F (y14.2.1, 1)).bind fun y15 =>
        cond (decide (y15 < 0)) (
         some false) (
         cond (y15 != y14.1) (
          some false) (
          (F10.F (p0_0, p0_1)).bind fun y10x4 =>
          (F6.F (y10x4.1, y10x4.2)).bind fun y6x2 =>
          cond (!(y6x2.1 != y7.1)) (
           (F11.F (y6x2.2.1, y7.2.1)).bind fun y11x2 =>
           cond (((y6x2.1 != y7.1) || (!y11x2)) || (y6x2.2.2 != y7.2.2)) (
            some false) (
            (F15.F (y14.2.1, 1)).bind fun y15x2 =>
            cond (decide (y15x2 < 0)) (
             some false) (
             cond (y15x2 != y14.1) (
              some false) (
              some true)))) (
           cond (((y6x2.1 != y7.1) || true) || (y6x2.2.2 != y7.2.2)) (
            some false) (
            (F15.F (y14.2.1, 1)).bind fun y15x2 =>
            cond (decide (y15x2 < 0)) (
             some false) (
             cond (y15x2 != y14.1) (
              some false) (
              some true)))))))) (
       cond ((x0 || true) || (y6.2.2 != y7.2.2)) (
        some false) (
        (F14.F (y6.2.1, 1)).bind fun y14 =>
        (F15.F (y14.2.1, 1)).bind fun y15 =>
        cond (decide (y15 < 0)) (
         some false) (
         cond (y15 != y14.1) (
          some false) (
          (F10.F (p0_0, p0_1)).bind fun y10x4 =>
          (F6.F (y10x4.1, y10x4.2)).bind fun y6x2 =>
          cond (!(y6x2.1 != y7.1)) (
           (F11.F (y6x2.2.1, y7.2.1)).bind fun y11 =>
           cond (((y6x2.1 != y7.1) || (!y11)) || (y6x2.2.2 != y7.2.2)) (
            some false) (
            (F15.F (y14.2.1, 1)).bind fun y15x2 =>
            cond (decide (y15x2 < 0)) (
             some false) (
             cond (y15x2 != y14.1) (
              some false) (
              some true)))) (
           cond (((y6x2.1 != y7.1) || true) || (y6x2.2.2 != y7.2.2)) (
            some false) (
            (F15.F (y14.2.1, 1)).bind fun y15x2 =>
            cond (decide (y15x2 < 0)) (
             some false) (
             cond (y15x2 != y14.1) (
              some false) (
              some true))))))))))))
theorem F.eq : ∀ x, F x = runF (mkE tab es 117 [] []) code [.agg [.sc, .row 3 0]] [.sc] [.tmp 2] (Coz.dec cr) (cp.enc x) := fun x => by kernel_rfl
theorem F.owed : owed (mkE (R := Bool) tab es 117 [] []) code = [] := by kernel_rfl
theorem con : ∀ x y, F x = some y → Con prog 4 [.agg [.sc, .row 3 0]] [.sc] (cp.enc x) (cr.enc y).1 (cr.enc y).2 :=
  func_ok (c := code) (n := 117) (pf := [.agg [.sc, .row 3 0]]) (res := [.tmp 2]) tabOk uniOk mixed get (by kernel_rfl) (by kernel_rfl) (by kernel_rfl) (by decide) F.eq fun w0 M h x hx => by rw [F.owed] at hx; exact absurd hx List.not_mem_nil
noncomputable def ent : Ent prog uni := Ent.of 4 [.agg [.sc, .row 3 0]] [.sc] cp cr F con fun args w => enters_of get (by kernel_rfl) rfl args w
end Go.Proofs.Ytciafkboilgblaa.AX.F4

/- Small facts for plain laws. No conditions. -/
namespace Go.Proofs.Ytciafkboilgblaa.AX
open Go

theorem w64 {x : Int} (h0 : -9223372036854775808 ≤ x) (h1 : x < 9223372036854775808) : IntKind.wrap .i64 x = x := by
  unfold IntKind.wrap
  simp [IntKind.signed, IntKind.bits]
  omega

/- Not by rfl: a proof by simp then names each step, and the kernel need not find them. -/
theorem bS {α β : Type} {x : α} {f : α → Option β} : (some x).bind f = f x := by simp
theorem bN {α β : Type} {f : α → Option β} : (none : Option α).bind f = none := by simp
theorem cT {α : Type} {a b : α} : cond true a b = a := by simp
theorem cF {α : Type} {a b : α} : cond false a b = b := by simp

theorem dT {p : Prop} [Decidable p] (h : p) : decide p = true := decide_eq_true h
theorem dF {p : Prop} [Decidable p] (h : ¬ p) : decide p = false := decide_eq_false h

section
variable {α : Type} [BEq α] [LawfulBEq α] {a b : α}
theorem qT (h : a = b) : (a == b) = true := by simp [h]
theorem qF (h : ¬ a = b) : (a == b) = false := by simpa using h
theorem nT (h : ¬ a = b) : (a != b) = true := by simp [bne, qF h]
theorem nF (h : a = b) : (a != b) = false := by simp [bne, h]
end

theorem lim_in {X Y : Type} {f : X → Option (X ⊕ Y)} {x x' : X} (h : f x = some (.inl x')) : lim f x = lim f x' := by rw [lim_step, h]; rfl
theorem lim_out {X Y : Type} {f : X → Option (X ⊕ Y)} {x : X} {y : Y} (h : f x = some (.inr y)) : lim f x = some y := by rw [lim_step, h]; rfl

/-- So many rounds, told one by one. -/
theorem lim_to {X Y : Type} {f : X → Option (X ⊕ Y)} (s : Nat → X) : ∀ (n : Nat), (∀ i, i < n → f (s i) = some (.inl (s (i + 1)))) → lim f (s 0) = lim f (s n)
  | 0, _ => rfl
  | n + 1, h => by rw [lim_to s n fun i hi => h i (by omega), lim_in (h n (by omega))]
theorem lim_run {X Y : Type} {f : X → Option (X ⊕ Y)} (s : Nat → X) (n : Nat) {y : Y} (h : ∀ i, i < n → f (s i) = some (.inl (s (i + 1)))) (hn : f (s n) = some (.inr y)) : lim f (s 0) = some y := by
  rw [lim_to s n h, lim_out hn]

/-- A row looked through, until one falls. -/
theorem lim_scan {X Y α : Type} {f : X → Option (X ⊕ Y)} (s : Nat → X) (l : List α) (d : α) (p : α → Bool) {y z : Y} (h : ∀ i, i < l.length → f (s i) = some (if p (l.getD i d) then .inl (s (i + 1)) else .inr y)) (hn : f (s l.length) = some (.inr z)) :
    lim f (s 0) = some (if l.all p then z else y) := by
  have main : ∀ (n i : Nat), l.length - i ≤ n → i ≤ l.length → lim f (s i) = some (if (l.drop i).all p then z else y) := by
    intro n
    induction n with
    | zero =>
      intro i hi hi2
      have : i = l.length := by omega
      subst this
      rw [lim_out hn]; simp
    | succ n ih =>
      intro i hi hi2
      by_cases e : i = l.length
      · subst e; rw [lim_out hn]; simp
      · have hlt : i < l.length := by omega
        have hd : l.drop i = l.getD i d :: l.drop (i + 1) := by simp [List.getD, hlt]
        rw [hd, List.all_cons]
        cases hp : p (l.getD i d) with
        | true => rw [lim_in (x' := s (i + 1)) (by rw [h i hlt, hp]; rfl), ih (i + 1) (by omega) (by omega)]; simp
        | false => rw [lim_out (y := y) (by rw [h i hlt, hp]; rfl)]; simp
  simpa using main l.length 0 (by omega) (by omega)

/-- A row gone through, with something carried along. -/
theorem lim_fold {X Y α A : Type} {f : X → Option (X ⊕ Y)} (s : Nat → A → X) (l : List α) (d : α) (g : A → α → A) (I : A → Prop) {z : A → Y} (a0 : A) (h0 : I a0) (hI : ∀ a i, i < l.length → I a → I (g a (l.getD i d))) (h : ∀ i a, i < l.length → I a → f (s i a) = some (.inl (s (i + 1) (g a (l.getD i d))))) (hn : ∀ a, I a → f (s l.length a) = some (.inr (z a))) :
    lim f (s 0 a0) = some (z (l.foldl g a0)) := by
  have main : ∀ (n i : Nat) (a : A), l.length - i ≤ n → i ≤ l.length → I a → lim f (s i a) = some (z ((l.drop i).foldl g a)) := by
    intro n
    induction n with
    | zero =>
      intro i a hi hi2 ha
      have : i = l.length := by omega
      subst this
      rw [lim_out (hn a ha)]; simp
    | succ n ih =>
      intro i a hi hi2 ha
      by_cases e : i = l.length
      · subst e; rw [lim_out (hn a ha)]; simp
      · have hlt : i < l.length := by omega
        have hd : l.drop i = l.getD i d :: l.drop (i + 1) := by simp [List.getD, hlt]
        rw [hd, List.foldl_cons, lim_in (h i a hlt ha), ih (i + 1) _ (by omega) (by omega) (hI a i hlt ha)]
  simpa using main l.length 0 a0 (by omega) (by omega) h0

/-- .. with a way out. -/
def goL {α A Y : Type} (g : A → α → A ⊕ Y) : List α → A → A ⊕ Y
  | [], a => .inl a
  | x :: r, a => match g a x with
    | .inl a' => goL g r a'
    | .inr y => .inr y
theorem lim_go {X Y α A B : Type} {f : X → Option (X ⊕ Y)} (s : Nat → A → X) (l : List α) (d : α) (g : A → α → A ⊕ B) (I : A → Prop) {z : A → Y} {o : B → Y} (a0 : A) (h0 : I a0) (hI : ∀ a i a', i < l.length → I a → g a (l.getD i d) = .inl a' → I a')
    (h : ∀ i a, i < l.length → I a → f (s i a) = some (match g a (l.getD i d) with | .inl a' => .inl (s (i + 1) a') | .inr y => .inr (o y))) (hn : ∀ a, I a → f (s l.length a) = some (.inr (z a))) :
    lim f (s 0 a0) = some (Sum.elim z o (goL g l a0)) := by
  have main : ∀ (n i : Nat) (a : A), l.length - i ≤ n → i ≤ l.length → I a → lim f (s i a) = some (Sum.elim z o (goL g (l.drop i) a)) := by
    intro n
    induction n with
    | zero =>
      intro i a hi hi2 ha
      have : i = l.length := by omega
      subst this
      rw [lim_out (hn a ha)]; simp [goL]
    | succ n ih =>
      intro i a hi hi2 ha
      by_cases e : i = l.length
      · subst e; rw [lim_out (hn a ha)]; simp [goL]
      · have hlt : i < l.length := by omega
        have hd : l.drop i = l.getD i d :: l.drop (i + 1) := by simp [List.getD, hlt]
        have hf := h i a hlt ha
        rw [hd, goL]
        cases hg : g a (l.getD i d) with
        | inl a' => rw [hg] at hf; rw [lim_in hf, ih (i + 1) a' (by omega) (by omega) (hI a i a' hlt ha hg)]
        | inr y => rw [hg] at hf; rw [lim_out hf]; rfl
  simpa using main l.length 0 a0 (by omega) (by omega) h0

theorem getD_lt {α : Type} {l : List α} {i : Nat} {d : α} (h : i < l.length) : l.getD i d = l[i] := by simp [List.getD, h]

theorem set_self {α : Type} {l : List α} {i : Nat} {d : α} : l.set i (l.getD i d) = l := by
  by_cases h : i < l.length
  · rw [getD_lt h, List.set_getElem_self]
  · rw [List.set_eq_of_length_le (by omega)]

theorem getD_set {α : Type} {l : List α} {i : Nat} {d x : α} (h : i < l.length) : (l.set i x).getD i d = x := by simp [List.getD, h]

theorem set_app {α : Type} {p r : List α} {x y : α} {i : Nat} (h : i = p.length) : (p ++ x :: r).set i y = p ++ y :: r := by subst h; simp

theorem drop_cons {α : Type} {l : List α} {i : Nat} (h : i < l.length) : l.drop i = l[i] :: l.drop (i + 1) := by simp

section
variable {A B E : Type}

/-- A row laid anew, as far as i. -/
def upTo (c : A → B) (z : B) (l : List A) (i : Nat) : List B := (l.take i).map c ++ List.replicate (l.length - i) z
theorem upTo_zero {c : A → B} {z : B} {l : List A} : upTo c z l 0 = List.replicate l.length z := by simp [upTo]
theorem upTo_all {c : A → B} {z : B} {l : List A} : upTo c z l l.length = l.map c := by simp [upTo]
theorem upTo_len {c : A → B} {z : B} {l : List A} {i : Nat} (h : i ≤ l.length) : (upTo c z l i).length = l.length := by simp [upTo]; omega
theorem upTo_set {c : A → B} {z : B} {l : List A} {i : Nat} {d : A} (h : i < l.length) : (upTo c z l i).set i (c (l.getD i d)) = upTo c z l (i + 1) := by
  unfold upTo
  rw [show l.length - i = (l.length - (i + 1)) + 1 by omega, List.replicate_succ, set_app (by simp; omega), getD_lt h, ← List.take_append_getElem h, List.map_append, List.append_assoc]
  rfl

/-- Each element turned, with a number that counts on. -/
def mkL (g : Int → E → E) (c : E → Int) : Int → List E → List E
  | _, [] => []
  | k, x :: r => g k x :: mkL g c (k + c x) r
def mkK (c : E → Int) : Int → List E → Int
  | k, [] => k
  | k, x :: r => mkK c (k + c x) r
theorem mkL_len {g : Int → E → E} {c : E → Int} : ∀ {k : Int} {l : List E}, (mkL g c k l).length = l.length
  | _, [] => rfl
  | _, _ :: _ => by simp [mkL, mkL_len]
theorem mkL_app {g : Int → E → E} {c : E → Int} : ∀ {k : Int} {l r : List E}, mkL g c k (l ++ r) = mkL g c k l ++ mkL g c (mkK c k l) r
  | _, [], _ => rfl
  | k, x :: l, r => by simp [mkL, mkK, mkL_app]
theorem mkK_app {c : E → Int} : ∀ {k : Int} {l r : List E}, mkK c k (l ++ r) = mkK c (mkK c k l) r
  | _, [], _ => rfl
  | k, x :: l, r => by simp [mkK, mkK_app]
theorem mkK_take {c : E → Int} {k : Int} {l : List E} {i : Nat} {d : E} (h : i < l.length) : mkK c k (l.take (i + 1)) = mkK c k (l.take i) + c (l.getD i d) := by
  rw [← List.take_append_getElem h, mkK_app, getD_lt h]; rfl
theorem mkK_const {n : Int} : ∀ {k : Int} {l : List E}, mkK (fun _ => n) k l = k + n * l.length
  | k, [] => by simp [mkK]
  | k, x :: l => by
    simp only [mkK, mkK_const, List.length_cons]
    rw [show ((l.length + 1 : Nat) : Int) = (l.length : Int) + 1 from rfl, Int.mul_add, Int.mul_one]; omega
theorem mkK_le {c : E → Int} (hc : ∀ x, 0 ≤ c x) : ∀ {k : Int} {l : List E}, k ≤ mkK c k l
  | k, [] => Int.le_refl _
  | k, x :: l => by
    have := mkK_le hc (k := k + c x) (l := l)
    have := hc x
    simp only [mkK]; omega
def mkAt (g : Int → E → E) (c : E → Int) (k : Int) (l : List E) (i : Nat) : List E := mkL g c k (l.take i) ++ l.drop i
theorem mkAt_zero {g : Int → E → E} {c : E → Int} {k : Int} {l : List E} : mkAt g c k l 0 = l := by simp [mkAt, mkL]
theorem mkAt_all {g : Int → E → E} {c : E → Int} {k : Int} {l : List E} : mkAt g c k l l.length = mkL g c k l := by simp [mkAt]
theorem mkAt_len {g : Int → E → E} {c : E → Int} {k : Int} {l : List E} {i : Nat} : (mkAt g c k l i).length = l.length := by simp [mkAt, mkL_len]; omega
theorem mkAt_get {g : Int → E → E} {c : E → Int} {k : Int} {l : List E} {i : Nat} {d : E} (h : i < l.length) : (mkAt g c k l i).getD i d = l.getD i d := by
  unfold mkAt
  have : (mkL g c k (l.take i)).length = i := by rw [mkL_len]; simp; omega
  rw [getD_lt (by simp [this]; omega), getD_lt h, List.getElem_append_right (by omega)]
  simp [this]
theorem mkAt_set {g : Int → E → E} {c : E → Int} {k : Int} {l : List E} {i : Nat} {d : E} (h : i < l.length) : (mkAt g c k l i).set i (g (mkK c k (l.take i)) (l.getD i d)) = mkAt g c k l (i + 1) := by
  unfold mkAt
  rw [drop_cons h, set_app (by rw [mkL_len]; simp; omega), getD_lt h, ← List.take_append_getElem h, mkL_app, List.append_assoc]
  rfl
theorem mkL_get {g : Int → E → E} {c : E → Int} : ∀ {k : Int} {l : List E} {i : Nat} {d : E}, i < l.length → (mkL g c k l).getD i d = g (mkK c k (l.take i)) (l.getD i d)
  | k, x :: l, 0, d, _ => by simp [mkL, mkK]
  | k, x :: l, i + 1, d, h => by
    have := mkL_get (g := g) (c := c) (k := k + c x) (l := l) (i := i) (d := d) (by simpa using h)
    simpa [mkL, mkK, List.getD] using this
end


/-- Two rows compared, element by element. -/
theorem eq_rows {E : Type} {p q : List E} (d : E) (hl : p.length = q.length) : p = q ∨ ∃ i, i < p.length ∧ (∀ j, j < i → p.getD j d = q.getD j d) ∧ p.getD i d ≠ q.getD i d := by
  induction p generalizing q with
  | nil => cases q with
    | nil => exact .inl rfl
    | cons _ _ => simp at hl
  | cons x p ih =>
    cases q with
    | nil => simp at hl
    | cons y q =>
      by_cases h : x = y
      · subst h
        rcases ih (by simpa using hl) with h | ⟨i, h1, h2, h3⟩
        · exact .inl (by rw [h])
        · refine .inr ⟨i + 1, by simpa using h1, fun j hj => ?_, by simpa using h3⟩
          cases j with
          | zero => rfl
          | succ j => simpa using h2 j (by omega)
      · exact .inr ⟨0, by simp, fun j hj => by omega, by simpa using h⟩

end Go.Proofs.Ytciafkboilgblaa.AX

/- Sketches: are they right? No conditions. -/
namespace Go.Proofs.Ytciafkboilgblaa.AX
open Go

structure RuleP (n : Int) (x : S31) : Prop where
  k1 : 1 ≤ x.f0
  k9 : x.f0 ≤ 9
  a0 : 0 ≤ x.f1
  an : x.f1 < n
  b0 : 0 ≤ x.f2
  bn : x.f2 < n
  m0 : -100000 ≤ x.f3
  m1 : x.f3 ≤ 100000
  bz : x.f0 ≤ 2 → x.f2 = 0
  mz : 7 ≤ x.f0 → x.f3 = 0
instance (n : Int) (x : S31) : Decidable (RuleP n x) :=
  if h : 1 ≤ x.f0 ∧ x.f0 ≤ 9 ∧ 0 ≤ x.f1 ∧ x.f1 < n ∧ 0 ≤ x.f2 ∧ x.f2 < n ∧ -100000 ≤ x.f3 ∧ x.f3 ≤ 100000 ∧ (x.f0 ≤ 2 → x.f2 = 0) ∧ (7 ≤ x.f0 → x.f3 = 0) then
    .isTrue ⟨h.1, h.2.1, h.2.2.1, h.2.2.2.1, h.2.2.2.2.1, h.2.2.2.2.2.1, h.2.2.2.2.2.2.1, h.2.2.2.2.2.2.2.1, h.2.2.2.2.2.2.2.2.1, h.2.2.2.2.2.2.2.2.2⟩
  else .isFalse fun q => h ⟨q.k1, q.k9, q.a0, q.an, q.b0, q.bn, q.m0, q.m1, q.bz, q.mz⟩
def headB (n : Int) (rs : List S31) : Bool := ((decide (n < 1)) || (decide (n > 24))) || (decide ((rs.length : Int) > 60))
def okS (n : Int) (rs : List S31) : Bool := !headB n rs && rs.all fun x => decide (RuleP n x)

theorem head_len {n : Int} {rs : List S31} (h : headB n rs = false) : rs.length ≤ 60 ∧ 1 ≤ n ∧ n ≤ 24 := by
  unfold headB at h
  simp only [Bool.or_eq_false_iff, decide_eq_false_iff_not] at h
  omega

theorem okS_all {n : Int} {rs : List S31} (h : okS n rs = true) : rs.length ≤ 60 ∧ 1 ≤ n ∧ n ≤ 24 ∧ ∀ x ∈ rs, RuleP n x := by
  unfold okS at h
  rw [Bool.and_eq_true, Bool.not_eq_true'] at h
  obtain ⟨h1, h2⟩ := h
  obtain ⟨a, b, c⟩ := head_len h1
  exact ⟨a, b, c, fun x hx => by have := List.all_eq_true.1 h2 x hx; exact of_decide_eq_true this⟩

theorem dEq {p q : Prop} [Decidable p] [Decidable q] (h : p ↔ q) : decide p = decide q := by
  by_cases hp : p
  · rw [dT hp, dT (h.1 hp)]
  · rw [dF hp, dF (fun hq => hp (h.2 hq))]
theorem neD {a b : Int} : (a != b) = decide (a ≠ b) := by
  by_cases h : a = b
  · rw [nF h, dF (fun q => q h)]
  · rw [nT h, dT h]

theorem F19.ok (n : Int) (rs : List S31) : F19.F (n, rs) = some (okS n rs) := by
  unfold okS
  cases hh : headB n rs with
  | true => unfold headB at hh; simp only [F19.F, hh, cT, Bool.not_true, Bool.false_and]
  | false =>
    obtain ⟨hl, h1, h24⟩ := head_len hh
    have l0 : F19.l0 ((rs.length : Int), 0, n, rs) = some (if rs.all (fun x => decide (RuleP n x)) = true then .inr () else .inl false) :=
      lim_scan (f := F19.l0.b) (fun k => ((rs.length : Int), (k : Int), n, rs)) rs z31 (fun x => decide (RuleP n x)) (y := .inl false) (z := .inr ()) (fun k hk => by
        have d1 : decide ((k : Int) < (rs.length : Int)) = true := dT (by omega)
        have d2 : decide ((0 : Int) ≤ (k : Int)) = true := dT (by omega)
        have w : Go.IntKind.wrap .i64 ((k : Int) + 1) = ((k + 1 : Nat) : Int) := by rw [w64 (by omega) (by omega)]; rfl
        generalize hx : rs.getD k z31 = x
        have b1 : ((((decide (x.f0 < 1)) || (decide (x.f0 > 9))) || (decide (x.f1 < 0))) || (decide (x.f1 ≥ n))) = decide (((x.f0 < 1 ∨ x.f0 > 9) ∨ x.f1 < 0) ∨ x.f1 ≥ n) := by
          simp only [Bool.decide_or]
        have b2 : ((((decide (x.f0 ≤ 2)) && (x.f2 != 0)) || (decide (x.f2 < 0))) || (decide (x.f2 ≥ n))) = decide (((x.f0 ≤ 2 ∧ x.f2 ≠ 0) ∨ x.f2 < 0) ∨ x.f2 ≥ n) := by
          simp only [Bool.decide_or, Bool.decide_and, neD]
        have b3 : ((((decide (x.f0 ≥ 7)) && (x.f3 != 0)) || (decide (x.f3 < (-100000)))) || (decide (x.f3 > 100000))) = decide (((x.f0 ≥ 7 ∧ x.f3 ≠ 0) ∨ x.f3 < -100000) ∨ x.f3 > 100000) := by
          simp only [Bool.decide_or, Bool.decide_and, neD]
        by_cases c1 : ((x.f0 < 1 ∨ x.f0 > 9) ∨ x.f1 < 0) ∨ x.f1 ≥ n
        · rw [dT c1] at b1
          have e : decide (RuleP n x) = false := dF fun q => by have := q.k1; have := q.k9; have := q.a0; have := q.an; omega
          simp only [F19.l0.b, Int.toNat_natCast, hx, d1, d2, Bool.and_self, cT, b1, e, Bool.false_eq_true, if_false]
        · rw [dF c1] at b1
          by_cases c2 : ((x.f0 ≤ 2 ∧ x.f2 ≠ 0) ∨ x.f2 < 0) ∨ x.f2 ≥ n
          · rw [dT c2] at b2
            have e : decide (RuleP n x) = false := dF fun q => by have := q.b0; have := q.bn; have := q.bz; omega
            simp only [F19.l0.b, Int.toNat_natCast, hx, d1, d2, Bool.and_self, cT, cF, b1, b2, e, Bool.false_eq_true, if_false]
          · rw [dF c2] at b2
            by_cases c3 : ((x.f0 ≥ 7 ∧ x.f3 ≠ 0) ∨ x.f3 < -100000) ∨ x.f3 > 100000
            · rw [dT c3] at b3
              have e : decide (RuleP n x) = false := dF fun q => by have := q.m0; have := q.m1; have := q.mz; omega
              simp only [F19.l0.b, Int.toNat_natCast, hx, d1, d2, Bool.and_self, cT, cF, b1, b2, b3, e, Bool.false_eq_true, if_false]
            · rw [dF c3] at b3
              have e : decide (RuleP n x) = true := dT ⟨by omega, by omega, by omega, by omega, by omega, by omega, by omega, by omega, by omega, by omega⟩
              simp only [F19.l0.b, Int.toNat_natCast, hx, d1, d2, Bool.and_self, cT, cF, b1, b2, b3, e, if_true, w])
      (by
        have d1 : decide ((rs.length : Int) < (rs.length : Int)) = false := dF (by omega)
        simp only [F19.l0.b, d1, cF])
    unfold headB at hh
    simp only [F19.F, hh, cF, l0, bS, Bool.not_false, Bool.true_and]
    cases rs.all (fun x => decide (RuleP n x)) <;> rfl

theorem F18.ok (n : Int) (rs : List S31) : F18.F (n, rs) = some (okS n rs) := by
  unfold okS
  cases hh : headB n rs with
  | true => unfold headB at hh; simp only [F18.F, hh, cT, Bool.not_true, Bool.false_and]
  | false =>
    obtain ⟨hl, h1, h24⟩ := head_len hh
    have l0 : F18.l0 (0, n, rs) = some (if rs.all (fun x => decide (RuleP n x)) = true then .inr () else .inl false) :=
      lim_scan (f := F18.l0.b) (fun k => ((k : Int), n, rs)) rs z31 (fun x => decide (RuleP n x)) (y := .inl false) (z := .inr ()) (fun k hk => by
        have d1 : decide ((k : Int) < (rs.length : Int)) = true := dT (by omega)
        have d2 : decide ((0 : Int) ≤ (k : Int)) = true := dT (by omega)
        have w : Go.IntKind.wrap .i64 ((k : Int) + 1) = ((k + 1 : Nat) : Int) := by rw [w64 (by omega) (by omega)]; rfl
        generalize hx : rs.getD k z31 = x
        have e35 : F35.F x.f0 = some ((decide (x.f0 ≥ 3)), (decide (x.f0 ≤ 6))) := rfl
        have b1 : ((((decide (x.f0 < 1)) || (decide (x.f0 > 9))) || (decide (x.f1 < 0))) || (decide (x.f1 ≥ n))) = decide (((x.f0 < 1 ∨ x.f0 > 9) ∨ x.f1 < 0) ∨ x.f1 ≥ n) := by
          simp only [Bool.decide_or]
        have b2 : ((decide (x.f0 ≥ 3) && ((decide (x.f2 < 0)) || (decide (x.f2 ≥ n)))) || ((!decide (x.f0 ≥ 3)) && (x.f2 != 0))) = decide ((x.f0 ≥ 3 ∧ (x.f2 < 0 ∨ x.f2 ≥ n)) ∨ (¬ x.f0 ≥ 3 ∧ x.f2 ≠ 0)) := by
          simp only [Bool.decide_or, Bool.decide_and, neD, decide_not]
        have b3 : ((decide (x.f0 ≤ 6) && ((decide (x.f3 < (-100000))) || (decide (x.f3 > 100000)))) || ((!decide (x.f0 ≤ 6)) && (x.f3 != 0))) = decide ((x.f0 ≤ 6 ∧ (x.f3 < -100000 ∨ x.f3 > 100000)) ∨ (¬ x.f0 ≤ 6 ∧ x.f3 ≠ 0)) := by
          simp only [Bool.decide_or, Bool.decide_and, neD, decide_not]
        by_cases c1 : ((x.f0 < 1 ∨ x.f0 > 9) ∨ x.f1 < 0) ∨ x.f1 ≥ n
        · rw [dT c1] at b1
          have e : decide (RuleP n x) = false := dF fun q => by have := q.k1; have := q.k9; have := q.a0; have := q.an; omega
          simp only [F18.l0.b, Int.toNat_natCast, hx, d1, d2, Bool.and_self, cT, b1, e, Bool.false_eq_true, if_false]
        · rw [dF c1] at b1
          by_cases c2 : (x.f0 ≥ 3 ∧ (x.f2 < 0 ∨ x.f2 ≥ n)) ∨ (¬ x.f0 ≥ 3 ∧ x.f2 ≠ 0)
          · rw [dT c2] at b2
            have e : decide (RuleP n x) = false := dF fun q => by have := q.b0; have := q.bn; have := q.bz; omega
            simp only [F18.l0.b, Int.toNat_natCast, hx, d1, d2, Bool.and_self, cT, cF, b1, e35, bS, b2, e, Bool.false_eq_true, if_false]
          · rw [dF c2] at b2
            by_cases c3 : (x.f0 ≤ 6 ∧ (x.f3 < -100000 ∨ x.f3 > 100000)) ∨ (¬ x.f0 ≤ 6 ∧ x.f3 ≠ 0)
            · rw [dT c3] at b3
              have e : decide (RuleP n x) = false := dF fun q => by have := q.m0; have := q.m1; have := q.mz; omega
              simp only [F18.l0.b, Int.toNat_natCast, hx, d1, d2, Bool.and_self, cT, cF, b1, e35, bS, b2, b3, e, Bool.false_eq_true, if_false]
            · rw [dF c3] at b3
              have e : decide (RuleP n x) = true := dT ⟨by omega, by omega, by omega, by omega, by omega, by omega, by omega, by omega, by omega, by omega⟩
              simp only [F18.l0.b, Int.toNat_natCast, hx, d1, d2, Bool.and_self, cT, cF, b1, e35, bS, b2, b3, e, if_true, w])
      (by
        have d1 : decide ((rs.length : Int) < (rs.length : Int)) = false := dF (by omega)
        simp only [F18.l0.b, d1, cF])
    unfold headB at hh
    simp only [F18.F, hh, cF, l0, bS, Bool.not_false, Bool.true_and]
    cases rs.all (fun x => decide (RuleP n x)) <;> rfl

end Go.Proofs.Ytciafkboilgblaa.AX

/- Least solutions by rounds: so many rounds are enough. No conditions. -/
namespace Go.Proofs.Ytciafkboilgblaa.AX

structure Ed where
  a : Nat
  b : Nat
  c : Int
def stpG (s : Bool × List Int) (e : Ed) : Bool × List Int := if s.2.getD e.a 0 + e.c > s.2.getD e.b 0 then (true, s.2.set e.b (s.2.getD e.a 0 + e.c)) else s
def rnd (Es : List Ed) (v : List Int) : Bool × List Int := Es.foldl stpG (false, v)
def Fix (Es : List Ed) (v : List Int) : Prop := ∀ e ∈ Es, v.getD e.a 0 + e.c ≤ v.getD e.b 0
def Val (N : Nat) (Es : List Ed) : Prop := ∀ e ∈ Es, e.a < N ∧ e.b < N
def Le (v w : List Int) : Prop := ∀ i, v.getD i 0 ≤ w.getD i 0

theorem gD_set {l : List Int} {i j : Nat} {x : Int} (h : i < l.length) : (l.set i x).getD j 0 = if i = j then x else l.getD j 0 := by
  simp only [List.getD, List.getElem?_set]
  by_cases e : i = j
  · subst e; simp [h]
  · simp [e]

theorem stp_len {s : Bool × List Int} {e : Ed} : (stpG s e).2.length = s.2.length := by
  unfold stpG; split <;> simp
theorem fold_len : ∀ {Es : List Ed} {s : Bool × List Int}, (Es.foldl stpG s).2.length = s.2.length
  | [], s => rfl
  | e :: Es, s => by rw [List.foldl_cons, fold_len, stp_len]

theorem stp_mono {s : Bool × List Int} {e : Ed} (h : e.b < s.2.length) : Le s.2 (stpG s e).2 := fun i => by
  unfold stpG
  split
  · dsimp only
    rw [gD_set h]
    split
    · rename_i hc he; subst he; omega
    · omega
  · omega
theorem fold_mono {N : Nat} : ∀ {Es : List Ed} {s : Bool × List Int}, Val N Es → s.2.length = N → Le s.2 (Es.foldl stpG s).2
  | [], s, _, _ => fun i => Int.le_refl _
  | e :: Es, s, hv, hl => fun i => by
    have h1 := stp_mono (s := s) (e := e) (by have := (hv e (by simp)).2; omega) i
    have h2 := fold_mono (Es := Es) (s := stpG s e) (fun x hx => hv x (by simp [hx])) (by rw [stp_len]; exact hl) i
    rw [List.foldl_cons]
    omega
theorem fold_le {N : Nat} : ∀ {Es : List Ed} {s : Bool × List Int} {f : List Int}, Val N Es → s.2.length = N → (∀ e ∈ Es, f.getD e.a 0 + e.c ≤ f.getD e.b 0) → Le s.2 f → Le (Es.foldl stpG s).2 f
  | [], s, f, _, _, _, h => h
  | e :: Es, s, f, hv, hl, hf, h => by
    rw [List.foldl_cons]
    refine fold_le (fun x hx => hv x (by simp [hx])) (by rw [stp_len]; exact hl) (fun x hx => hf x (by simp [hx])) fun i => ?_
    unfold stpG
    split
    · dsimp only
      rw [gD_set (by have := (hv e (by simp)).2; omega)]
      split
      · rename_i hc he; subst he; have := hf e (by simp); have := h e.a; omega
      · exact h i
    · exact h i
theorem fold_true : ∀ {Es : List Ed} {s : Bool × List Int}, s.1 = true → (Es.foldl stpG s).1 = true
  | [], s, h => h
  | e :: Es, s, h => by
    rw [List.foldl_cons]
    refine fold_true ?_
    unfold stpG; split <;> simp [h]
theorem fold_false : ∀ {Es : List Ed} {s : Bool × List Int}, (Es.foldl stpG s).1 = false → Es.foldl stpG s = s ∧ Fix Es s.2
  | [], s, h => ⟨rfl, fun e he => by simp at he⟩
  | e :: Es, s, h => by
    rw [List.foldl_cons] at h ⊢
    by_cases hc : s.2.getD e.a 0 + e.c > s.2.getD e.b 0
    · have : (stpG s e).1 = true := by unfold stpG; rw [if_pos hc]
      rw [fold_true this] at h; cases h
    · have he : stpG s e = s := by unfold stpG; rw [if_neg hc]
      rw [he] at h ⊢
      obtain ⟨h1, h2⟩ := fold_false h
      refine ⟨h1, fun x hx => ?_⟩
      rcases List.mem_cons.1 hx with rfl | hx
      · omega
      · exact h2 x hx
theorem fold_fix : ∀ {Es : List Ed} {s : Bool × List Int}, Fix Es s.2 → Es.foldl stpG s = s
  | [], s, h => rfl
  | e :: Es, s, h => by
    have he : stpG s e = s := by unfold stpG; rw [if_neg (by have := h e (by simp); omega)]
    rw [List.foldl_cons, he]
    exact fold_fix fun x hx => h x (by simp [hx])
theorem fold_tight {N : Nat} : ∀ {Es : List Ed} {s : Bool × List Int} {e : Ed}, Val N Es → s.2.length = N → e ∈ Es → s.2.getD e.a 0 + e.c ≤ (Es.foldl stpG s).2.getD e.b 0
  | x :: Es, s, e, hv, hl, he => by
    rw [List.foldl_cons]
    have hv' : Val N Es := fun y hy => hv y (by simp [hy])
    have hl' : (stpG s x).2.length = N := by rw [stp_len]; exact hl
    have hm := fold_mono hv' hl'
    have hb := hv x (by simp)
    rcases List.mem_cons.1 he with rfl | he
    · have h1 := hm e.b
      have h2 : s.2.getD e.a 0 + e.c ≤ (stpG s e).2.getD e.b 0 := by
        unfold stpG
        split
        · dsimp only; rw [gD_set (by omega), if_pos rfl]; omega
        · omega
      omega
    · have h1 := fold_tight (s := stpG s x) hv' hl' he
      have h2 := stp_mono (s := s) (e := x) (by omega) e.a
      omega

def cntN (p : Nat → Bool) : Nat → Nat
  | 0 => 0
  | n + 1 => cntN p n + (if p n = true then 1 else 0)
theorem cntN_le (p : Nat → Bool) : ∀ n, cntN p n ≤ n
  | 0 => Nat.le_refl _
  | n + 1 => by have := cntN_le p n; simp only [cntN]; split <;> omega
theorem cntN_mono {p q : Nat → Bool} : ∀ {n}, (∀ i, i < n → p i = true → q i = true) → cntN p n ≤ cntN q n
  | 0, _ => Nat.le_refl _
  | n + 1, h => by
    have h1 := cntN_mono (n := n) fun i hi => h i (by omega)
    have h2 := h n (by omega)
    simp only [cntN]
    cases hp : p n with
    | true => simp only [h2 hp, if_true]; omega
    | false => rw [if_neg (by decide)]; split <;> omega
theorem cntN_lt {p q : Nat → Bool} : ∀ {n}, (∀ i, i < n → p i = true → q i = true) → (∃ i, i < n ∧ p i = false ∧ q i = true) → cntN p n + 1 ≤ cntN q n
  | 0, _, ⟨i, hi, _⟩ => by omega
  | n + 1, h, ⟨i, hi, h1, h2⟩ => by
    simp only [cntN]
    by_cases e : i = n
    · subst e
      have := cntN_mono (n := i) fun j hj => h j (by omega)
      rw [h1, h2, if_neg (by decide), if_pos rfl]; omega
    · have h3 := cntN_lt (n := n) (fun j hj => h j (by omega)) ⟨i, by omega, h1, h2⟩
      have h4 := h n (by omega)
      cases hp : p n with
      | true => simp only [h4 hp, if_true]; omega
      | false => rw [if_neg (by decide)]; split <;> omega

theorem ext0 {v w : List Int} (hl : v.length = w.length) (h : ∀ i, i < v.length → v.getD i 0 = w.getD i 0) : v = w := by
  apply List.ext_getElem hl
  intro i h1 h2
  have := h i h1
  simpa [List.getD, h1, h2] using this

/-- Growing rounds are no more than there are places. -/
theorem bf_bound {Es : List Ed} {N : Nat} (hE : Val N Es) {V : Nat → List Int} (hV : ∀ k, V (k + 1) = (rnd Es (V k)).2) (h0 : (V 0).length = N) {m : Nat} (hfix : (rnd Es (V m)).1 = false) (hg : ∀ k, k < m → (rnd Es (V k)).1 = true) : m ≤ N := by
  have hlen : ∀ k, (V k).length = N := fun k => by
    induction k with
    | zero => exact h0
    | succ k ih => rw [hV]; unfold rnd; rw [fold_len]; exact ih
  have hmono : ∀ k, Le (V k) (V (k + 1)) := fun k => by rw [hV]; exact fold_mono (s := (false, V k)) hE (hlen k)
  have hle : ∀ k j, Le (V k) (V (k + j)) := fun k j => by
    induction j with
    | zero => exact fun i => Int.le_refl _
    | succ j ih => exact fun i => Int.le_trans (ih i) (hmono (k + j) i)
  have hF : Fix Es (V m) := (fold_false hfix).2
  -- each growing round settles one more
  have key : ∀ k, k ≤ m → k ≤ cntN (fun i => (V k).getD i 0 == (V m).getD i 0) N := by
    intro k
    induction k with
    | zero => intro _; exact Nat.zero_le _
    | succ k ih =>
      intro hk
      have h1 := ih (by omega)
      have hkm : Le (V k) (V m) := by have := hle k (m - k); rwa [show k + (m - k) = m by omega] at this
      have hkm' : Le (V (k + 1)) (V m) := by have := hle (k + 1) (m - (k + 1)); rwa [show k + 1 + (m - (k + 1)) = m by omega] at this
      -- not yet settled
      have hne : ∃ i, i < N ∧ (V k).getD i 0 ≠ (V m).getD i 0 := by
        apply Classical.byContradiction
        intro hc
        have : V k = V m := ext0 (by rw [hlen, hlen]) fun i hi => by
          apply Classical.byContradiction
          intro hne
          exact hc ⟨i, by rw [hlen] at hi; exact hi, hne⟩
        have h2 := hg k (by omega)
        rw [this, hfix] at h2
        cases h2
      obtain ⟨i0, hi0, hi0n⟩ := hne
      have htight : ∃ e ∈ Es, (V k).getD e.a 0 = (V m).getD e.a 0 ∧ (V k).getD e.b 0 ≠ (V m).getD e.b 0 ∧ (V m).getD e.a 0 + e.c = (V m).getD e.b 0 := by
        apply Classical.byContradiction
        intro hc
        let f : List Int := (List.range N).map fun i => if (V k).getD i 0 = (V m).getD i 0 then (V m).getD i 0 else (V m).getD i 0 - 1
        have hf : ∀ i, i < N → f.getD i 0 = if (V k).getD i 0 = (V m).getD i 0 then (V m).getD i 0 else (V m).getD i 0 - 1 := fun i hi => by
          show ((List.range N).map _).getD i 0 = _
          simp only [List.getD, List.getElem?_map, List.getElem?_range hi, Option.map_some, Option.getD_some]
        have hfo : ∀ i, N ≤ i → f.getD i 0 = 0 := fun i hi => by
          show ((List.range N).map _).getD i 0 = 0
          simp only [List.getD, List.getElem?_map]
          rw [List.getElem?_eq_none (by simpa using hi)]; rfl
        have hff : Fix Es f := fun e he => by
          obtain ⟨ha, hb⟩ := hE e he
          rw [hf _ ha, hf _ hb]
          have h3 := hF e he
          have h4 := hkm e.a
          have h5 := hkm e.b
          by_cases c1 : (V k).getD e.a 0 = (V m).getD e.a 0
          · by_cases c2 : (V k).getD e.b 0 = (V m).getD e.b 0
            · rw [if_pos c1, if_pos c2]; exact h3
            · rw [if_pos c1, if_neg c2]
              have : (V m).getD e.a 0 + e.c ≠ (V m).getD e.b 0 := fun h => hc ⟨e, he, c1, c2, h⟩
              omega
          · rw [if_neg c1]
            split <;> omega
        have hkf : Le (V k) f := fun i => by
          by_cases hi : i < N
          · rw [hf i hi]
            have := hkm i
            split <;> omega
          · rw [hfo i (by omega)]
            have hl := hlen k
            rw [List.getD, List.getElem?_eq_none (by omega)]
            exact Int.le_refl _
        have hall : ∀ j, Le (V (k + j)) f := fun j => by
          induction j with
          | zero => exact hkf
          | succ j ih => rw [show k + (j + 1) = (k + j) + 1 by omega, hV]; exact fold_le (s := (false, V (k + j))) hE (hlen _) hff ih
        have h6 := hall (m - k) i0
        rw [show k + (m - k) = m by omega, hf i0 hi0, if_neg hi0n] at h6
        omega
      obtain ⟨e, he, t1, t2, t3⟩ := htight
      have hb := (hE e he).2
      have h7 : (V k).getD e.a 0 + e.c ≤ (V (k + 1)).getD e.b 0 := by rw [hV]; exact fold_tight (s := (false, V k)) hE (hlen k) he
      have h8 := hkm' e.b
      have := cntN_lt (p := fun i => (V k).getD i 0 == (V m).getD i 0) (q := fun i => (V (k + 1)).getD i 0 == (V m).getD i 0) (n := N) (fun i hi hp => by
        have hp : (V k).getD i 0 = (V m).getD i 0 := by simpa using hp
        have h9 := hmono k i
        have h10 := hkm' i
        have : (V (k + 1)).getD i 0 = (V m).getD i 0 := by omega
        simpa using this) ⟨e.b, hb, by simpa using t2, by
          have : (V (k + 1)).getD e.b 0 = (V m).getD e.b 0 := by omega
          simpa using this⟩
      omega
  exact Nat.le_trans (key m (Nat.le_refl _)) (cntN_le _ _)

/-- The program's rounds. -/
def bfI (Es : List Ed) (n : Nat) : Nat → Nat → List Int → Option (List Int)
  | 0, _, _ => none
  | f + 1, k, v => if (rnd Es v).1 = false then some (rnd Es v).2 else if k > n + 1 ∨ (rnd Es v).2.getD n 0 > 0 then none else bfI Es n f (k + 1) (rnd Es v).2
/-- The reference's. -/
def bfS (Es : List Ed) (n : Nat) : Nat → List Int → List Int × Bool
  | 0, v => (v, false)
  | f + 1, v => if (rnd Es v).1 = false then ((rnd Es v).2, (rnd Es v).2.getD n 0 == 0) else bfS Es n f (rnd Es v).2

theorem bfS_pos {Es : List Ed} {n : Nat} (hE : Val (n + 1) Es) : ∀ {f : Nat} {v : List Int}, v.length = n + 1 → v.getD n 0 > 0 → (bfS Es n f v).2 = false
  | 0, _, _, _ => rfl
  | f + 1, v, hl, hp => by
    have h1 := fold_mono (s := (false, v)) hE hl n
    have h1 : v.getD n 0 ≤ (rnd Es v).2.getD n 0 := h1
    simp only [bfS]
    split
    · have : (rnd Es v).2.getD n 0 ≠ 0 := by omega
      simpa using this
    · exact bfS_pos hE (by unfold rnd; rw [fold_len]; exact hl) (by omega)

theorem bf_eq {Es : List Ed} {n : Nat} (hE : Val (n + 1) Es) {V : Nat → List Int} (hV : ∀ k, V (k + 1) = (rnd Es (V k)).2) (h0 : (V 0).length = n + 1) (hp : ∀ i, 0 ≤ (V 0).getD i 0) :
    ∀ (r j : Nat), j + r = n + 2 → (∀ k, k < j → (rnd Es (V k)).1 = true) → (V j).getD n 0 ≤ 0 → (bfI Es n (r + 1) j (V j)).isSome = (bfS Es n r (V j)).2 := by
  have hlen : ∀ k, (V k).length = n + 1 := fun k => by
    induction k with
    | zero => exact h0
    | succ k ih => rw [hV]; unfold rnd; rw [fold_len]; exact ih
  have hpos : ∀ k i, 0 ≤ (V k).getD i 0 := fun k => by
    induction k with
    | zero => exact hp
    | succ k ih => intro i; rw [hV]; exact Int.le_trans (ih i) (fold_mono (s := (false, V k)) hE (hlen k) i)
  intro r
  induction r with
  | zero =>
    intro j hj hg hz
    simp only [bfI, bfS]
    cases hr : (rnd Es (V j)).1 with
    | false => have := bf_bound hE hV h0 hr hg; omega
    | true => rw [if_neg (by decide), if_pos (.inl (by omega))]; rfl
  | succ r ih =>
    intro j hj hg hz
    rw [bfI, bfS]
    cases hr : (rnd Es (V j)).1 with
    | false =>
      have h1 := (fold_false hr).1
      have h2 : (rnd Es (V j)).2 = V j := by unfold rnd; rw [h1]
      have h3 := hpos j n
      have : (V j).getD n 0 = 0 := by omega
      rw [if_pos rfl, if_pos rfl, h2, this]; rfl
    | true =>
      simp only [Bool.true_eq_false, if_false]
      by_cases hq : (rnd Es (V j)).2.getD n 0 > 0
      · rw [if_pos (.inr hq)]
        exact (bfS_pos hE (by rw [← hV]; exact hlen _) hq).symm
      · rw [if_neg (by omega), ← hV]
        exact ih (j + 1) (by omega) (fun k hk => by
          by_cases e : k = j
          · subst e; exact hr
          · exact hg k (by omega)) (by rw [hV]; omega)

end Go.Proofs.Ytciafkboilgblaa.AX

/- Sketches: what the rules say of an axis; rounds. No conditions. -/
namespace Go.Proofs.Ytciafkboilgblaa.AX
open Go

/-- What a rule says of an axis. -/
def eR (a n : Int) (x : S31) : List S81 :=
  bif x.f0 == 1 + a then [⟨n, x.f1, x.f3⟩, ⟨x.f1, n, 0 - x.f3⟩] else bif x.f0 == 3 + a then [⟨x.f1, x.f2, x.f3⟩, ⟨x.f2, x.f1, 0 - x.f3⟩] else
  bif x.f0 == 5 + a then [⟨x.f1, x.f2, x.f3⟩] else bif x.f0 == 7 + a then [⟨x.f1, x.f2, 0⟩, ⟨x.f2, x.f1, 0⟩] else bif x.f0 == 9 then [⟨x.f1, x.f2, 0⟩, ⟨x.f2, x.f1, 0⟩] else []
def mE (a n : Int) : List S31 → List Bool → List S81
  | x :: r, b :: m => (bif b then eR a n x else []) ++ mE a n r m
  | _, _ => []
def bE (n : Int) (m : Nat) : List S81 := (List.range m).flatMap fun (i : Nat) => [⟨n, (i : Int), 0⟩, ⟨(i : Int), n, -100000⟩]
theorem bE_succ (n : Int) (m : Nat) : bE n (m + 1) = bE n m ++ [⟨n, (m : Int), 0⟩, ⟨(m : Int), n, -100000⟩] := by
  unfold bE; rw [List.range_succ, List.flatMap_append]; rfl
theorem bE_len (n : Int) : ∀ m : Nat, (bE n m).length = 2 * m
  | 0 => rfl
  | m + 1 => by rw [bE_succ, List.length_append, bE_len]; simp; omega
theorem eR_len (a n : Int) (x : S31) : (eR a n x).length ≤ 2 := by
  unfold eR
  cases x.f0 == 1 + a <;> cases x.f0 == 3 + a <;> cases x.f0 == 5 + a <;> cases x.f0 == 7 + a <;> cases x.f0 == 9 <;> simp
theorem mE_len (a n : Int) : ∀ (l : List S31) (m : List Bool), (mE a n l m).length ≤ 2 * l.length
  | [], m => by simp [mE]
  | x :: r, [] => by simp [mE]
  | x :: r, b :: m => by
    have h1 := mE_len a n r m
    have h2 := eR_len a n x
    simp only [mE, List.length_append, List.length_cons]
    cases b
    · simp; omega
    · simp; omega

structure EdP (n : Nat) (e : S81) : Prop where
  a0 : 0 ≤ e.f0
  an : e.f0 ≤ n
  b0 : 0 ≤ e.f1
  bn : e.f1 ≤ n
  c0 : -100000 ≤ e.f2
  c1 : e.f2 ≤ 100000
theorem eR_ok {a : Int} {n : Nat} {x : S31} (h : RuleP n x) : ∀ e ∈ eR a n x, EdP n e := by
  intro e he
  have := h.a0; have := h.an; have := h.b0; have := h.bn; have := h.m0; have := h.m1
  unfold eR at he
  cases h1 : x.f0 == 1 + a with
  | true =>
    rw [h1, cT] at he
    simp only [List.mem_cons, List.not_mem_nil, or_false] at he
    rcases he with rfl | rfl <;> exact ⟨by dsimp only; omega, by dsimp only; omega, by dsimp only; omega, by dsimp only; omega, by dsimp only; omega, by dsimp only; omega⟩
  | false =>
    rw [h1, cF] at he
    cases h2 : x.f0 == 3 + a with
    | true =>
      rw [h2, cT] at he
      simp only [List.mem_cons, List.not_mem_nil, or_false] at he
      rcases he with rfl | rfl <;> exact ⟨by dsimp only; omega, by dsimp only; omega, by dsimp only; omega, by dsimp only; omega, by dsimp only; omega, by dsimp only; omega⟩
    | false =>
      rw [h2, cF] at he
      cases h3 : x.f0 == 5 + a with
      | true =>
        rw [h3, cT] at he
        simp only [List.mem_cons, List.not_mem_nil, or_false] at he
        rcases he with rfl; exact ⟨by dsimp only; omega, by dsimp only; omega, by dsimp only; omega, by dsimp only; omega, by dsimp only; omega, by dsimp only; omega⟩
      | false =>
        rw [h3, cF] at he
        cases h4 : x.f0 == 7 + a with
        | true =>
          rw [h4, cT] at he
          simp only [List.mem_cons, List.not_mem_nil, or_false] at he
          rcases he with rfl | rfl <;> exact ⟨by dsimp only; omega, by dsimp only; omega, by dsimp only; omega, by dsimp only; omega, by dsimp only; omega, by dsimp only; omega⟩
        | false =>
          rw [h4, cF] at he
          cases h5 : x.f0 == 9 with
          | true =>
            rw [h5, cT] at he
            simp only [List.mem_cons, List.not_mem_nil, or_false] at he
            rcases he with rfl | rfl <;> exact ⟨by dsimp only; omega, by dsimp only; omega, by dsimp only; omega, by dsimp only; omega, by dsimp only; omega, by dsimp only; omega⟩
          | false => rw [h5, cF] at he; simp at he
theorem mE_ok {a : Int} {n : Nat} : ∀ {l : List S31} {m : List Bool}, (∀ x ∈ l, RuleP n x) → ∀ e ∈ mE a n l m, EdP n e
  | [], m, _, e, he => by simp [mE] at he
  | x :: r, [], _, e, he => by simp [mE] at he
  | x :: r, b :: m, h, e, he => by
    simp only [mE] at he
    rcases List.mem_append.1 he with q | q
    · cases b
      · simp at q
      · exact eR_ok (h x (by simp)) e q
    · exact mE_ok (fun y hy => h y (by simp [hy])) e q
theorem bE_ok {n : Nat} : ∀ {m : Nat}, m ≤ n → ∀ e ∈ bE n m, EdP n e := fun {m} hm e he => by
  unfold bE at he
  obtain ⟨i, hi, he⟩ := List.mem_flatMap.1 he
  have := List.mem_range.1 hi
  simp only [List.mem_cons, List.not_mem_nil, or_false] at he
  rcases he with rfl | rfl <;> exact ⟨by dsimp only; omega, by dsimp only; omega, by dsimp only; omega, by dsimp only; omega, by dsimp only; omega, by dsimp only; omega⟩

/-- All that is said of an axis. -/
def aE (a : Int) (n : Nat) (rs : List S31) (m : List Bool) : List S81 := bE n n ++ mE a n rs m
theorem aE_ok {a : Int} {n : Nat} {rs : List S31} {m : List Bool} (h : ∀ x ∈ rs, RuleP n x) : ∀ e ∈ aE a n rs m, EdP n e := fun e he => by
  unfold aE at he
  rcases List.mem_append.1 he with q | q
  · exact bE_ok (Nat.le_refl n) e q
  · exact mE_ok h e q
theorem aE_len {a : Int} {n : Nat} {rs : List S31} {m : List Bool} (hn : n ≤ 24) (hr : rs.length ≤ 60) : (aE a n rs m).length ≤ 168 := by
  unfold aE
  have := mE_len a n rs m
  rw [List.length_append, bE_len]; omega

theorem F45.ok (p0 p1 p2 : Int) (l : List S81) (hl : l.length ≤ 1000) (h0 : -100000 ≤ p2) (h1 : p2 ≤ 100000) : F45.F (p0, p1, p2, l) = some (l ++ [⟨p0, p1, p2⟩, ⟨p1, p0, 0 - p2⟩]) := by
  have w : Go.IntKind.wrap .i64 (0 - p2) = 0 - p2 := w64 (by omega) (by omega)
  have d : decide ((l.length + ((⟨p0, p1, p2⟩ : S81) :: (⟨p1, p0, 0 - p2⟩ : S81) :: []).length) ≤ 274877906944) = true := dT (by simp only [List.length_cons, List.length_nil]; omega)
  simp only [F45.F, w, d, cT]

theorem F43.l0_ok (a : Int) (n : Nat) (hn : n ≤ 24) (b : Int) (m : List Bool) (rs : List S31) : F43.l0 (a, (n : Int), 0, b, m, rs, []) = some (a, (n : Int), b, m, rs, bE n n) := by
  exact lim_run (f := F43.l0.b) (fun i => (a, (n : Int), (i : Int), b, m, rs, bE n i)) n (y := (a, (n : Int), b, m, rs, bE n n)) (fun i hi => by
    have d1 : decide ((i : Int) < (n : Int)) = true := dT (by omega)
    have hl := bE_len (n : Int) i
    have d2 : decide (((bE (n : Int) i).length + ((⟨(n : Int), (i : Int), 0⟩ : S81) :: (⟨(i : Int), (n : Int), -100000⟩ : S81) :: []).length) ≤ 274877906944) = true := dT (by simp only [List.length_cons, List.length_nil]; omega)
    have w : Go.IntKind.wrap .i64 ((i : Int) + 1) = ((i + 1 : Nat) : Int) := by rw [w64 (by omega) (by omega)]; rfl
    have e := bE_succ (n : Int) i
    simp only [F43.l0.b, d1, d2, cT, w]
    rw [e])
    (by
      have d1 : decide ((n : Int) < (n : Int)) = false := dF (by omega)
      simp only [F43.l0.b, d1, cF])

theorem F43.l2_ok (a : Int) (ha : a = 0 ∨ a = 1) (n : Nat) (rs : List S31) (hr : rs.length ≤ 60) (hx : ∀ x ∈ rs, RuleP n x) (m : List Bool) (hm : m.length = rs.length) : ∀ (r i : Nat) (acc : List S81), i + r = rs.length → acc.length + 2 * r ≤ 900 →
    F43.l2 (a, (n : Int), (rs.length : Int), (i : Int), m, rs, acc) = some (acc ++ mE a n (rs.drop i) (m.drop i))
  | 0, i, acc, hi, hacc => by
    have d : decide ((i : Int) < (rs.length : Int)) = false := dF (by omega)
    rw [List.drop_eq_nil_of_le (by omega)]
    simp only [mE, List.append_nil]
    unfold F43.l2
    exact lim_out (by simp only [F43.l2.b, d, cF])
  | r + 1, i, acc, hi, hacc => by
    have hlt : i < rs.length := by omega
    have d : decide ((i : Int) < (rs.length : Int)) = true := dT (by omega)
    have d2 : decide ((0 : Int) ≤ (i : Int)) = true := dT (by omega)
    have d3 : decide ((i : Int) < (m.length : Int)) = true := dT (by omega)
    have w : Go.IntKind.wrap .i64 ((i : Int) + 1) = ((i + 1 : Nat) : Int) := by rw [w64 (by omega) (by omega)]; rfl
    have wa : ∀ c : Int, 0 ≤ c → c ≤ 10 → Go.IntKind.wrap .i64 (c + a) = c + a := fun c h0 h1 => w64 (by omega) (by omega)
    have hg : rs.getD i z31 = rs[i] := getD_lt hlt
    have hgm : m.getD i false = m[i] := getD_lt (by omega)
    have hxx := hx rs[i] (List.getElem_mem hlt)
    rw [drop_cons hlt, drop_cons (show i < m.length by omega)]
    simp only [mE]
    generalize rs[i] = x at hg hxx
    have go : ∀ acc' : List S81, acc'.length ≤ acc.length + 2 → F43.l2.b (a, (n : Int), (rs.length : Int), (i : Int), m, rs, acc) = some (.inl (a, (n : Int), (rs.length : Int), ((i + 1 : Nat) : Int), m, rs, acc')) → F43.l2 (a, (n : Int), (rs.length : Int), (i : Int), m, rs, acc) = some (acc' ++ mE a n (rs.drop (i + 1)) (m.drop (i + 1))) := fun acc' hl hb => by
      rw [← F43.l2_ok a ha n rs hr hx m hm r (i + 1) acc' (by omega) (by omega)]
      unfold F43.l2
      exact lim_in hb
    rw [← List.append_assoc]
    cases hb : m[i] with
    | false =>
      rw [hb] at hgm
      rw [cF, List.append_nil]
      exact go acc (by omega) (by simp only [F43.l2.b, d, d2, d3, Bool.and_self, cT, Int.toNat_natCast, hgm, Bool.not_false, w])
    | true =>
      rw [hb] at hgm
      rw [cT]
      have hel := eR_len a n x
      refine go (acc ++ eR a n x) (by rw [List.length_append]; omega) ?_
      have f1 := fun p0 p1 => F45.ok p0 p1 x.f3 acc (by omega) hxx.m0 hxx.m1
      have f0 := fun p0 p1 => F45.ok p0 p1 0 acc (by omega) (by decide) (by decide)
      rw [show (0 : Int) - 0 = 0 from rfl] at f0
      have d5 : decide ((acc.length + ((⟨x.f1, x.f2, x.f3⟩ : S81) :: []).length) ≤ 274877906944) = true := dT (by simp only [List.length_cons, List.length_nil]; omega)
      unfold eR
      cases h1 : x.f0 == 1 + a with
      | true => simp only [F43.l2.b, d, d2, d3, Bool.and_self, cT, cF, Int.toNat_natCast, hgm, hg, Bool.not_true, wa 1 (by decide) (by decide), h1, f1, bS, w]
      | false =>
        cases h2 : x.f0 == 3 + a with
        | true => simp only [F43.l2.b, d, d2, d3, Bool.and_self, cT, cF, Int.toNat_natCast, hgm, hg, Bool.not_true, wa 1 (by decide) (by decide), wa 3 (by decide) (by decide), h1, h2, f1, bS, w]
        | false =>
          cases h3 : x.f0 == 5 + a with
          | true => simp only [F43.l2.b, d, d2, d3, Bool.and_self, cT, cF, Int.toNat_natCast, hgm, hg, Bool.not_true, wa 1 (by decide) (by decide), wa 3 (by decide) (by decide), wa 5 (by decide) (by decide), h1, h2, h3, d5, bS, w]
          | false =>
            cases h4 : x.f0 == 7 + a with
            | true => simp only [F43.l2.b, d, d2, d3, Bool.and_self, cT, cF, Int.toNat_natCast, hgm, hg, Bool.not_true, wa 1 (by decide) (by decide), wa 3 (by decide) (by decide), wa 5 (by decide) (by decide), wa 7 (by decide) (by decide), h1, h2, h3, h4, f0, bS, w]
            | false =>
              cases h5 : x.f0 == 9 with
              | true => simp only [F43.l2.b, d, d2, d3, Bool.and_self, cT, cF, Int.toNat_natCast, hgm, hg, Bool.not_true, wa 1 (by decide) (by decide), wa 3 (by decide) (by decide), wa 5 (by decide) (by decide), wa 7 (by decide) (by decide), h1, h2, h3, h4, h5, f0, bS, w]
              | false => simp only [F43.l2.b, d, d2, d3, Bool.and_self, cT, cF, Int.toNat_natCast, hgm, hg, Bool.not_true, wa 1 (by decide) (by decide), wa 3 (by decide) (by decide), wa 5 (by decide) (by decide), wa 7 (by decide) (by decide), h1, h2, h3, h4, h5, List.append_nil, bS, w]

theorem F43.ok (a : Int) (ha : a = 0 ∨ a = 1) (n : Nat) (hn : n ≤ 24) (rs : List S31) (hr : rs.length ≤ 60) (hx : ∀ x ∈ rs, RuleP n x) (m : List Bool) (hm : m.length = rs.length) : F43.F (((n : Int), rs), a, m) = some (aE a n rs m) := by
  have l0 := F43.l0_ok a n hn (n : Int) m rs
  have l2 := F43.l2_ok a ha n rs hr hx m hm rs.length 0 (bE n n) (by omega) (by rw [bE_len]; omega)
  rw [show ((0 : Nat) : Int) = 0 from rfl, List.drop_zero, List.drop_zero] at l2
  simp only [F43.F, l0, bS, l2]
  rfl

/- The reference's. -/
def c85 (e : S81) : S85 := ⟨e.f0, e.f1, e.f2⟩
def tru (rs : List S31) : List Bool := List.replicate rs.length true
theorem F44.l0_ok (a : Int) (n : Nat) (hn : n ≤ 24) (b : Int) (m : List Int) (rs : List S31) : F44.l0 (a, (n : Int), 0, b, m, [], rs) = some (a, (n : Int), b, m, (bE n n).map c85, rs) := by
  exact lim_run (f := F44.l0.b) (fun i => (a, (n : Int), (i : Int), b, m, (bE n i).map c85, rs)) n (y := (a, (n : Int), b, m, (bE n n).map c85, rs)) (fun i hi => by
    have d1 : decide ((i : Int) < (n : Int)) = true := dT (by omega)
    have hl := bE_len (n : Int) i
    have d2 : decide ((((bE (n : Int) i).map c85).length + ((⟨(n : Int), (i : Int), 0⟩ : S85) :: (⟨(i : Int), (n : Int), -100000⟩ : S85) :: []).length) ≤ 274877906944) = true := dT (by simp only [List.length_map, List.length_cons, List.length_nil]; omega)
    have w : Go.IntKind.wrap .i64 ((i : Int) + 1) = ((i + 1 : Nat) : Int) := by rw [w64 (by omega) (by omega)]; rfl
    have e := bE_succ (n : Int) i
    simp only [F44.l0.b, d1, d2, cT, w]
    rw [e, List.map_append]
    rfl)
    (by
      have d1 : decide ((n : Int) < (n : Int)) = false := dF (by omega)
      simp only [F44.l0.b, d1, cF])

def idxs (k : Nat) : List Int := (List.range k).map fun (i : Nat) => (i : Int)
theorem idxs_get {k i : Nat} (h : i < k) : (idxs k).getD i 0 = (i : Int) := by
  unfold idxs
  rw [getD_lt (by simpa using h)]; simp

theorem F44.l2_ok (a : Int) (ha : a = 0 ∨ a = 1) (n : Nat) (b : Int) (rs : List S31) (hr : rs.length ≤ 60) (hx : ∀ x ∈ rs, RuleP n x) : ∀ (r i : Nat) (acc : List S81), i + r = rs.length → acc.length + 2 * r ≤ 900 →
    F44.l2 (a, (n : Int), (i : Int), b, idxs rs.length, acc.map c85, rs) = some ((acc ++ mE a n (rs.drop i) ((tru rs).drop i)).map c85)
  | 0, i, acc, hi, hacc => by
    have hil : (idxs rs.length).length = rs.length := by simp [idxs]
    have d : decide ((i : Int) < ((idxs rs.length).length : Int)) = false := dF (by omega)
    rw [List.drop_eq_nil_of_le (by omega)]
    simp only [mE, List.append_nil]
    unfold F44.l2
    exact lim_out (by simp only [F44.l2.b, d, cF])
  | r + 1, i, acc, hi, hacc => by
    have hlt : i < rs.length := by omega
    have hil : (idxs rs.length).length = rs.length := by simp [idxs]
    have htl : (tru rs).length = rs.length := by simp [tru]
    have d : decide ((i : Int) < ((idxs rs.length).length : Int)) = true := dT (by omega)
    have d2 : decide ((0 : Int) ≤ (i : Int)) = true := dT (by omega)
    have d3 : decide ((i : Int) < (rs.length : Int)) = true := dT (by omega)
    have w : Go.IntKind.wrap .i64 ((i : Int) + 1) = ((i + 1 : Nat) : Int) := by rw [w64 (by omega) (by omega)]; rfl
    have wa : ∀ c : Int, 0 ≤ c → c ≤ 10 → Go.IntKind.wrap .i64 (c + a) = c + a := fun c h0 h1 => w64 (by omega) (by omega)
    have hg : rs.getD i z31 = rs[i] := getD_lt hlt
    have hgi := idxs_get hlt
    have hxx := hx rs[i] (List.getElem_mem hlt)
    rw [drop_cons hlt, drop_cons (show i < (tru rs).length by omega)]
    have ht : (tru rs)[i]'(by omega) = true := by simp [tru]
    simp only [mE, ht]
    generalize rs[i] = x at hg hxx
    have go : ∀ acc' : List S81, acc'.length ≤ acc.length + 2 → F44.l2.b (a, (n : Int), (i : Int), b, idxs rs.length, acc.map c85, rs) = some (.inl (a, (n : Int), ((i + 1 : Nat) : Int), b, idxs rs.length, acc'.map c85, rs)) → F44.l2 (a, (n : Int), (i : Int), b, idxs rs.length, acc.map c85, rs) = some ((acc' ++ mE a n (rs.drop (i + 1)) ((tru rs).drop (i + 1))).map c85) := fun acc' hl hb => by
      rw [← F44.l2_ok a ha n b rs hr hx r (i + 1) acc' (by omega) (by omega)]
      unfold F44.l2
      exact lim_in hb
    rw [← List.append_assoc, cT]
    have hel := eR_len a n x
    refine go (acc ++ eR a n x) (by rw [List.length_append]; omega) ?_
    have hm3 := hxx.m0
    have hm4 := hxx.m1
    have w3 : Go.IntKind.wrap .i64 (0 - x.f3) = 0 - x.f3 := w64 (by omega) (by omega)
    have dl : ∀ l : List S85, l.length ≤ 2 → decide (((acc.map c85).length + l.length) ≤ 274877906944) = true := fun l hl => dT (by rw [List.length_map]; omega)
    rw [List.map_append]
    unfold eR
    cases h1 : x.f0 == 1 + a with
    | true =>
      have d5 := dl [⟨(n : Int), x.f1, x.f3⟩, ⟨x.f1, (n : Int), 0 - x.f3⟩] (by simp)
      simp only [F44.l2.b, d, d2, d3, Bool.and_self, cT, cF, Int.toNat_natCast, hgi, hg, wa 1 (by decide) (by decide), h1, w3, d5, w]; rfl
    | false =>
      cases h2 : x.f0 == 3 + a with
      | true =>
        have d5 := dl [⟨x.f1, x.f2, x.f3⟩, ⟨x.f2, x.f1, 0 - x.f3⟩] (by simp)
        simp only [F44.l2.b, d, d2, d3, Bool.and_self, cT, cF, Int.toNat_natCast, hgi, hg, wa 1 (by decide) (by decide), wa 3 (by decide) (by decide), h1, h2, w3, d5, w]; rfl
      | false =>
        cases h3 : x.f0 == 5 + a with
        | true =>
          have d5 := dl [⟨x.f1, x.f2, x.f3⟩] (by simp)
          simp only [F44.l2.b, d, d2, d3, Bool.and_self, cT, cF, Int.toNat_natCast, hgi, hg, wa 1 (by decide) (by decide), wa 3 (by decide) (by decide), wa 5 (by decide) (by decide), h1, h2, h3, w3, d5, w]; rfl
        | false =>
          have d5 := dl [⟨x.f1, x.f2, 0⟩, ⟨x.f2, x.f1, 0⟩] (by simp)
          cases h4 : x.f0 == 7 + a with
          | true => simp only [F44.l2.b, d, d2, d3, Bool.and_self, cT, cF, Int.toNat_natCast, hgi, hg, wa 1 (by decide) (by decide), wa 3 (by decide) (by decide), wa 5 (by decide) (by decide), wa 7 (by decide) (by decide), h1, h2, h3, h4, w3, d5, w]; rfl
          | false =>
            cases h5 : x.f0 == 9 with
            | true => simp only [F44.l2.b, d, d2, d3, Bool.and_self, cT, cF, Int.toNat_natCast, hgi, hg, wa 1 (by decide) (by decide), wa 3 (by decide) (by decide), wa 5 (by decide) (by decide), wa 7 (by decide) (by decide), h1, h2, h3, h4, h5, w3, d5, w]; rfl
            | false => simp only [F44.l2.b, d, d2, d3, Bool.and_self, cT, cF, Int.toNat_natCast, hgi, hg, wa 1 (by decide) (by decide), wa 3 (by decide) (by decide), wa 5 (by decide) (by decide), wa 7 (by decide) (by decide), h1, h2, h3, h4, h5, w3, List.map_nil, List.append_nil, w]

theorem F44.ok (a : Int) (ha : a = 0 ∨ a = 1) (n : Nat) (hn : n ≤ 24) (rs : List S31) (hr : rs.length ≤ 60) (hx : ∀ x ∈ rs, RuleP n x) : F44.F (((n : Int), rs), idxs rs.length, a) = some ((aE a n rs (tru rs)).map c85) := by
  have l0 := F44.l0_ok a n hn (n : Int) (idxs rs.length) rs
  have l2 := F44.l2_ok a ha n (n : Int) rs hr hx rs.length 0 (bE n n) (by omega) (by rw [bE_len]; omega)
  rw [show ((0 : Nat) : Int) = 0 from rfl, List.drop_zero, List.drop_zero] at l2
  simp only [F44.F, l0, bS, l2]
  rfl

end Go.Proofs.Ytciafkboilgblaa.AX

/- Sketches: can their rules be kept? No conditions. -/
namespace Go.Proofs.Ytciafkboilgblaa.AX
open Go

def toEd (e : S81) : Ed := ⟨e.f0.toNat, e.f1.toNat, e.f2⟩
def eds (es : List S81) : List Ed := es.map toEd
theorem eds_val {n : Nat} {es : List S81} (h : ∀ e ∈ es, EdP n e) : Val (n + 1) (eds es) := fun e he => by
  obtain ⟨x, hx, rfl⟩ := List.mem_map.1 he
  have q := h x hx
  have := q.a0; have := q.an; have := q.b0; have := q.bn
  unfold toEd
  dsimp only
  omega

theorem take_fold {α β : Type} {g : β → α → β} {l : List α} {i : Nat} {d : α} {a : β} (h : i < l.length) : (l.take (i + 1)).foldl g a = g ((l.take i).foldl g a) (l.getD i d) := by
  rw [getD_lt h, show l.take (i + 1) = l.take i ++ [l[i]] from by simp, List.foldl_append]; rfl

/-- All lie from 0 to M. -/
def Bd (M : Int) (v : List Int) : Prop := ∀ i, 0 ≤ v.getD i 0 ∧ v.getD i 0 ≤ M
theorem stp_bd {n : Nat} {M : Int} {s : Bool × List Int} {e : S81} (he : EdP n e) (hl : s.2.length = n + 1) (h : Bd M s.2) : Bd (M + 100000) (stpG s (toEd e)).2 := fun i => by
  have := he.a0; have := he.an; have := he.b0; have := he.bn; have := he.c0; have := he.c1
  have h1 := h i
  unfold stpG toEd
  dsimp only
  split
  · rename_i hc
    dsimp only
    rw [gD_set (by omega)]
    have h2 := h e.f0.toNat
    have h3 := h e.f1.toNat
    split <;> omega
  · omega
theorem fold_bd {n : Nat} : ∀ {es : List S81} {M : Int} {s : Bool × List Int}, (∀ e ∈ es, EdP n e) → s.2.length = n + 1 → Bd M s.2 → Bd (M + 100000 * (es.length : Int)) ((eds es).foldl stpG s).2
  | [], M, s, _, _, h => by simpa [eds] using h
  | e :: es, M, s, he, hl, h => by
    have := fold_bd (es := es) (M := M + 100000) (s := stpG s (toEd e)) (fun x hx => he x (by simp [hx])) (by rw [stp_len]; exact hl) (stp_bd (he e (by simp)) hl h)
    show Bd _ ((eds es).foldl stpG (stpG s (toEd e))).2
    rw [show M + 100000 * ((e :: es).length : Int) = M + 100000 + 100000 * (es.length : Int) by simp; omega]
    exact this

theorem F36.l4_ok {n : Nat} (hn : n ≤ 24) {es : List S81} (hes : ∀ e ∈ es, EdP n e) (hel : es.length ≤ 168) (a k b : Int) (m : List Bool) (ps : List S73) (rs : List S31) (v : List Int) (hv : v.length = n + 1) {M : Int} (hM : M ≤ 10000000000) (hb : Bd M v) :
    F36.l4 (a, k, false, (es.length : Int), 0, b, m, ps, es, v, rs) = some (a, k, (rnd (eds es) v).1, b, m, ps, es, (rnd (eds es) v).2, rs) := by
  have hst : ∀ i, ((eds es).take i) = eds (es.take i) := fun i => by unfold eds; rw [List.map_take]
  have := lim_run (f := F36.l4.b) (fun i => (a, k, (((eds es).take i).foldl stpG (false, v)).1, (es.length : Int), (i : Int), b, m, ps, es, (((eds es).take i).foldl stpG (false, v)).2, rs)) es.length (y := (a, k, (rnd (eds es) v).1, b, m, ps, es, (rnd (eds es) v).2, rs)) (fun i hi => by
    have hlen : (((eds es).take i).foldl stpG (false, v)).2.length = n + 1 := by rw [fold_len]; exact hv
    have hbd : Bd (M + 100000 * ((es.take i).length : Int)) (((eds es).take i).foldl stpG (false, v)).2 := by
      rw [hst]; exact fold_bd (fun e he => hes e (List.mem_of_mem_take he)) hv hb
    have htl : (es.take i).length = i := by simp; omega
    have hsucc := take_fold (g := stpG) (l := eds es) (i := i) (d := toEd z81) (a := (false, v)) (by simpa [eds] using hi)
    have hget : (eds es).getD i (toEd z81) = toEd (es.getD i z81) := by
      rw [getD_lt (by simpa [eds] using hi), getD_lt hi]; simp [eds]
    rw [hget] at hsucc
    rw [hsucc]
    have hx := hes (es.getD i z81) (by rw [getD_lt hi]; exact List.getElem_mem hi)
    generalize hxx : es.getD i z81 = x at hx
    generalize ((eds es).take i).foldl stpG (false, v) = s at hlen hbd
    obtain ⟨s1, s2⟩ := s
    dsimp only at hlen hbd ⊢
    have := hx.a0; have := hx.an; have := hx.b0; have := hx.bn; have := hx.c0; have := hx.c1
    have hb0 := hbd x.f0.toNat
    have d : decide ((i : Int) < (es.length : Int)) = true := dT (by omega)
    have d2 : decide ((0 : Int) ≤ (i : Int)) = true := dT (by omega)
    have d3 : decide ((0 : Int) ≤ x.f0) = true := dT (by omega)
    have d4 : decide (x.f0 < (s2.length : Int)) = true := dT (by omega)
    have d5 : decide ((0 : Int) ≤ x.f1) = true := dT (by omega)
    have d6 : decide (x.f1 < (s2.length : Int)) = true := dT (by omega)
    have w : Go.IntKind.wrap .i64 ((i : Int) + 1) = ((i + 1 : Nat) : Int) := by rw [w64 (by omega) (by omega)]; rfl
    have w2 : Go.IntKind.wrap .i64 (s2.getD x.f0.toNat 0 + x.f2) = s2.getD x.f0.toNat 0 + x.f2 := w64 (by omega) (by omega)
    unfold stpG toEd
    dsimp only
    by_cases hc : s2.getD x.f0.toNat 0 + x.f2 > s2.getD x.f1.toNat 0
    · rw [if_pos hc]
      simp only [F36.l4.b, d, d2, d3, d4, d5, d6, Bool.and_self, cT, Int.toNat_natCast, hxx, w, w2, dT hc]
    · rw [if_neg hc]
      simp only [F36.l4.b, d, d2, d3, d4, d5, d6, Bool.and_self, cT, cF, Int.toNat_natCast, hxx, w, w2, dF hc])
    (by
      have d : decide ((es.length : Int) < (es.length : Int)) = false := dF (by omega)
      have ht : (eds es).take es.length = eds es := List.take_of_length_le (by simp [eds])
      simp only [F36.l4.b, d, cF, ht]
      rfl)
  exact this

theorem F36.l2_ok {n : Nat} (hn : n ≤ 24) {es : List S81} (hes : ∀ e ∈ es, EdP n e) (hel : es.length ≤ 168) (a : Int) (m : List Bool) (ps : List S73) (rs : List S31) : ∀ (f k : Nat) (v : List Int), k + f = n + 3 → 1 ≤ f → v.length = n + 1 → Bd (20000000 * (k : Int)) v →
    F36.l2 (a, (k : Int), (n : Int), m, ps, es, v, rs) = some (match bfI (eds es) n f k v with | some w => .inl (a, (n : Int), m, ps, w, rs) | none => .inr false)
  | 0, k, v, hk, hf, hl, hb => by omega
  | f + 1, k, v, hk, hf, hl, hb => by
    have l4 := F36.l4_ok hn hes hel a (k : Int) (n : Int) m ps rs v hl (M := 20000000 * (k : Int)) (by omega) hb
    have hv := eds_val hes
    have hlen : (rnd (eds es) v).2.length = n + 1 := by unfold rnd; rw [fold_len]; exact hl
    have hbd : Bd (20000000 * (k : Int) + 100000 * (es.length : Int)) (rnd (eds es) v).2 := fold_bd (s := (false, v)) hes hl hb
    rw [bfI]
    cases hr : (rnd (eds es) v).1 with
    | false =>
      rw [hr] at l4
      rw [if_pos rfl]
      unfold F36.l2
      exact lim_out (by simp only [F36.l2.b, l4, bS, Bool.not_false, cT])
    | true =>
      rw [hr] at l4
      simp only [Bool.true_eq_false, if_false]
      have w1 : Go.IntKind.wrap .i64 ((n : Int) + 1) = ((n + 1 : Nat) : Int) := by rw [w64 (by omega) (by omega)]; rfl
      have w2 : Go.IntKind.wrap .i64 ((k : Int) + 1) = ((k + 1 : Nat) : Int) := by rw [w64 (by omega) (by omega)]; rfl
      have d1 : decide ((0 : Int) ≤ (n : Int)) = true := dT (by omega)
      have d2 : decide ((n : Int) < ((rnd (eds es) v).2.length : Int)) = true := dT (by omega)
      have hcond : (decide ((k : Int) > ((n + 1 : Nat) : Int)) || decide ((rnd (eds es) v).2.getD n 0 > 0)) = decide (k > n + 1 ∨ (rnd (eds es) v).2.getD n 0 > 0) := by
        rw [Bool.decide_or]
        congr 1
        by_cases h : k > n + 1
        · rw [dT h, dT (by omega)]
        · rw [dF h, dF (by omega)]
      by_cases hc : k > n + 1 ∨ (rnd (eds es) v).2.getD n 0 > 0
      · rw [dT hc] at hcond
        rw [if_pos hc]
        unfold F36.l2
        exact lim_out (by simp only [F36.l2.b, l4, bS, Bool.not_true, cT, cF, w1, d1, d2, Bool.and_self, Bool.or_true, Int.toNat_natCast, hcond])
      · rw [dF hc] at hcond
        rw [if_neg hc, ← F36.l2_ok hn hes hel a m ps rs f (k + 1) (rnd (eds es) v).2 (by omega) (by omega) hlen (fun i => by have := hbd i; omega)]
        unfold F36.l2
        exact lim_in (by simp only [F36.l2.b, l4, bS, Bool.not_true, cT, cF, w1, w2, d1, d2, Bool.and_self, Bool.or_true, Int.toNat_natCast, hcond])

theorem F36.l6_ok {n : Nat} (hn : n ≤ 24) (a : Int) (m : List Bool) (v : List Int) (hv : v.length = n + 1) (rs : List S31) : ∀ (r i : Nat) (ps : List S73), ps.length = n → i + r = n → ∃ ps', F36.l6 (a, (n : Int), (i : Int), (n : Int), m, ps, v, rs) = some (a, (n : Int), m, ps', rs) ∧ ps'.length = n
  | 0, i, ps, hp, hi => by
    have d : decide ((i : Int) < (n : Int)) = false := dF (by omega)
    exact ⟨ps, by unfold F36.l6; exact lim_out (by simp only [F36.l6.b, d, cF]), hp⟩
  | r + 1, i, ps, hp, hi => by
    have d : decide ((i : Int) < (n : Int)) = true := dT (by omega)
    have d2 : decide ((0 : Int) ≤ (i : Int)) = true := dT (by omega)
    have d3 : decide ((i : Int) < (v.length : Int)) = true := dT (by omega)
    have d4 : decide ((i : Int) < (ps.length : Int)) = true := dT (by omega)
    have w : Go.IntKind.wrap .i64 ((i : Int) + 1) = ((i + 1 : Nat) : Int) := by rw [w64 (by omega) (by omega)]; rfl
    cases ha : (a == 0) with
    | true =>
      obtain ⟨ps', h1, h2⟩ := F36.l6_ok hn a m v hv rs r (i + 1) (ps.set i ⟨v.getD i 0, (ps.getD i z73).f1⟩) (by simpa using hp) (by omega)
      refine ⟨ps', ?_, h2⟩
      rw [← h1]
      unfold F36.l6
      exact lim_in (by simp only [F36.l6.b, d, d2, d3, d4, Bool.and_self, cT, ha, Int.toNat_natCast, w])
    | false =>
      obtain ⟨ps', h1, h2⟩ := F36.l6_ok hn a m v hv rs r (i + 1) (ps.set i ⟨(ps.getD i z73).f0, v.getD i 0⟩) (by simpa using hp) (by omega)
      refine ⟨ps', ?_, h2⟩
      rw [← h1]
      unfold F36.l6
      exact lim_in (by simp only [F36.l6.b, d, d2, d3, d4, Bool.and_self, cT, cF, ha, Int.toNat_natCast, w])

theorem bfI_len {Es : List Ed} {n : Nat} : ∀ {f k : Nat} {v w : List Int}, bfI Es n f k v = some w → w.length = v.length
  | 0, _, _, _, h => by cases h
  | f + 1, k, v, w, h => by
    rw [bfI] at h
    have hl : (rnd Es v).2.length = v.length := by unfold rnd; rw [fold_len]
    split at h
    · injection h with h; subst h; exact hl
    · split at h
      · cases h
      · rw [bfI_len h, hl]

/-- Can an axis be kept? -/
def okI (a : Int) (n : Nat) (rs : List S31) (m : List Bool) : Bool := (bfI (eds (aE a n rs m)) n (n + 3) 0 (List.replicate (n + 1) 0)).isSome

theorem rep_bd (k : Nat) (M : Int) (hM : 0 ≤ M) : Bd M (List.replicate k 0) := fun i => by
  have : (List.replicate k (0 : Int)).getD i 0 = 0 := by
    simp only [List.getD, List.getElem?_replicate]
    split <;> rfl
  rw [this]; omega

theorem F36.ok {n : Nat} (hn : n ≤ 24) {rs : List S31} (hr : rs.length ≤ 60) (hx : ∀ x ∈ rs, RuleP n x) (m : List Bool) (hm : m.length = rs.length) : ∃ ps, F36.F (((n : Int), rs), m) = some (ps, okI 0 n rs m && okI 1 n rs m) := by
  have w0 : Go.IntKind.wrap .i64 ((n : Int) + 1) = ((n + 1 : Nat) : Int) := by rw [w64 (by omega) (by omega)]; rfl
  have d0 : (((decide (0 ≤ (n : Int))) && (decide ((n : Int) ≤ (n : Int)))) && (decide ((n : Int) ≤ 274877906944))) = true := by simp; omega
  have d1 : (((decide (0 ≤ ((n + 1 : Nat) : Int))) && (decide (((n + 1 : Nat) : Int) ≤ ((n + 1 : Nat) : Int)))) && (decide (((n + 1 : Nat) : Int) ≤ 274877906944))) = true := by simp; omega
  -- an axis
  have axis : ∀ (a : Int) (ha : a = 0 ∨ a = 1) (ps : List S73), ps.length = n →
      (okI a n rs m = true ∧ ∃ ps', ps'.length = n ∧ F36.l0.b (a, (n : Int), m, ps, rs) = some (.inl (a + 1, (n : Int), m, ps', rs))) ∨ (okI a n rs m = false ∧ F36.l0.b (a, (n : Int), m, ps, rs) = some (.inr (.inl false))) := fun a ha ps hp => by
    have f43 := F43.ok a ha n hn rs hr hx m hm
    have dd : decide (a < 2) = true := dT (by omega)
    have wa : Go.IntKind.wrap .i64 (a + 1) = a + 1 := w64 (by omega) (by omega)
    have l2 := F36.l2_ok hn (aE_ok (a := a) (m := m) hx) (aE_len hn hr) a m ps rs (n + 3) 0 (List.replicate (n + 1) 0) (by omega) (by omega) (by simp) (rep_bd _ _ (by omega))
    rw [show ((0 : Nat) : Int) = 0 from rfl] at l2
    unfold okI
    cases hbf : bfI (eds (aE a n rs m)) n (n + 3) 0 (List.replicate (n + 1) 0) with
    | none =>
      rw [hbf] at l2
      exact .inr ⟨rfl, by simp only [F36.l0.b, dd, cT, f43, bS, w0, d1, Int.toNat_natCast, l2]⟩
    | some w =>
      rw [hbf] at l2
      have hw : w.length = n + 1 := by rw [bfI_len hbf]; simp
      obtain ⟨ps', h1, h2⟩ := F36.l6_ok hn a m w hw rs n 0 ps hp (by omega)
      rw [show ((0 : Nat) : Int) = 0 from rfl, ← hp] at h1
      rw [hp] at h1
      exact .inl ⟨rfl, ps', h2, by simp only [F36.l0.b, dd, cT, f43, bS, w0, d1, Int.toNat_natCast, l2, hp, h1, wa]⟩
  have dd2 : decide ((2 : Int) < 2) = false := rfl
  have hlen0 : (List.replicate n z73).length = n := by simp
  rcases axis 0 (.inl rfl) (List.replicate n z73) hlen0 with ⟨h1, ps1, h2, h3⟩ | ⟨h1, h3⟩
  · rcases axis 1 (.inr rfl) ps1 h2 with ⟨g1, ps2, g2, g3⟩ | ⟨g1, g3⟩
    · have l0 : F36.l0 (0, (n : Int), m, List.replicate n z73, rs) = some (.inr ps2) := by
        unfold F36.l0
        rw [lim_in h3]
        rw [show (0 : Int) + 1 = 1 from rfl, lim_in g3]
        exact lim_out (by simp only [F36.l0.b, show (1 : Int) + 1 = 2 from rfl, dd2, cF])
      rw [h1, g1]
      exact ⟨ps2, by simp only [F36.F, d0, cT, Int.toNat_natCast, l0, bS, Bool.and_self]⟩
    · have l0 : F36.l0 (0, (n : Int), m, List.replicate n z73, rs) = some (.inl false) := by
        unfold F36.l0
        rw [lim_in h3]
        rw [show (0 : Int) + 1 = 1 from rfl]
        exact lim_out g3
      rw [h1, g1]
      exact ⟨[], by simp only [F36.F, d0, cT, Int.toNat_natCast, l0, bS, Bool.and_false]⟩
  · have l0 : F36.l0 (0, (n : Int), m, List.replicate n z73, rs) = some (.inl false) := by
      unfold F36.l0
      exact lim_out h3
    rw [h1]
    exact ⟨[], by simp only [F36.F, d0, cT, Int.toNat_natCast, l0, bS, Bool.false_and]⟩

/- The reference's. -/
theorem F37.l2_ok {n : Nat} (hn : n ≤ 24) {es : List S81} (hes : ∀ e ∈ es, EdP n e) (hel : es.length ≤ 168) (k b : Int) (rs : List S31) (v : List Int) (hv : v.length = n + 1) {M : Int} (hM : M ≤ 10000000000) (hb : Bd M v) :
    F37.l2 (k, false, 0, b, es.map c85, v, rs) = some (k, (rnd (eds es) v).1, b, es.map c85, (rnd (eds es) v).2, rs) := by
  have hst : ∀ i, ((eds es).take i) = eds (es.take i) := fun i => by unfold eds; rw [List.map_take]
  have hml : (es.map c85).length = es.length := by simp
  have := lim_run (f := F37.l2.b) (fun i => (k, (((eds es).take i).foldl stpG (false, v)).1, (i : Int), b, es.map c85, (((eds es).take i).foldl stpG (false, v)).2, rs)) es.length (y := (k, (rnd (eds es) v).1, b, es.map c85, (rnd (eds es) v).2, rs)) (fun i hi => by
    have hlen : (((eds es).take i).foldl stpG (false, v)).2.length = n + 1 := by rw [fold_len]; exact hv
    have hbd : Bd (M + 100000 * ((es.take i).length : Int)) (((eds es).take i).foldl stpG (false, v)).2 := by
      rw [hst]; exact fold_bd (fun e he => hes e (List.mem_of_mem_take he)) hv hb
    have htl : (es.take i).length = i := by simp; omega
    have hsucc := take_fold (g := stpG) (l := eds es) (i := i) (d := toEd z81) (a := (false, v)) (by simpa [eds] using hi)
    have hget : (eds es).getD i (toEd z81) = toEd (es.getD i z81) := by
      rw [getD_lt (by simpa [eds] using hi), getD_lt hi]; simp [eds]
    rw [hget] at hsucc
    rw [hsucc]
    have hx := hes (es.getD i z81) (by rw [getD_lt hi]; exact List.getElem_mem hi)
    have hxm : (es.map c85).getD i z85 = c85 (es.getD i z81) := by rw [getD_lt (by simpa using hi), getD_lt hi]; simp
    generalize es.getD i z81 = x at hx hxm
    generalize ((eds es).take i).foldl stpG (false, v) = s at hlen hbd
    obtain ⟨s1, s2⟩ := s
    dsimp only at hlen hbd ⊢
    have := hx.a0; have := hx.an; have := hx.b0; have := hx.bn; have := hx.c0; have := hx.c1
    have hb0 := hbd x.f0.toNat
    have d : decide ((i : Int) < ((es.map c85).length : Int)) = true := dT (by omega)
    have d2 : decide ((0 : Int) ≤ (i : Int)) = true := dT (by omega)
    have d3 : decide ((0 : Int) ≤ x.f0) = true := dT (by omega)
    have d4 : decide (x.f0 < (s2.length : Int)) = true := dT (by omega)
    have d5 : decide ((0 : Int) ≤ x.f1) = true := dT (by omega)
    have d6 : decide (x.f1 < (s2.length : Int)) = true := dT (by omega)
    have w : Go.IntKind.wrap .i64 ((i : Int) + 1) = ((i + 1 : Nat) : Int) := by rw [w64 (by omega) (by omega)]; rfl
    have w2 : Go.IntKind.wrap .i64 (s2.getD x.f0.toNat 0 + x.f2) = s2.getD x.f0.toNat 0 + x.f2 := w64 (by omega) (by omega)
    have c0 : (c85 x).f0 = x.f0 := rfl
    have c1 : (c85 x).f1 = x.f1 := rfl
    have c2 : (c85 x).f2 = x.f2 := rfl
    unfold stpG toEd
    dsimp only
    by_cases hc : s2.getD x.f0.toNat 0 + x.f2 > s2.getD x.f1.toNat 0
    · rw [if_pos hc]
      simp only [F37.l2.b, d, d2, d3, d4, d5, d6, Bool.and_self, cT, Int.toNat_natCast, hxm, c0, c1, c2, w, w2, dT hc]
    · rw [if_neg hc]
      simp only [F37.l2.b, d, d2, d3, d4, d5, d6, Bool.and_self, cT, cF, Int.toNat_natCast, hxm, c0, c1, c2, w, w2, dF hc])
    (by
      have d : decide ((es.length : Int) < ((es.map c85).length : Int)) = false := dF (by omega)
      have ht : (eds es).take es.length = eds es := List.take_of_length_le (by simp [eds])
      simp only [F37.l2.b, d, cF, ht]
      rfl)
  exact this

theorem F37.l0_ok {n : Nat} (hn : n ≤ 24) {es : List S81} (hes : ∀ e ∈ es, EdP n e) (hel : es.length ≤ 168) (rs : List S31) : ∀ (f k : Nat) (v : List Int), k + f = n + 2 → v.length = n + 1 → Bd (20000000 * (k : Int)) v →
    F37.l0 ((k : Int), (n : Int), es.map c85, v, rs) = some (.inl ((bfS (eds es) n f v).2, (bfS (eds es) n f v).1)) ∨ ((bfS (eds es) n f v).2 = false ∧ F37.l0 ((k : Int), (n : Int), es.map c85, v, rs) = some (.inr (bfS (eds es) n f v).1))
  | 0, k, v, hk, hl, hb => by
    have w1 : Go.IntKind.wrap .i64 ((n : Int) + 1) = ((n + 1 : Nat) : Int) := by rw [w64 (by omega) (by omega)]; rfl
    have d : decide ((k : Int) ≤ ((n + 1 : Nat) : Int)) = false := dF (by omega)
    refine .inr ⟨rfl, ?_⟩
    unfold F37.l0
    exact lim_out (by simp only [F37.l0.b, w1, d, cF]; rfl)
  | f + 1, k, v, hk, hl, hb => by
    have w1 : Go.IntKind.wrap .i64 ((n : Int) + 1) = ((n + 1 : Nat) : Int) := by rw [w64 (by omega) (by omega)]; rfl
    have w2 : Go.IntKind.wrap .i64 ((k : Int) + 1) = ((k + 1 : Nat) : Int) := by rw [w64 (by omega) (by omega)]; rfl
    have d : decide ((k : Int) ≤ ((n + 1 : Nat) : Int)) = true := dT (by omega)
    have l2 := F37.l2_ok hn hes hel (k : Int) (n : Int) rs v hl (M := 20000000 * (k : Int)) (by omega) hb
    have hlen : (rnd (eds es) v).2.length = n + 1 := by unfold rnd; rw [fold_len]; exact hl
    have hbd : Bd (20000000 * (k : Int) + 100000 * (es.length : Int)) (rnd (eds es) v).2 := fold_bd (s := (false, v)) hes hl hb
    have d1 : decide ((0 : Int) ≤ (n : Int)) = true := dT (by omega)
    have d2 : decide ((n : Int) < ((rnd (eds es) v).2.length : Int)) = true := dT (by omega)
    rw [bfS]
    cases hr : (rnd (eds es) v).1 with
    | false =>
      rw [hr] at l2
      rw [if_pos rfl]
      refine .inl ?_
      unfold F37.l0
      exact lim_out (by simp only [F37.l0.b, w1, d, cT, l2, bS, Bool.not_false, d1, d2, Bool.and_self, Int.toNat_natCast])
    | true =>
      rw [hr] at l2
      simp only [Bool.true_eq_false, if_false]
      have run : F37.l0 ((k : Int), (n : Int), es.map c85, v, rs) = F37.l0 (((k + 1 : Nat) : Int), (n : Int), es.map c85, (rnd (eds es) v).2, rs) := by
        unfold F37.l0
        exact lim_in (by simp only [F37.l0.b, w1, w2, d, cT, cF, l2, bS, Bool.not_true])
      rw [run]
      exact F37.l0_ok hn hes hel rs f (k + 1) (rnd (eds es) v).2 (by omega) hlen (fun i => by have := hbd i; omega)

theorem F37.ok {n : Nat} (hn : n ≤ 24) {rs : List S31} (hr : rs.length ≤ 60) (hx : ∀ x ∈ rs, RuleP n x) (a : Int) (ha : a = 0 ∨ a = 1) : ∃ v, v.length = n + 1 ∧ F37.F (((n : Int), rs), idxs rs.length, a) = some (v, okI a n rs (tru rs)) := by
  have f44 := F44.ok a ha n hn rs hr hx
  have hes := aE_ok (a := a) (n := n) (m := tru rs) hx
  have w0 : Go.IntKind.wrap .i64 ((n : Int) + 1) = ((n + 1 : Nat) : Int) := by rw [w64 (by omega) (by omega)]; rfl
  have d1 : (((decide (0 ≤ ((n + 1 : Nat) : Int))) && (decide (((n + 1 : Nat) : Int) ≤ ((n + 1 : Nat) : Int)))) && (decide (((n + 1 : Nat) : Int) ≤ 274877906944))) = true := by simp; omega
  let V : Nat → List Int := fun k => Nat.rec (List.replicate (n + 1) 0) (fun _ v => (rnd (eds (aE a n rs (tru rs))) v).2) k
  have heq := bf_eq (Es := eds (aE a n rs (tru rs))) (n := n) (eds_val hes) (V := V) (fun k => rfl) (by show (List.replicate (n + 1) (0 : Int)).length = _; simp) (fun i => (rep_bd (n + 1) 0 (Int.le_refl _) i).1) (n + 2) 0 (by omega) (fun k hk => by omega) ((rep_bd (n + 1) 0 (Int.le_refl _) n).2)
  have heq : okI a n rs (tru rs) = (bfS (eds (aE a n rs (tru rs))) n (n + 2) (List.replicate (n + 1) 0)).2 := heq
  have hsl : ∀ (f : Nat) (v : List Int), (bfS (eds (aE a n rs (tru rs))) n f v).1.length = v.length := by
    intro f
    induction f with
    | zero => intro v; rfl
    | succ f ih =>
      intro v
      have hl : (rnd (eds (aE a n rs (tru rs))) v).2.length = v.length := by unfold rnd; rw [fold_len]
      rw [bfS]
      split
      · exact hl
      · rw [ih, hl]
  rw [heq]
  refine ⟨(bfS (eds (aE a n rs (tru rs))) n (n + 2) (List.replicate (n + 1) 0)).1, by rw [hsl]; simp, ?_⟩
  have l0 := F37.l0_ok hn hes (aE_len hn hr) rs (n + 2) 0 (List.replicate (n + 1) 0) (by omega) (by simp) (rep_bd _ _ (by omega))
  rw [show ((0 : Nat) : Int) = 0 from rfl] at l0
  rcases l0 with l0 | ⟨hf, l0⟩
  · simp only [F37.F, f44, bS, w0, d1, cT, Int.toNat_natCast, l0]
  · rw [hf]
    simp only [F37.F, f44, bS, w0, d1, cT, Int.toNat_natCast, l0]

end Go.Proofs.Ytciafkboilgblaa.AX

/- Groups: trees with one root each. No conditions. -/
namespace Go.Proofs.Ytciafkboilgblaa.AX
open Go

/-- From a on one comes to r. -/
inductive Rt (g : List Int) : Nat → Nat → Prop where
  | root {a : Nat} (h : a < g.length) (e : g.getD a 0 = (a : Int)) : Rt g a a
  | step {a b r : Nat} (h : a < g.length) (e : g.getD a 0 = (b : Int)) (hn : b ≠ a) (t : Rt g b r) : Rt g a r

theorem Rt.isRoot {g : List Int} {a r : Nat} (h : Rt g a r) : r < g.length ∧ g.getD r 0 = (r : Int) := by
  induction h with
  | root h e => exact ⟨h, e⟩
  | step _ _ _ _ ih => exact ih
theorem Rt.uniq {g : List Int} {a r s : Nat} (h : Rt g a r) (h' : Rt g a s) : r = s := by
  induction h with
  | root h e =>
    cases h' with
    | root _ _ => rfl
    | step _ e' hn _ => rw [e] at e'; exact absurd (by omega) hn
  | step h e hn t ih =>
    cases h' with
    | root _ e' => rw [e] at e'; exact absurd (by omega) hn
    | step _ e' _ t' =>
      rw [e] at e'
      have : _ = _ := Int.ofNat.inj e'
      subst this
      exact ih t'
theorem Rt.of_root {g : List Int} {a r : Nat} (h : Rt g a r) (e : g.getD a 0 = (a : Int)) : r = a := by
  cases h with
  | root _ _ => rfl
  | step _ e' hn _ => rw [e] at e'; exact absurd (by omega) hn

theorem F23.l0_ok {g : List Int} {a r : Nat} (h : Rt g a r) : F23.l0 ((a : Int), g) = some (r : Int) := by
  induction h with
  | root h e =>
    rename_i a
    have d2 : decide ((a : Int) < (g.length : Int)) = true := dT (by omega)
    have q : (g.getD a 0 != (a : Int)) = false := nF e
    unfold F23.l0
    exact lim_out (by simp only [F23.l0.b, dT (show (0 : Int) ≤ (a : Int) by omega), d2, Bool.and_self, cT, cF, Int.toNat_natCast, q])
  | step h e hn t ih =>
    rename_i a b r
    have d2 : decide ((a : Int) < (g.length : Int)) = true := dT (by omega)
    have q : (g.getD a 0 != (a : Int)) = true := nT (by rw [e]; omega)
    rw [← ih]
    unfold F23.l0
    exact lim_in (by simp only [F23.l0.b, dT (show (0 : Int) ≤ (a : Int) by omega), d2, Bool.and_self, cT, cF, Int.toNat_natCast, q]; rw [e])
theorem F23.ok {g : List Int} {a r : Nat} (h : Rt g a r) : F23.F (g, (a : Int)) = some (r : Int) := by
  simp only [F23.F, F23.l0_ok h, bS]
theorem F27.l0_ok {g : List Int} {a r : Nat} (h : Rt g a r) : F27.l0 ((a : Int), g) = some (r : Int) := by
  induction h with
  | root h e =>
    rename_i a
    have d2 : decide ((a : Int) < (g.length : Int)) = true := dT (by omega)
    have q : (g.getD a 0 != (a : Int)) = false := nF e
    unfold F27.l0
    exact lim_out (by simp only [F27.l0.b, dT (show (0 : Int) ≤ (a : Int) by omega), d2, Bool.and_self, cT, cF, Int.toNat_natCast, q])
  | step h e hn t ih =>
    rename_i a b r
    have d2 : decide ((a : Int) < (g.length : Int)) = true := dT (by omega)
    have q : (g.getD a 0 != (a : Int)) = true := nT (by rw [e]; omega)
    rw [← ih]
    unfold F27.l0
    exact lim_in (by simp only [F27.l0.b, dT (show (0 : Int) ≤ (a : Int) by omega), d2, Bool.and_self, cT, cF, Int.toNat_natCast, q]; rw [e])
theorem F27.ok {g : List Int} {a r : Nat} (h : Rt g a r) : F27.F (g, (a : Int)) = some (r : Int) := by
  simp only [F27.F, F27.l0_ok h, bS]

/-- A forest, and each one's root. -/
structure UF (N : Nat) (g : List Int) (f : Nat → Nat) : Prop where
  len : g.length = N
  rt : ∀ x, x < N → Rt g x (f x)
theorem UF.lt {N : Nat} {g : List Int} {f : Nat → Nat} (h : UF N g f) {x : Nat} (hx : x < N) : f x < N := by
  have := (h.rt x hx).isRoot.1; have := h.len; omega
theorem UF.idem {N : Nat} {g : List Int} {f : Nat → Nat} (h : UF N g f) {x : Nat} (hx : x < N) : f (f x) = f x :=
  (h.rt (f x) (h.lt hx)).of_root (h.rt x hx).isRoot.2
theorem UF.root_iff {N : Nat} {g : List Int} {f : Nat → Nat} (h : UF N g f) {x : Nat} (hx : x < N) : g.getD x 0 = (x : Int) ↔ f x = x := by
  constructor
  · exact fun e => (h.rt x hx).of_root e
  · intro e
    have := (h.rt x hx).isRoot.2
    rwa [e] at this

/-- Two are one. -/
def jn (f : Nat → Nat) (a b : Nat) : Nat → Nat := fun x => if f x = f a then f b else f x

theorem getD_ne {l : List Int} {i j : Nat} {x : Int} (h : i ≠ j) : (l.set i x).getD j 0 = l.getD j 0 := by
  simp only [List.getD, List.getElem?_set_ne h]

theorem rt_set {g : List Int} {p q : Nat} (hp : p < g.length) (hpr : g.getD p 0 = (p : Int)) (hq : q < g.length) (hqr : g.getD q 0 = (q : Int)) (hne : p ≠ q) {x r : Nat} (h : Rt g x r) : Rt (g.set p (q : Int)) x (if r = p then q else r) := by
  induction h with
  | root h e =>
    rename_i a
    by_cases hap : a = p
    · subst hap
      rw [if_pos rfl]
      refine .step (b := q) (by simpa using h) (getD_set h) (fun e => hne e.symm) (.root (by simpa using hq) ?_)
      rw [getD_ne hne]; exact hqr
    · rw [if_neg hap]
      exact .root (by simpa using h) (by rw [getD_ne (fun e => hap e.symm)]; exact e)
  | step h e hn t ih =>
    rename_i a b r
    have hap : a ≠ p := fun he => by subst he; rw [hpr] at e; exact hn (by omega)
    exact .step (by simpa using h) (by rw [getD_ne (fun e => hap e.symm)]; exact e) hn ih

theorem UF.join {N : Nat} {g : List Int} {f : Nat → Nat} (h : UF N g f) {a b : Nat} (ha : a < N) (hb : b < N) : UF N (g.set (f a) (f b : Int)) (jn f a b) := by
  by_cases e : f a = f b
  · have hr := (h.rt a ha).isRoot.2
    have hs : g.set (f a) (f b : Int) = g := by have q := set_self (l := g) (i := f a) (d := 0); rw [hr] at q; rw [← e]; exact q
    have hj : jn f a b = f := by
      funext x
      unfold jn
      split
      · rename_i h1; rw [h1, e]
      · rfl
    rw [hs, hj]; exact h
  · have ra := (h.rt a ha).isRoot
    have rb := (h.rt b hb).isRoot
    exact ⟨by simpa using h.len, fun x hx => rt_set ra.1 ra.2 rb.1 rb.2 e (h.rt x hx)⟩

/-- The same ones are one. -/
def Eqv (N : Nat) (f h : Nat → Nat) : Prop := ∀ x y, x < N → y < N → (f x = f y ↔ h x = h y)
theorem Eqv.join {N : Nat} {f h : Nat → Nat} (e : Eqv N f h) {a b : Nat} (ha : a < N) (hb : b < N) : Eqv N (jn f a b) (jn h a b) := fun x y hx hy => by
  have h1 := e x y hx hy
  have h2 := e x a hx ha
  have h3 := e y a hy ha
  have h4 := e x b hx hb
  have h5 := e y b hy hb
  have h6 := e a b ha hb
  unfold jn
  by_cases c1 : f x = f a <;> by_cases c2 : f y = f a
  · rw [if_pos c1, if_pos c2, if_pos (h2.1 c1), if_pos (h3.1 c2)]
    exact ⟨fun _ => rfl, fun _ => rfl⟩
  · rw [if_pos c1, if_neg c2, if_pos (h2.1 c1), if_neg (fun q => c2 (h3.2 q))]
    exact ⟨fun q => (h5.1 q.symm).symm, fun q => (h5.2 q.symm).symm⟩
  · rw [if_neg c1, if_pos c2, if_neg (fun q => c1 (h2.2 q)), if_pos (h3.1 c2)]
    exact h4
  · rw [if_neg c1, if_neg c2, if_neg (fun q => c1 (h2.2 q)), if_neg (fun q => c2 (h3.2 q))]
    exact h1
theorem Eqv.swap {N : Nat} {f : Nat → Nat} {a b : Nat} : Eqv N (jn f a b) (jn f b a) := fun x y hx hy => by
  unfold jn
  split <;> split <;> split <;> split <;> constructor <;> intro q <;> omega
theorem Eqv.trans {N : Nat} {f g h : Nat → Nat} (e : Eqv N f g) (e' : Eqv N g h) : Eqv N f h := fun x y hx hy => (e x y hx hy).trans (e' x y hx hy)

/- Counting. -/
theorem cnt_congr {p q : Nat → Bool} : ∀ {n}, (∀ i, i < n → p i = q i) → cntN p n = cntN q n
  | 0, _ => rfl
  | n + 1, h => by
    have h1 := cnt_congr (n := n) fun i hi => h i (by omega)
    simp only [cntN, h1, h n (by omega)]
theorem cnt_del {p : Nat → Bool} {c : Nat} : ∀ {n}, c < n → p c = true → cntN (fun i => p i && !(i == c)) n + 1 = cntN p n
  | 0, h, _ => by omega
  | n + 1, h, hp => by
    simp only [cntN]
    by_cases e : c = n
    · subst e
      have : cntN (fun i => p i && !(i == c)) c = cntN p c := cnt_congr fun i hi => by
        have : (i == c) = false := by simp; omega
        rw [this]; simp
      simp [this, hp]
    · have h1 := cnt_del (n := n) (by omega) hp
      have : (n == c) = false := by simp; omega
      simp only [this, Bool.not_false, Bool.and_true]
      omega

/-- Two forests of the same groups. -/
structure UU (N : Nat) (g h : List Int) (f f' : Nat → Nat) : Prop where
  u : UF N g f
  v : UF N h f'
  e : Eqv N f f'
  c : cntN (fun i => f i == i) N = cntN (fun i => f' i == i) N

theorem cnt_join {N : Nat} {g : List Int} {f : Nat → Nat} (h : UF N g f) {a b : Nat} (ha : a < N) (hb : b < N) (hne : f a ≠ f b) : cntN (fun i => jn f a b i == i) N + 1 = cntN (fun i => f i == i) N := by
  have h1 : cntN (fun i => jn f a b i == i) N = cntN (fun i => (f i == i) && !(i == f a)) N := cnt_congr fun i hi => by
    unfold jn
    by_cases c : f i = f a
    · rw [if_pos c]
      -- not a root: the other one is
      have q1 : (f b == i) = false := by
        simp only [beq_eq_false_iff_ne, ne_eq]
        intro e
        have := h.idem hb
        rw [e] at this
        exact hne (by omega)
      rw [q1]
      by_cases c2 : f i = i
      · have : i = f a := by omega
        have : (i == f a) = true := by simpa using this
        rw [this]; simp
      · have : (f i == i) = false := by simpa using c2
        rw [this]; rfl
    · rw [if_neg c]
      by_cases c2 : i = f a
      · exfalso
        have := h.idem ha
        rw [← c2] at this
        exact c (by omega)
      · have : (i == f a) = false := by simpa using c2
        rw [this]; simp
  rw [h1]
  exact cnt_del (h.lt ha) (by have := h.idem ha; simpa using this)

/-- A tie, by the program and by the reference (either way round). -/
theorem tie_ok {N : Nat} (hN : N ≤ 1000) {g h : List Int} {f f' : Nat → Nat} (u : UU N g h f f') {a b : Nat} (ha : a < N) (hb : b < N) : ∃ old g' h' k k',
    F22.F (g, (a : Int), (b : Int)) = some (old, g', ()) ∧ F26.F (h, (a : Int), (b : Int)) = some (!old, h', ()) ∧ UU N g' h' k k' := by
  have lu := u.u.len
  have lv := u.v.len
  have fa := u.u.lt ha
  have va := u.v.lt ha
  have e1 := F23.ok (u.u.rt a ha)
  have e2 := F23.ok (u.u.rt b hb)
  have e3 := F27.ok (u.v.rt a ha)
  have e4 := F27.ok (u.v.rt b hb)
  have d1 : decide ((0 : Int) ≤ (f a : Int)) = true := dT (by omega)
  have d2 : decide ((f a : Int) < (g.length : Int)) = true := dT (by omega)
  have d3 : decide ((0 : Int) ≤ (f' a : Int)) = true := dT (by omega)
  have d4 : decide ((f' a : Int) < (h.length : Int)) = true := dT (by omega)
  have hab := u.e a b ha hb
  by_cases c : f a = f b
  · have q1 : ((f a : Int) == (f b : Int)) = true := qT (by omega)
    have c' := hab.1 c
    have q2 : ((f' a : Int) == (f' b : Int)) = true := qT (by omega)
    have hj := u.u.join ha hb
    have hr := (u.u.rt a ha).isRoot.2
    have hs : g.set (f a) (f b : Int) = g := by have q := set_self (l := g) (i := f a) (d := 0); rw [hr] at q; rw [← c]; exact q
    refine ⟨true, g, h, f, f', ?_, ?_, u⟩
    · simp only [F22.F, e1, e2, bS, d1, d2, Bool.and_self, cT, q1, Int.toNat_natCast, hs]
    · simp only [F26.F, e3, e4, bS, q2, cT, Bool.not_true]
  · have q1 : ((f a : Int) == (f b : Int)) = false := qF (by omega)
    have c' : f' a ≠ f' b := fun q => c (hab.2 q)
    have q2 : ((f' a : Int) == (f' b : Int)) = false := qF (by omega)
    refine ⟨false, g.set (f a) (f b : Int), h.set (f' a) (f' b : Int), jn f a b, jn f' a b, ?_, ?_, u.u.join ha hb, u.v.join ha hb, u.e.join ha hb, ?_⟩
    · simp only [F22.F, e1, e2, bS, d1, d2, Bool.and_self, cT, q1, Int.toNat_natCast]
    · simp only [F26.F, e3, e4, bS, q2, cF, cT, d3, d4, Bool.and_self, Bool.not_false, Int.toNat_natCast]
    · have := cnt_join u.u ha hb c
      have := cnt_join u.v ha hb c'
      have := u.c
      omega

theorem tie_ok' {N : Nat} (hN : N ≤ 1000) {g h : List Int} {f f' : Nat → Nat} (u : UU N g h f f') {a b : Nat} (ha : a < N) (hb : b < N) : ∃ old g' h' k k',
    F22.F (g, (a : Int), (b : Int)) = some (old, g', ()) ∧ F26.F (h, (b : Int), (a : Int)) = some (!old, h', ()) ∧ UU N g' h' k k' := by
  have lu := u.u.len
  have lv := u.v.len
  have fa := u.u.lt ha
  have vb := u.v.lt hb
  have e1 := F23.ok (u.u.rt a ha)
  have e2 := F23.ok (u.u.rt b hb)
  have e3 := F27.ok (u.v.rt a ha)
  have e4 := F27.ok (u.v.rt b hb)
  have d1 : decide ((0 : Int) ≤ (f a : Int)) = true := dT (by omega)
  have d2 : decide ((f a : Int) < (g.length : Int)) = true := dT (by omega)
  have d3 : decide ((0 : Int) ≤ (f' b : Int)) = true := dT (by omega)
  have d4 : decide ((f' b : Int) < (h.length : Int)) = true := dT (by omega)
  have hab := u.e a b ha hb
  by_cases c : f a = f b
  · have q1 : ((f a : Int) == (f b : Int)) = true := qT (by omega)
    have c' := hab.1 c
    have q2 : ((f' b : Int) == (f' a : Int)) = true := qT (by omega)
    have hr := (u.u.rt a ha).isRoot.2
    have hs : g.set (f a) (f b : Int) = g := by have q := set_self (l := g) (i := f a) (d := 0); rw [hr] at q; rw [← c]; exact q
    refine ⟨true, g, h, f, f', ?_, ?_, u⟩
    · simp only [F22.F, e1, e2, bS, d1, d2, Bool.and_self, cT, q1, Int.toNat_natCast, hs]
    · simp only [F26.F, e3, e4, bS, q2, cT, Bool.not_true]
  · have q1 : ((f a : Int) == (f b : Int)) = false := qF (by omega)
    have c' : f' b ≠ f' a := fun q => c (hab.2 q.symm)
    have q2 : ((f' b : Int) == (f' a : Int)) = false := qF (by omega)
    refine ⟨false, g.set (f a) (f b : Int), h.set (f' b) (f' a : Int), jn f a b, jn f' b a, ?_, ?_, u.u.join ha hb, u.v.join hb ha, (u.e.join ha hb).trans Eqv.swap, ?_⟩
    · simp only [F22.F, e1, e2, bS, d1, d2, Bool.and_self, cT, q1, Int.toNat_natCast]
    · simp only [F26.F, e3, e4, bS, q2, cF, cT, d3, d4, Bool.and_self, Bool.not_false, Int.toNat_natCast]
    · have := cnt_join u.u ha hb c
      have := cnt_join u.v hb ha c'
      have := u.c
      omega

/-- At first each is alone. -/
theorem uu_zero (N : Nat) : UU N (idxs N) (idxs N) id id := by
  have h : UF N (idxs N) id := ⟨by simp [idxs], fun x hx => .root (by simpa [idxs] using hx) (idxs_get hx)⟩
  exact ⟨h, h, fun x y _ _ => Iff.rfl, rfl⟩

end Go.Proofs.Ytciafkboilgblaa.AX

/- Freedoms of sketches: the program and its reference agree. No conditions. -/
namespace Go.Proofs.Ytciafkboilgblaa.AX
open Go

theorem idxs_succ (k : Nat) : idxs (k + 1) = idxs k ++ [(k : Int)] := by unfold idxs; rw [List.range_succ, List.map_append]; rfl
theorem idxs_len (k : Nat) : (idxs k).length = k := by simp [idxs]

theorem F25.ok (n : Int) (rs : List S31) (hr : rs.length ≤ 60) : F25.F (n, rs) = some (idxs rs.length) := by
  have l0 : F25.l0 (0, n, [], rs) = some (idxs rs.length) := lim_run (f := F25.l0.b) (fun i => ((i : Int), n, idxs i, rs)) rs.length (y := idxs rs.length) (fun i hi => by
    have d1 : decide ((i : Int) < (rs.length : Int)) = true := dT (by omega)
    have hl := idxs_len i
    have d2 : decide (((idxs i).length + ((i : Int) :: ([] : List Int)).length) ≤ 274877906944) = true := dT (by simp only [List.length_cons, List.length_nil]; omega)
    have w : Go.IntKind.wrap .i64 ((i : Int) + 1) = ((i + 1 : Nat) : Int) := by rw [w64 (by omega) (by omega)]; rfl
    simp only [F25.l0.b, d1, d2, cT, w]
    rw [idxs_succ])
    (by
      have d1 : decide ((rs.length : Int) < (rs.length : Int)) = false := dF (by omega)
      simp only [F25.l0.b, d1, cF])
  simp only [F25.F, l0, bS]

/-- Can all rules be kept? -/
def okA (n : Nat) (rs : List S31) : Bool := okI 0 n rs (tru rs) && okI 1 n rs (tru rs)

theorem F24.ok {n : Nat} (hn : n ≤ 24) {rs : List S31} (hr : rs.length ≤ 60) (hx : ∀ x ∈ rs, RuleP n x) : ∃ ps, F24.F (((n : Int), rs), idxs rs.length) = some (ps, okA n rs) := by
  obtain ⟨v, hv, e0⟩ := F37.ok hn hr hx 0 (.inl rfl)
  obtain ⟨u, hu, e1⟩ := F37.ok hn hr hx 1 (.inr rfl)
  have l0 : ∀ (r i : Nat) (acc : List S73), i + r = n → acc.length ≤ i → ∃ ps, F24.l0 (okI 0 n rs (tru rs), okI 1 n rs (tru rs), (i : Int), (n : Int), v, u, acc, rs) = some (okI 0 n rs (tru rs), okI 1 n rs (tru rs), ps) := by
    intro r
    induction r with
    | zero =>
      intro i acc hi _
      have d : decide ((i : Int) < (n : Int)) = false := dF (by omega)
      exact ⟨acc, by unfold F24.l0; exact lim_out (by simp only [F24.l0.b, d, cF])⟩
    | succ r ih =>
      intro i acc hi ha
      have d : decide ((i : Int) < (n : Int)) = true := dT (by omega)
      have d2 : decide ((0 : Int) ≤ (i : Int)) = true := dT (by omega)
      have d3 : decide ((i : Int) < (v.length : Int)) = true := dT (by omega)
      have d4 : decide ((i : Int) < (u.length : Int)) = true := dT (by omega)
      have d5 : decide ((acc.length + ((⟨v.getD i 0, u.getD i 0⟩ : S73) :: []).length) ≤ 274877906944) = true := dT (by simp only [List.length_cons, List.length_nil]; omega)
      have w : Go.IntKind.wrap .i64 ((i : Int) + 1) = ((i + 1 : Nat) : Int) := by rw [w64 (by omega) (by omega)]; rfl
      obtain ⟨ps, h⟩ := ih (i + 1) (acc ++ [⟨v.getD i 0, u.getD i 0⟩]) (by omega) (by simp; omega)
      refine ⟨ps, ?_⟩
      rw [← h]
      unfold F24.l0
      exact lim_in (by simp only [F24.l0.b, d, d2, d3, d4, d5, Bool.and_self, cT, Int.toNat_natCast, w])
  obtain ⟨ps, l0⟩ := l0 n 0 [] (by omega) (by simp)
  rw [show ((0 : Nat) : Int) = 0 from rfl] at l0
  exact ⟨ps, by simp only [F24.F, e0, e1, bS, l0]; rfl⟩

theorem F20.ok {n : Nat} {rs : List S31} (h : okS n rs = true) : ∃ ps c, F20.F ((n : Int), rs) = some (ps, (if okA n rs = true then 0 else 15), c) := by
  obtain ⟨hr, h1, h24, hx⟩ := okS_all h
  have hn : n ≤ 24 := by omega
  have f19 := F19.ok n rs
  rw [h] at f19
  have d0 : (((decide (0 ≤ (rs.length : Int))) && (decide ((rs.length : Int) ≤ (rs.length : Int)))) && (decide ((rs.length : Int) ≤ 274877906944))) = true := by simp; omega
  have hfl : (List.replicate rs.length false).length = rs.length := by simp
  have htl : (tru rs).length = rs.length := by simp [tru]
  have l0 : F20.l0 ((rs.length : Int), 0, (n : Int), List.replicate rs.length false, rs) = some ((n : Int), tru rs, rs) :=
    lim_run (f := F20.l0.b) (fun i => ((rs.length : Int), (i : Int), (n : Int), List.replicate i true ++ List.replicate (rs.length - i) false, rs)) rs.length (y := ((n : Int), tru rs, rs)) (fun i hi => by
      have hl : (List.replicate i true ++ List.replicate (rs.length - i) false).length = rs.length := by simp; omega
      have d1 : decide ((i : Int) < (rs.length : Int)) = true := dT (by omega)
      have d2 : decide ((0 : Int) ≤ (i : Int)) = true := dT (by omega)
      have d3 : decide ((i : Int) < ((List.replicate i true ++ List.replicate (rs.length - i) false).length : Int)) = true := dT (by omega)
      have w : Go.IntKind.wrap .i64 ((i : Int) + 1) = ((i + 1 : Nat) : Int) := by rw [w64 (by omega) (by omega)]; rfl
      have hs : (List.replicate i true ++ List.replicate (rs.length - i) false).set i true = List.replicate (i + 1) true ++ List.replicate (rs.length - (i + 1)) false := by
        rw [show rs.length - i = (rs.length - (i + 1)) + 1 by omega, List.replicate_succ, set_app (by simp), List.replicate_succ', List.append_assoc]; rfl
      simp only [F20.l0.b, d1, d2, d3, Bool.and_self, cT, w, Int.toNat_natCast, hs])
      (by
        have d1 : decide ((rs.length : Int) < (rs.length : Int)) = false := dF (by omega)
        simp only [F20.l0.b, d1, cF, Nat.sub_self, List.replicate_zero, List.append_nil]; rfl)
  obtain ⟨ps, f36⟩ := F36.ok hn hr hx (tru rs) htl
  rw [show (okI 0 n rs (tru rs) && okI 1 n rs (tru rs)) = okA n rs from rfl] at f36
  cases hk : okA n rs with
  | true =>
    rw [hk] at f36
    exact ⟨ps, [], by simp only [F20.F, f19, bS, Bool.not_true, cF, d0, cT, Int.toNat_natCast, hfl, l0, f36, if_true]⟩
  | false =>
    rw [hk] at f36
    have l2 : ∀ (k : Nat) (m : List Bool), k ≤ rs.length → m.length = rs.length → ∃ m', m'.length = rs.length ∧ F20.l2 ((k : Int) - 1, (n : Int), m, rs) = some m' := by
      intro k
      induction k with
      | zero =>
        intro m _ hm
        have d : decide (((0 : Nat) : Int) - 1 ≥ 0) = false := rfl
        exact ⟨m, hm, by unfold F20.l2; exact lim_out (by simp only [F20.l2.b, d, cF])⟩
      | succ k ih =>
        intro m hk' hm
        have hkk : ((k + 1 : Nat) : Int) - 1 = (k : Int) := by omega
        rw [hkk]
        have d : decide ((k : Int) ≥ 0) = true := dT (by omega)
        have d2 : decide ((0 : Int) ≤ (k : Int)) = true := dT (by omega)
        have d3 : decide ((k : Int) < (m.length : Int)) = true := dT (by omega)
        have d4 : decide ((k : Int) < ((m.set k false).length : Int)) = true := dT (by rw [List.length_set]; omega)
        have w : Go.IntKind.wrap .i64 ((k : Int) - 1) = (k : Int) - 1 := w64 (by omega) (by omega)
        obtain ⟨qs, g36⟩ := F36.ok hn hr hx (m.set k false) (by simpa using hm)
        cases hb : (okI 0 n rs (m.set k false) && okI 1 n rs (m.set k false)) with
        | true =>
          rw [hb] at g36
          obtain ⟨m', g1, g2⟩ := ih ((m.set k false).set k true) (by omega) (by simpa using hm)
          refine ⟨m', g1, ?_⟩
          rw [← g2]
          unfold F20.l2
          exact lim_in (by simp only [F20.l2.b, d, d2, d3, d4, Bool.and_self, cT, Int.toNat_natCast, g36, bS, w])
        | false =>
          rw [hb] at g36
          obtain ⟨m', g1, g2⟩ := ih (m.set k false) (by omega) (by simpa using hm)
          refine ⟨m', g1, ?_⟩
          rw [← g2]
          unfold F20.l2
          exact lim_in (by simp only [F20.l2.b, d, d2, d3, d4, Bool.and_self, cT, cF, Int.toNat_natCast, g36, bS, w])
    obtain ⟨m', m1, l2⟩ := l2 rs.length (tru rs) (Nat.le_refl _) htl
    have l4 : ∀ (r i : Nat) (acc : List Int), i + r = rs.length → acc.length ≤ i → ∃ c, F20.l4 ((rs.length : Int), (i : Int), m', acc) = some c := by
      intro r
      induction r with
      | zero =>
        intro i acc hi _
        have d : decide ((i : Int) < (rs.length : Int)) = false := dF (by omega)
        exact ⟨acc, by unfold F20.l4; exact lim_out (by simp only [F20.l4.b, d, cF])⟩
      | succ r ih =>
        intro i acc hi ha
        have d : decide ((i : Int) < (rs.length : Int)) = true := dT (by omega)
        have d2 : decide ((0 : Int) ≤ (i : Int)) = true := dT (by omega)
        have d3 : decide ((i : Int) < (m'.length : Int)) = true := dT (by omega)
        have d5 : decide ((acc.length + ((i : Int) :: ([] : List Int)).length) ≤ 274877906944) = true := dT (by simp only [List.length_cons, List.length_nil]; omega)
        have w : Go.IntKind.wrap .i64 ((i : Int) + 1) = ((i + 1 : Nat) : Int) := by rw [w64 (by omega) (by omega)]; rfl
        cases hb : m'.getD i false with
        | true =>
          obtain ⟨c, h⟩ := ih (i + 1) (acc ++ [(i : Int)]) (by omega) (by simp; omega)
          refine ⟨c, ?_⟩
          rw [← h]
          unfold F20.l4
          exact lim_in (by simp only [F20.l4.b, d, d2, d3, d5, Bool.and_self, cT, Int.toNat_natCast, hb, w])
        | false =>
          obtain ⟨c, h⟩ := ih (i + 1) acc (by omega) (by omega)
          refine ⟨c, ?_⟩
          rw [← h]
          unfold F20.l4
          exact lim_in (by simp only [F20.l4.b, d, d2, d3, d5, Bool.and_self, cT, cF, Int.toNat_natCast, hb, w])
    obtain ⟨c, l4⟩ := l4 rs.length 0 [] (by omega) (by simp)
    rw [show ((0 : Nat) : Int) = 0 from rfl] at l4
    have w : Go.IntKind.wrap .i64 ((rs.length : Int) - 1) = (rs.length : Int) - 1 := w64 (by omega) (by omega)
    exact ⟨[], c, by simp only [F20.F, f19, bS, Bool.not_true, cF, d0, cT, Int.toNat_natCast, hfl, l0, f36, htl, w, l2, m1, l4, Bool.false_eq_true, if_false]⟩

theorem F21.ok (k : Nat) (hk : k ≤ 1000) : F21.F (k : Int) = some (idxs k) := by
  have d0 : (((decide (0 ≤ (k : Int))) && (decide ((k : Int) ≤ (k : Int)))) && (decide ((k : Int) ≤ 274877906944))) = true := by simp; omega
  have hfl : (List.replicate k (0 : Int)).length = k := by simp
  have hz : idxs 0 ++ List.replicate (k - 0) 0 = List.replicate k 0 := by simp [idxs]
  have l0 : F21.l0 ((k : Int), 0, idxs 0 ++ List.replicate (k - 0) 0) = some (idxs k) :=
    lim_run (f := F21.l0.b) (fun i => ((k : Int), (i : Int), idxs i ++ List.replicate (k - i) 0)) k (y := idxs k) (fun i hi => by
      have hi2 := idxs_len i
      have hl : (idxs i ++ List.replicate (k - i) 0).length = k := by simp [hi2]; omega
      have d1 : decide ((i : Int) < (k : Int)) = true := dT (by omega)
      have d2 : decide ((0 : Int) ≤ (i : Int)) = true := dT (by omega)
      have d3 : decide ((i : Int) < ((idxs i ++ List.replicate (k - i) 0).length : Int)) = true := dT (by omega)
      have w : Go.IntKind.wrap .i64 ((i : Int) + 1) = ((i + 1 : Nat) : Int) := by rw [w64 (by omega) (by omega)]; rfl
      have hs : (idxs i ++ List.replicate (k - i) 0).set i (i : Int) = idxs (i + 1) ++ List.replicate (k - (i + 1)) 0 := by
        rw [show k - i = (k - (i + 1)) + 1 by omega, List.replicate_succ, set_app (by omega), idxs_succ, List.append_assoc]; rfl
      simp only [F21.l0.b, d1, d2, d3, Bool.and_self, cT, w, Int.toNat_natCast, hs])
      (by
        have d1 : decide ((k : Int) < (k : Int)) = false := dF (by omega)
        simp only [F21.l0.b, d1, cF, Nat.sub_self, List.replicate_zero, List.append_nil])
  rw [hz] at l0
  simp only [F21.F, d0, cT, Int.toNat_natCast, hfl, l0, bS]

/- The ties, rule by rule. -/
theorem F6.t27_ok (n k : Int) (old : Bool) (a b : Int) (G : List (List Int)) (rs : List S31) (idle : List Int) (h : idle.length ≤ 1000) : F6.t27 (n, k, old, a, b, G, rs, idle) = some (n, a, b, G, bif old then idle ++ [k] else idle, rs) := by
  have d5 : decide ((idle.length + (k :: ([] : List Int)).length) ≤ 274877906944) = true := dT (by simp only [List.length_cons, List.length_nil]; omega)
  cases old <;> simp only [F6.t27, cT, cF, d5]
theorem F7.t33_ok (n k : Int) (old : Bool) (b : Int) (G : List (List Int)) (rs : List S31) (idle : List Int) (h : idle.length ≤ 1000) : F7.t33 (n, k, !old, b, G, idle, rs) = some (n, k, b, G, bif old then idle ++ [k] else idle, rs) := by
  have d5 : decide ((idle.length + (k :: ([] : List Int)).length) ≤ 274877906944) = true := dT (by simp only [List.length_cons, List.length_nil]; omega)
  cases old <;> simp only [F7.t33, Bool.not_true, Bool.not_false, cT, cF, d5]

/-- A round's ends. -/
def Nxt (n : Nat) (rs : List S31) (k : Nat) (g0 g1 h0 h1 : List Int) (idle : List Int) : Prop := ∃ old g0' g1' h0' h1' f0 f1 e0 e1,
  UU (n + 1) g0' h0' f0 e0 ∧ UU (n + 1) g1' h1' f1 e1 ∧
  F6.l0.b ((n : Int), (rs.length : Int), (k : Int), [g0, g1], rs, idle) = some (.inl ((n : Int), (rs.length : Int), ((k + 1 : Nat) : Int), [g0', g1'], rs, bif old then idle ++ [(k : Int)] else idle)) ∧
  F7.l2.b ((n : Int), (k : Int), (n : Int), [h0, h1], idle, rs) = some (.inl ((n : Int), ((k + 1 : Nat) : Int), (n : Int), [h0', h1'], (bif old then idle ++ [(k : Int)] else idle), rs))

theorem nxt_ok {n : Nat} (hn : n ≤ 24) {rs : List S31} (hr : rs.length ≤ 60) (hx : ∀ x ∈ rs, RuleP n x) {k : Nat} (hk : k < rs.length) {g0 g1 h0 h1 : List Int} {f0 f1 e0 e1 : Nat → Nat} (u0 : UU (n + 1) g0 h0 f0 e0) (u1 : UU (n + 1) g1 h1 f1 e1) (idle : List Int) (hi : idle.length ≤ 100) : Nxt n rs k g0 g1 h0 h1 idle := by
  have d : decide ((k : Int) < (rs.length : Int)) = true := dT (by omega)
  have dz : decide ((0 : Int) ≤ (k : Int)) = true := dT (by omega)
  have w : Go.IntKind.wrap .i64 ((k : Int) + 1) = ((k + 1 : Nat) : Int) := by rw [w64 (by omega) (by omega)]; rfl
  have hp := hx (rs.getD k z31) (by rw [getD_lt hk]; exact List.getElem_mem hk)
  generalize hxx : rs.getD k z31 = x at hp
  obtain ⟨x0, x1, x2, x3⟩ := x
  have k1 : 1 ≤ x0 := hp.k1
  have k9 : x0 ≤ 9 := hp.k9
  obtain ⟨a, rfl⟩ : ∃ a : Nat, x1 = (a : Int) := ⟨x1.toNat, by have : 0 ≤ x1 := hp.a0; omega⟩
  obtain ⟨b, rfl⟩ : ∃ b : Nat, x2 = (b : Int) := ⟨x2.toNat, by have : 0 ≤ x2 := hp.b0; omega⟩
  have ha : a < n + 1 := by have : (a : Int) < n := hp.an; omega
  have hb : b < n + 1 := by have : (b : Int) < n := hp.bn; omega
  have t27 := fun old G => F6.t27_ok (n : Int) (k : Int) old (rs.length : Int) (k : Int) G rs idle (by omega)
  have t33 := fun old G => F7.t33_ok (n : Int) (k : Int) old (n : Int) G rs idle (by omega)
  have i0 : ∀ p q : List Int, List.getD [p, q] (Int.toNat 0) ([] : List Int) = p := fun _ _ => rfl
  have i1 : ∀ p q : List Int, List.getD [p, q] (Int.toNat 1) ([] : List Int) = q := fun _ _ => rfl
  have s0 : ∀ p q r : List Int, List.set [p, q] (Int.toNat 0) r = [r, q] := fun _ _ _ => rfl
  have s1 : ∀ p q r : List Int, List.set [p, q] (Int.toNat 1) r = [p, r] := fun _ _ _ => rfl
  have l2 : ∀ p q : List Int, (([p, q] : List (List Int)).length : Int) = 2 := fun _ _ => rfl
  have z0 : decide ((0 : Int) ≤ 0) = true := rfl
  have z1 : decide ((0 : Int) ≤ 1) = true := rfl
  have z2 : decide ((0 : Int) < 2) = true := rfl
  have z3 : decide ((1 : Int) < 2) = true := rfl
  have n0 : decide ((0 : Nat) ≤ 0) = true := rfl
  have n1 : decide ((0 : Nat) ≤ 1) = true := rfl
  have hcs : x0 = 1 ∨ x0 = 2 ∨ x0 = 3 ∨ x0 = 4 ∨ x0 = 5 ∨ x0 = 6 ∨ x0 = 7 ∨ x0 = 8 ∨ x0 = 9 := by omega
  clear k1 k9 hp
  rcases hcs with hc | hc | hc | hc | hc | hc | hc | hc | hc
  · subst hc
    have q1 : ((1 : Int) == 1) = true := rfl
    have q2 : ((1 : Int) == 2) = false := rfl
    have q3 : ((1 : Int) == 3) = false := rfl
    have q4 : ((1 : Int) == 4) = false := rfl
    have q7 : ((1 : Int) == 7) = false := rfl
    have q8 : ((1 : Int) == 8) = false := rfl
    have q9 : ((1 : Int) == 9) = false := rfl
    have w1 : Go.IntKind.wrap .i64 ((1 : Int) - 1) = 0 := by decide
    have w3 : Go.IntKind.wrap .i64 ((1 : Int) - 3) = -2 := by decide
    have w7 : Go.IntKind.wrap .i64 ((1 : Int) - 7) = -6 := by decide
    obtain ⟨old, g', h', m, m', r1, r2, r3⟩ := tie_ok' (by omega) u0 ha (show n < n + 1 by omega)
    exact ⟨old, g', g1, h', h1, m, f1, m', e1, r3, u1, by simp only [F6.l0.b, hxx, d, dz, Bool.and_self, Bool.and_true, cT, cF, Int.toNat_natCast, q1, q2, q3, q4, q7, q8, q9, w1, w3, w7, l2, z0, z1, z2, z3, n0, n1, i0, i1, s0, s1, bS, w, r1, t27], by simp only [F7.l2.b, hxx, d, dz, Bool.and_self, Bool.and_true, cT, cF, Int.toNat_natCast, q1, q2, q3, q4, q7, q8, q9, w1, w3, w7, l2, z0, z1, z2, z3, n0, n1, i0, i1, s0, s1, bS, w, r2, t33]⟩
  · subst hc
    have q1 : ((2 : Int) == 1) = false := rfl
    have q2 : ((2 : Int) == 2) = true := rfl
    have q3 : ((2 : Int) == 3) = false := rfl
    have q4 : ((2 : Int) == 4) = false := rfl
    have q7 : ((2 : Int) == 7) = false := rfl
    have q8 : ((2 : Int) == 8) = false := rfl
    have q9 : ((2 : Int) == 9) = false := rfl
    have w1 : Go.IntKind.wrap .i64 ((2 : Int) - 1) = 1 := by decide
    have w3 : Go.IntKind.wrap .i64 ((2 : Int) - 3) = -1 := by decide
    have w7 : Go.IntKind.wrap .i64 ((2 : Int) - 7) = -5 := by decide
    obtain ⟨old, g', h', m, m', r1, r2, r3⟩ := tie_ok' (by omega) u1 ha (show n < n + 1 by omega)
    exact ⟨old, g0, g', h0, h', f0, m, e0, m', u0, r3, by simp only [F6.l0.b, hxx, d, dz, Bool.and_self, Bool.and_true, cT, cF, Int.toNat_natCast, q1, q2, q3, q4, q7, q8, q9, w1, w3, w7, l2, z0, z1, z2, z3, n0, n1, i0, i1, s0, s1, bS, w, r1, t27], by simp only [F7.l2.b, hxx, d, dz, Bool.and_self, Bool.and_true, cT, cF, Int.toNat_natCast, q1, q2, q3, q4, q7, q8, q9, w1, w3, w7, l2, z0, z1, z2, z3, n0, n1, i0, i1, s0, s1, bS, w, r2, t33]⟩
  · subst hc
    have q1 : ((3 : Int) == 1) = false := rfl
    have q2 : ((3 : Int) == 2) = false := rfl
    have q3 : ((3 : Int) == 3) = true := rfl
    have q4 : ((3 : Int) == 4) = false := rfl
    have q7 : ((3 : Int) == 7) = false := rfl
    have q8 : ((3 : Int) == 8) = false := rfl
    have q9 : ((3 : Int) == 9) = false := rfl
    have w1 : Go.IntKind.wrap .i64 ((3 : Int) - 1) = 2 := by decide
    have w3 : Go.IntKind.wrap .i64 ((3 : Int) - 3) = 0 := by decide
    have w7 : Go.IntKind.wrap .i64 ((3 : Int) - 7) = -4 := by decide
    obtain ⟨old, g', h', m, m', r1, r2, r3⟩ := tie_ok (by omega) u0 ha hb
    exact ⟨old, g', g1, h', h1, m, f1, m', e1, r3, u1, by simp only [F6.l0.b, hxx, d, dz, Bool.and_self, Bool.and_true, cT, cF, Int.toNat_natCast, q1, q2, q3, q4, q7, q8, q9, w1, w3, w7, l2, z0, z1, z2, z3, n0, n1, i0, i1, s0, s1, bS, w, r1, t27], by simp only [F7.l2.b, hxx, d, dz, Bool.and_self, Bool.and_true, cT, cF, Int.toNat_natCast, q1, q2, q3, q4, q7, q8, q9, w1, w3, w7, l2, z0, z1, z2, z3, n0, n1, i0, i1, s0, s1, bS, w, r2, t33]⟩
  · subst hc
    have q1 : ((4 : Int) == 1) = false := rfl
    have q2 : ((4 : Int) == 2) = false := rfl
    have q3 : ((4 : Int) == 3) = false := rfl
    have q4 : ((4 : Int) == 4) = true := rfl
    have q7 : ((4 : Int) == 7) = false := rfl
    have q8 : ((4 : Int) == 8) = false := rfl
    have q9 : ((4 : Int) == 9) = false := rfl
    have w1 : Go.IntKind.wrap .i64 ((4 : Int) - 1) = 3 := by decide
    have w3 : Go.IntKind.wrap .i64 ((4 : Int) - 3) = 1 := by decide
    have w7 : Go.IntKind.wrap .i64 ((4 : Int) - 7) = -3 := by decide
    obtain ⟨old, g', h', m, m', r1, r2, r3⟩ := tie_ok (by omega) u1 ha hb
    exact ⟨old, g0, g', h0, h', f0, m, e0, m', u0, r3, by simp only [F6.l0.b, hxx, d, dz, Bool.and_self, Bool.and_true, cT, cF, Int.toNat_natCast, q1, q2, q3, q4, q7, q8, q9, w1, w3, w7, l2, z0, z1, z2, z3, n0, n1, i0, i1, s0, s1, bS, w, r1, t27], by simp only [F7.l2.b, hxx, d, dz, Bool.and_self, Bool.and_true, cT, cF, Int.toNat_natCast, q1, q2, q3, q4, q7, q8, q9, w1, w3, w7, l2, z0, z1, z2, z3, n0, n1, i0, i1, s0, s1, bS, w, r2, t33]⟩
  · subst hc
    have q1 : ((5 : Int) == 1) = false := rfl
    have q2 : ((5 : Int) == 2) = false := rfl
    have q3 : ((5 : Int) == 3) = false := rfl
    have q4 : ((5 : Int) == 4) = false := rfl
    have q7 : ((5 : Int) == 7) = false := rfl
    have q8 : ((5 : Int) == 8) = false := rfl
    have q9 : ((5 : Int) == 9) = false := rfl
    have w1 : Go.IntKind.wrap .i64 ((5 : Int) - 1) = 4 := by decide
    have w3 : Go.IntKind.wrap .i64 ((5 : Int) - 3) = 2 := by decide
    have w7 : Go.IntKind.wrap .i64 ((5 : Int) - 7) = -2 := by decide
    have t33' := t33 false [h0, h1]
    rw [Bool.not_false] at t33'
    exact ⟨false, g0, g1, h0, h1, f0, f1, e0, e1, u0, u1, by simp only [F6.l0.b, hxx, d, dz, Bool.and_self, Bool.and_true, cT, cF, Int.toNat_natCast, q1, q2, q3, q4, q7, q8, q9, w1, w3, w7, l2, z0, z1, z2, z3, n0, n1, i0, i1, s0, s1, bS, w, t27], by simp only [F7.l2.b, hxx, d, dz, Bool.and_self, Bool.and_true, cT, cF, Int.toNat_natCast, q1, q2, q3, q4, q7, q8, q9, w1, w3, w7, l2, z0, z1, z2, z3, n0, n1, i0, i1, s0, s1, bS, w, t33']⟩
  · subst hc
    have q1 : ((6 : Int) == 1) = false := rfl
    have q2 : ((6 : Int) == 2) = false := rfl
    have q3 : ((6 : Int) == 3) = false := rfl
    have q4 : ((6 : Int) == 4) = false := rfl
    have q7 : ((6 : Int) == 7) = false := rfl
    have q8 : ((6 : Int) == 8) = false := rfl
    have q9 : ((6 : Int) == 9) = false := rfl
    have w1 : Go.IntKind.wrap .i64 ((6 : Int) - 1) = 5 := by decide
    have w3 : Go.IntKind.wrap .i64 ((6 : Int) - 3) = 3 := by decide
    have w7 : Go.IntKind.wrap .i64 ((6 : Int) - 7) = -1 := by decide
    have t33' := t33 false [h0, h1]
    rw [Bool.not_false] at t33'
    exact ⟨false, g0, g1, h0, h1, f0, f1, e0, e1, u0, u1, by simp only [F6.l0.b, hxx, d, dz, Bool.and_self, Bool.and_true, cT, cF, Int.toNat_natCast, q1, q2, q3, q4, q7, q8, q9, w1, w3, w7, l2, z0, z1, z2, z3, n0, n1, i0, i1, s0, s1, bS, w, t27], by simp only [F7.l2.b, hxx, d, dz, Bool.and_self, Bool.and_true, cT, cF, Int.toNat_natCast, q1, q2, q3, q4, q7, q8, q9, w1, w3, w7, l2, z0, z1, z2, z3, n0, n1, i0, i1, s0, s1, bS, w, t33']⟩
  · subst hc
    have q1 : ((7 : Int) == 1) = false := rfl
    have q2 : ((7 : Int) == 2) = false := rfl
    have q3 : ((7 : Int) == 3) = false := rfl
    have q4 : ((7 : Int) == 4) = false := rfl
    have q7 : ((7 : Int) == 7) = true := rfl
    have q8 : ((7 : Int) == 8) = false := rfl
    have q9 : ((7 : Int) == 9) = false := rfl
    have w1 : Go.IntKind.wrap .i64 ((7 : Int) - 1) = 6 := by decide
    have w3 : Go.IntKind.wrap .i64 ((7 : Int) - 3) = 4 := by decide
    have w7 : Go.IntKind.wrap .i64 ((7 : Int) - 7) = 0 := by decide
    obtain ⟨old, g', h', m, m', r1, r2, r3⟩ := tie_ok (by omega) u0 ha hb
    exact ⟨old, g', g1, h', h1, m, f1, m', e1, r3, u1, by simp only [F6.l0.b, hxx, d, dz, Bool.and_self, Bool.and_true, cT, cF, Int.toNat_natCast, q1, q2, q3, q4, q7, q8, q9, w1, w3, w7, l2, z0, z1, z2, z3, n0, n1, i0, i1, s0, s1, bS, w, r1, t27], by simp only [F7.l2.b, hxx, d, dz, Bool.and_self, Bool.and_true, cT, cF, Int.toNat_natCast, q1, q2, q3, q4, q7, q8, q9, w1, w3, w7, l2, z0, z1, z2, z3, n0, n1, i0, i1, s0, s1, bS, w, r2, t33]⟩
  · subst hc
    have q1 : ((8 : Int) == 1) = false := rfl
    have q2 : ((8 : Int) == 2) = false := rfl
    have q3 : ((8 : Int) == 3) = false := rfl
    have q4 : ((8 : Int) == 4) = false := rfl
    have q7 : ((8 : Int) == 7) = false := rfl
    have q8 : ((8 : Int) == 8) = true := rfl
    have q9 : ((8 : Int) == 9) = false := rfl
    have w1 : Go.IntKind.wrap .i64 ((8 : Int) - 1) = 7 := by decide
    have w3 : Go.IntKind.wrap .i64 ((8 : Int) - 3) = 5 := by decide
    have w7 : Go.IntKind.wrap .i64 ((8 : Int) - 7) = 1 := by decide
    obtain ⟨old, g', h', m, m', r1, r2, r3⟩ := tie_ok (by omega) u1 ha hb
    exact ⟨old, g0, g', h0, h', f0, m, e0, m', u0, r3, by simp only [F6.l0.b, hxx, d, dz, Bool.and_self, Bool.and_true, cT, cF, Int.toNat_natCast, q1, q2, q3, q4, q7, q8, q9, w1, w3, w7, l2, z0, z1, z2, z3, n0, n1, i0, i1, s0, s1, bS, w, r1, t27], by simp only [F7.l2.b, hxx, d, dz, Bool.and_self, Bool.and_true, cT, cF, Int.toNat_natCast, q1, q2, q3, q4, q7, q8, q9, w1, w3, w7, l2, z0, z1, z2, z3, n0, n1, i0, i1, s0, s1, bS, w, r2, t33]⟩
  · subst hc
    have q1 : ((9 : Int) == 1) = false := rfl
    have q2 : ((9 : Int) == 2) = false := rfl
    have q3 : ((9 : Int) == 3) = false := rfl
    have q4 : ((9 : Int) == 4) = false := rfl
    have q7 : ((9 : Int) == 7) = false := rfl
    have q8 : ((9 : Int) == 8) = false := rfl
    have q9 : ((9 : Int) == 9) = true := rfl
    have w1 : Go.IntKind.wrap .i64 ((9 : Int) - 1) = 8 := by decide
    have w3 : Go.IntKind.wrap .i64 ((9 : Int) - 3) = 6 := by decide
    have w7 : Go.IntKind.wrap .i64 ((9 : Int) - 7) = 2 := by decide
    obtain ⟨old, g', h', m, m', r1, r2, r3⟩ := tie_ok (by omega) u0 ha hb
    obtain ⟨old2, g'', h'', m2, m2', r4, r5, r6⟩ := tie_ok (by omega) u1 ha hb
    have hor : (!old || !old2) = !(old && old2) := by cases old <;> cases old2 <;> rfl
    exact ⟨old && old2, g', g'', h', h'', m, m2, m', m2', r3, r6, by simp only [F6.l0.b, hxx, d, dz, Bool.and_self, Bool.and_true, cT, cF, Int.toNat_natCast, q1, q2, q3, q4, q7, q8, q9, w1, w3, w7, l2, z0, z1, z2, z3, n0, n1, i0, i1, s0, s1, bS, w, r1, r4, t27], by simp only [F7.l2.b, hxx, d, dz, Bool.and_self, Bool.and_true, cT, cF, Int.toNat_natCast, q1, q2, q3, q4, q7, q8, q9, w1, w3, w7, l2, z0, z1, z2, z3, n0, n1, i0, i1, s0, s1, bS, w, r2, r5, hor, t33]⟩

end Go.Proofs.Ytciafkboilgblaa.AX

/- Freedoms of sketches: the program and its reference agree. No conditions. -/
namespace Go.Proofs.Ytciafkboilgblaa.AX
open Go

theorem ties_ok {n : Nat} (hn : n ≤ 24) {rs : List S31} (hr : rs.length ≤ 60) (hx : ∀ x ∈ rs, RuleP n x) : ∀ (r k : Nat) (g0 g1 h0 h1 : List Int) (f0 f1 e0 e1 : Nat → Nat) (idle : List Int), k + r = rs.length → UU (n + 1) g0 h0 f0 e0 → UU (n + 1) g1 h1 f1 e1 → idle.length ≤ k →
    ∃ g0' g1' h0' h1' f0' f1' e0' e1' idle', UU (n + 1) g0' h0' f0' e0' ∧ UU (n + 1) g1' h1' f1' e1' ∧ idle'.length ≤ rs.length ∧
      F6.l0 ((n : Int), (rs.length : Int), (k : Int), [g0, g1], rs, idle) = some ((n : Int), [g0', g1'], idle') ∧ F7.l2 ((n : Int), (k : Int), (n : Int), [h0, h1], idle, rs) = some ((n : Int), [h0', h1'], idle')
  | 0, k, g0, g1, h0, h1, f0, f1, e0, e1, idle, hk, u0, u1, hi => by
    have d : decide ((k : Int) < (rs.length : Int)) = false := dF (by omega)
    refine ⟨g0, g1, h0, h1, f0, f1, e0, e1, idle, u0, u1, by omega, ?_, ?_⟩
    · unfold F6.l0; exact lim_out (by simp only [F6.l0.b, d, cF])
    · unfold F7.l2; exact lim_out (by simp only [F7.l2.b, d, cF])
  | r + 1, k, g0, g1, h0, h1, f0, f1, e0, e1, idle, hk, u0, u1, hi => by
    obtain ⟨old, g0', g1', h0', h1', f0', f1', e0', e1', v0, v1, s1, s2⟩ := nxt_ok hn hr hx (k := k) (by omega) u0 u1 idle (by omega)
    obtain ⟨a0, a1, b0, b1, c0, c1, d0, d1, idle', w0, w1, wl, t1, t2⟩ := ties_ok hn hr hx r (k + 1) g0' g1' h0' h1' f0' f1' e0' e1' (bif old then idle ++ [(k : Int)] else idle) (by omega) v0 v1 (by cases old <;> simp <;> omega)
    refine ⟨a0, a1, b0, b1, c0, c1, d0, d1, idle', w0, w1, wl, ?_, ?_⟩
    · rw [← t1]; unfold F6.l0; exact lim_in s1
    · rw [← t2]; unfold F7.l2; exact lim_in s2

/-- Is it the root of a group that can move? -/
def mv (n : Nat) (f : Nat → Nat) (i : Nat) : Bool := (f i == i) && !(i == f n)
theorem cnt_mv {n : Nat} {g : List Int} {f : Nat → Nat} (u : UF (n + 1) g f) : cntN (mv n f) n + 1 = cntN (fun i => f i == i) (n + 1) := by
  have h1 := cnt_del (p := fun i => f i == i) (c := f n) (n := n + 1) (u.lt (by omega)) (by have := u.idem (x := n) (by omega); simpa using this)
  have h2 : cntN (fun i => (f i == i) && !(i == f n)) (n + 1) = cntN (mv n f) (n + 1) := rfl
  rw [h2] at h1
  have h3 : mv n f n = false := by
    unfold mv
    by_cases e : f n = n
    · rw [e]; simp
    · have : (f n == n) = false := by simpa using e
      rw [this]; rfl
  simp only [cntN, h3] at h1
  simpa [cntN] using h1

theorem F6.l5_ok {n : Nat} (hn : n ≤ 24) {G : List (List Int)} {ax : Nat} {g : List Int} {f : Nat → Nat} (hG : G.getD ax [] = g) (u : UF (n + 1) g f) (free : Nat) (hf : free ≤ 1000) (a b : Int) (idle : List Int) :
    F6.l5 ((n : Int), (free : Int), (ax : Int), 0, a, b, idle, G) = some ((n : Int), ((free + cntN (mv n f) n : Nat) : Int), a, b, idle, G) := by
  have hg := u.len
  exact lim_run (f := F6.l5.b) (fun i => ((n : Int), ((free + cntN (mv n f) i : Nat) : Int), (ax : Int), (i : Int), a, b, idle, G)) n (y := ((n : Int), ((free + cntN (mv n f) n : Nat) : Int), a, b, idle, G)) (fun i hi => by
    have hc := cntN_le (mv n f) i
    have d : decide ((i : Int) < (n : Int)) = true := dT (by omega)
    have d2 : decide ((0 : Int) ≤ (i : Int)) = true := dT (by omega)
    have d3 : decide ((i : Int) < (g.length : Int)) = true := dT (by omega)
    have w : Go.IntKind.wrap .i64 ((i : Int) + 1) = ((i + 1 : Nat) : Int) := by rw [w64 (by omega) (by omega)]; rfl
    have w2 : Go.IntKind.wrap .i64 (((free + cntN (mv n f) i : Nat) : Int) + 1) = ((free + cntN (mv n f) i + 1 : Nat) : Int) := by rw [w64 (by omega) (by omega)]; rfl
    have hri := u.root_iff (x := i) (by omega)
    have e23 := F23.ok (u.rt n (by omega))
    by_cases c : f i = i
    · have q : (g.getD i 0 == (i : Int)) = true := qT (hri.2 c)
      by_cases c2 : f n = i
      · have hm : mv n f i = false := by unfold mv; have : (i == f n) = true := by simp [c2]
                                         rw [this]; simp
        have q2 : ((f n : Int) != (i : Int)) = false := nF (by omega)
        simp only [F6.l5.b, d, d2, d3, Bool.and_self, cT, cF, Int.toNat_natCast, hG, q, e23, bS, q2, Bool.and_false, w, cntN, hm, Bool.false_eq_true, if_false, Nat.add_zero]
      · have hm : mv n f i = true := by
          unfold mv
          have h1 : (f i == i) = true := by simpa using c
          have h2 : (i == f n) = false := by simp; omega
          rw [h1, h2]; rfl
        have q2 : ((f n : Int) != (i : Int)) = true := nT (by omega)
        simp only [F6.l5.b, d, d2, d3, Bool.and_self, cT, cF, Int.toNat_natCast, hG, q, e23, bS, q2, w, w2, cntN, hm, if_true]
        rfl
    · have q : (g.getD i 0 == (i : Int)) = false := qF (fun h => c (hri.1 h))
      have hm : mv n f i = false := by
        unfold mv
        have h1 : (f i == i) = false := by simpa using c
        rw [h1]; rfl
      simp only [F6.l5.b, d, d2, d3, Bool.and_self, cT, cF, Int.toNat_natCast, hG, q, Bool.false_and, w, cntN, hm, Bool.false_eq_true, if_false, Nat.add_zero])
    (by
      have d : decide ((n : Int) < (n : Int)) = false := dF (by omega)
      simp only [F6.l5.b, d, cF])

theorem F7.l7_ok {n : Nat} (hn : n ≤ 24) {G : List (List Int)} {ax : Nat} (hax : ax < G.length) (hGl : G.length ≤ 10) {g : List Int} {f : Nat → Nat} (hG : G.getD ax [] = g) (u : UF (n + 1) g f) (free : Nat) (hf : free ≤ 1000) (idle : List Int) :
    F7.l7 ((n : Int), (free : Int), (ax : Int), 0, G, idle) = some ((n : Int), ((free + cntN (mv n f) n : Nat) : Int), (ax : Int), G, idle) := by
  have hg := u.len
  exact lim_run (f := F7.l7.b) (fun i => ((n : Int), ((free + cntN (mv n f) i : Nat) : Int), (ax : Int), (i : Int), G, idle)) n (y := ((n : Int), ((free + cntN (mv n f) n : Nat) : Int), (ax : Int), G, idle)) (fun i hi => by
    have hc := cntN_le (mv n f) i
    have d : decide ((i : Int) < (n : Int)) = true := dT (by omega)
    have d2 : decide ((0 : Int) ≤ (ax : Int)) = true := dT (by omega)
    have d3 : decide ((ax : Int) < (G.length : Int)) = true := dT (by omega)
    have w : Go.IntKind.wrap .i64 ((i : Int) + 1) = ((i + 1 : Nat) : Int) := by rw [w64 (by omega) (by omega)]; rfl
    have w2 : Go.IntKind.wrap .i64 (((free + cntN (mv n f) i : Nat) : Int) + 1) = ((free + cntN (mv n f) i + 1 : Nat) : Int) := by rw [w64 (by omega) (by omega)]; rfl
    have e27 := F27.ok (u.rt n (by omega))
    have e27i := F27.ok (u.rt i (by omega))
    by_cases c : f i = i
    · have q : ((f i : Int) == (i : Int)) = true := qT (by omega)
      by_cases c2 : f n = i
      · have hm : mv n f i = false := by unfold mv; have : (i == f n) = true := by simp [c2]
                                         rw [this]; simp
        have q2 : ((f n : Int) != (i : Int)) = false := nF (by omega)
        simp only [F7.l7.b, d, d2, d3, Bool.and_self, Bool.or_true, cT, cF, Int.toNat_natCast, hG, q, e27, e27i, bS, q2, Bool.and_false, w, cntN, hm, Bool.false_eq_true, if_false, Nat.add_zero]
      · have hm : mv n f i = true := by
          unfold mv
          have h1 : (f i == i) = true := by simpa using c
          have h2 : (i == f n) = false := by simp; omega
          rw [h1, h2]; rfl
        have q2 : ((f n : Int) != (i : Int)) = true := nT (by omega)
        simp only [F7.l7.b, d, d2, d3, Bool.and_self, Bool.or_true, cT, cF, Int.toNat_natCast, hG, q, e27, e27i, bS, q2, w, w2, cntN, hm, if_true]
        rfl
    · have q : ((f i : Int) == (i : Int)) = false := qF (by omega)
      have hm : mv n f i = false := by
        unfold mv
        have h1 : (f i == i) = false := by simpa using c
        rw [h1]; rfl
      simp only [F7.l7.b, d, d2, d3, Bool.and_self, Bool.or_true, cT, cF, Int.toNat_natCast, hG, q, e27i, bS, Bool.false_and, w, cntN, hm, Bool.false_eq_true, if_false, Nat.add_zero])
    (by
      have d : decide ((n : Int) < (n : Int)) = false := dF (by omega)
      simp only [F7.l7.b, d, cF])

theorem F6.l3_ok {n : Nat} (hn : n ≤ 24) {g0 g1 : List Int} {f0 f1 : Nat → Nat} (u0 : UF (n + 1) g0 f0) (u1 : UF (n + 1) g1 f1) (idle : List Int) :
    F6.l3 ((n : Int), 0, 2, 0, idle, [g0, g1]) = some (((cntN (mv n f0) n + cntN (mv n f1) n : Nat) : Int), idle) := by
  have c0 := cntN_le (mv n f0) n
  have c1 := cntN_le (mv n f1) n
  have l5 := F6.l5_ok hn (G := [g0, g1]) (ax := 0) rfl u0 0 (by omega) 2 0 idle
  have l5' := F6.l5_ok hn (G := [g0, g1]) (ax := 1) rfl u1 (0 + cntN (mv n f0) n) (by omega) 2 1 idle
  rw [Nat.zero_add] at l5 l5'
  have l2 : (([g0, g1] : List (List Int)).length : Int) = 2 := rfl
  have w0 : Go.IntKind.wrap .i64 ((0 : Int) + 1) = 1 := by decide
  have w1 : Go.IntKind.wrap .i64 ((1 : Int) + 1) = 2 := by decide
  have z0 : decide ((0 : Int) < 2) = true := rfl
  have z1 : decide ((1 : Int) < 2) = true := rfl
  have z2 : decide ((2 : Int) < 2) = false := rfl
  have z3 : decide ((0 : Int) ≤ 0) = true := rfl
  have z4 : decide ((0 : Int) ≤ 1) = true := rfl
  rw [show ((0 : Nat) : Int) = 0 from rfl] at l5
  rw [show ((1 : Nat) : Int) = 1 from rfl] at l5'
  unfold F6.l3
  refine (lim_in (x' := ((n : Int), ((cntN (mv n f0) n : Nat) : Int), 2, 1, idle, [g0, g1])) (by simp only [F6.l3.b, l2, z0, z3, Bool.and_self, cT, l5, bS, w0])).trans ?_
  refine (lim_in (x' := ((n : Int), ((cntN (mv n f0) n + cntN (mv n f1) n : Nat) : Int), 2, 2, idle, [g0, g1])) (by simp only [F6.l3.b, l2, z1, z4, Bool.and_self, cT, l5', bS, w1])).trans ?_
  exact lim_out (by simp only [F6.l3.b, z2, cF])

theorem F7.l5_ok {n : Nat} (hn : n ≤ 24) {g0 g1 : List Int} {f0 f1 : Nat → Nat} (u0 : UF (n + 1) g0 f0) (u1 : UF (n + 1) g1 f1) (idle : List Int) :
    F7.l5 ((n : Int), 0, 0, [g0, g1], idle) = some (((cntN (mv n f0) n + cntN (mv n f1) n : Nat) : Int), idle) := by
  have c0 := cntN_le (mv n f0) n
  have c1 := cntN_le (mv n f1) n
  have l5 := F7.l7_ok hn (G := [g0, g1]) (ax := 0) (by simp) (by simp) rfl u0 0 (by omega) idle
  have l5' := F7.l7_ok hn (G := [g0, g1]) (ax := 1) (by simp) (by simp) rfl u1 (0 + cntN (mv n f0) n) (by omega) idle
  rw [Nat.zero_add] at l5 l5'
  have w0 : Go.IntKind.wrap .i64 ((0 : Int) + 1) = 1 := by decide
  have w1 : Go.IntKind.wrap .i64 ((1 : Int) + 1) = 2 := by decide
  have z0 : decide ((0 : Int) < 2) = true := rfl
  have z1 : decide ((1 : Int) < 2) = true := rfl
  have z2 : decide ((2 : Int) < 2) = false := rfl
  rw [show ((0 : Nat) : Int) = 0 from rfl] at l5
  rw [show ((1 : Nat) : Int) = 1 from rfl] at l5'
  unfold F7.l5
  refine (lim_in (x' := ((n : Int), ((cntN (mv n f0) n : Nat) : Int), 1, [g0, g1], idle)) (by simp only [F7.l5.b, z0, cT, l5, bS, w0])).trans ?_
  refine (lim_in (x' := ((n : Int), ((cntN (mv n f0) n + cntN (mv n f1) n : Nat) : Int), 2, [g0, g1], idle)) (by simp only [F7.l5.b, z1, cT, l5', bS, w1])).trans ?_
  exact lim_out (by simp only [F7.l5.b, z2, cF])

theorem F7.l0_ok {n : Nat} (hn : n ≤ 24) (rs : List S31) : F7.l0 ((n : Int), 0, (n : Int), [[], []], rs) = some ((n : Int), (n : Int), [idxs (n + 1), idxs (n + 1)], rs) := by
  have hz : [idxs 0, idxs 0] = ([[], []] : List (List Int)) := by simp [idxs]
  rw [← hz]
  exact lim_run (f := F7.l0.b) (fun i => ((n : Int), (i : Int), (n : Int), [idxs i, idxs i], rs)) (n + 1) (y := ((n : Int), (n : Int), [idxs (n + 1), idxs (n + 1)], rs)) (fun i hi => by
    have hl := idxs_len i
    have d : decide ((i : Int) ≤ (n : Int)) = true := dT (by omega)
    have d5 : decide (((idxs i).length + ((i : Int) :: ([] : List Int)).length) ≤ 274877906944) = true := dT (by simp only [List.length_cons, List.length_nil]; omega)
    have w : Go.IntKind.wrap .i64 ((i : Int) + 1) = ((i + 1 : Nat) : Int) := by rw [w64 (by omega) (by omega)]; rfl
    have i0 : ∀ p q : List Int, List.getD [p, q] (Int.toNat 0) ([] : List Int) = p := fun _ _ => rfl
    have i1 : ∀ p q : List Int, List.getD [p, q] (Int.toNat 1) ([] : List Int) = q := fun _ _ => rfl
    have s0 : ∀ p q r : List Int, List.set [p, q] (Int.toNat 0) r = [r, q] := fun _ _ _ => rfl
    have s1 : ∀ p q r : List Int, List.set [p, q] (Int.toNat 1) r = [p, r] := fun _ _ _ => rfl
    have l2 : ∀ p q : List Int, (([p, q] : List (List Int)).length : Int) = 2 := fun _ _ => rfl
    have z0 : decide ((0 : Int) ≤ 0) = true := rfl
    have z1 : decide ((0 : Int) ≤ 1) = true := rfl
    have z2 : decide ((0 : Int) < 2) = true := rfl
    have z3 : decide ((1 : Int) < 2) = true := rfl
    have n0 : decide ((0 : Nat) ≤ 0) = true := rfl
    have n1 : decide ((0 : Nat) ≤ 1) = true := rfl
    simp only [F7.l0.b, d, cT, l2, z0, z1, z2, z3, n0, n1, Bool.and_self, i0, i1, s0, s1, d5, w]
    rw [idxs_succ])
    (by
      have d : decide (((n + 1 : Nat) : Int) ≤ (n : Int)) = false := dF (by omega)
      simp only [F7.l0.b, d, cF])

/-- The program and its reference answer the same. -/
theorem free_ok (n : Int) (rs : List S31) : ∃ a l c, l.length ≤ 60 ∧ F6.F (n, rs) = some (a, l, c) ∧ F7.F (n, rs) = some (a, l, c) := by
  have f19 := F19.ok n rs
  have f18 := F18.ok n rs
  cases hs : okS n rs with
  | false =>
    rw [hs] at f19 f18
    exact ⟨0, [], 1, by simp, by simp only [F6.F, f19, bS, Bool.not_false, cT], by simp only [F7.F, f18, bS, Bool.not_false, cT]⟩
  | true =>
    obtain ⟨hr, h1, h24, hx⟩ := okS_all hs
    obtain ⟨m, rfl⟩ : ∃ m : Nat, n = (m : Int) := ⟨n.toNat, by omega⟩
    have hn : m ≤ 24 := by omega
    rw [hs] at f19 f18
    obtain ⟨ps, core, f20⟩ := F20.ok hs
    have f25 := F25.ok (m : Int) rs hr
    obtain ⟨ps', f24⟩ := F24.ok hn hr hx
    cases hk : okA m rs with
    | false =>
      rw [hk] at f20 f24
      have q : ((15 : Int) != 0) = true := rfl
      exact ⟨0, [], 15, by simp, by simp only [F6.F, f19, f20, bS, Bool.not_true, cF, Bool.false_eq_true, if_false, q, cT], by simp only [F7.F, f18, f25, f24, bS, Bool.not_true, Bool.not_false, cF, cT]⟩
    | true =>
      rw [hk] at f20 f24
      have q : ((0 : Int) != 0) = false := rfl
      have w0 : Go.IntKind.wrap .i64 ((m : Int) + 1) = ((m + 1 : Nat) : Int) := by rw [w64 (by omega) (by omega)]; rfl
      have f21 := F21.ok (m + 1) (by omega)
      obtain ⟨g0, g1, h0, h1, f0, f1, e0, e1, idle, u0, u1, hil, t1, t2⟩ := ties_ok hn hr hx rs.length 0 (idxs (m + 1)) (idxs (m + 1)) (idxs (m + 1)) (idxs (m + 1)) id id id id [] (by omega) (uu_zero _) (uu_zero _) (by simp)
      rw [show ((0 : Nat) : Int) = 0 from rfl] at t1 t2
      have l3 := F6.l3_ok hn u0.u u1.u idle
      have l5 := F7.l5_ok hn u0.v u1.v idle
      have c0 := cnt_mv u0.u
      have c1 := cnt_mv u1.u
      have d0 := cnt_mv u0.v
      have d1 := cnt_mv u1.v
      have hc0 := u0.c
      have hc1 := u1.c
      rw [show cntN (mv m e0) m + cntN (mv m e1) m = cntN (mv m f0) m + cntN (mv m f1) m by omega] at l5
      have l2 : (([g0, g1] : List (List Int)).length : Int) = 2 := rfl
      have l0 := F7.l0_ok hn rs
      exact ⟨_, idle, 0, by omega, by simp only [F6.F, f19, f20, bS, Bool.not_true, cF, if_true, q, w0, f21, t1, l2, l3]; rfl, by simp only [F7.F, f18, f25, f24, bS, Bool.not_true, cF, l0, t2, l5]⟩

end Go.Proofs.Ytciafkboilgblaa.AX

/- The law of freedoms of sketches, plainly. No conditions. -/
namespace Go.Proofs.Ytciafkboilgblaa.AX
open Go

theorem F29.ok (l : List S31) (h : l.length ≤ 1048576) : F29.F l = some (l) := by
  have := lim_run (f := F29.l0.b) (fun i => ((i : Int), l, upTo id z31 l i)) l.length (y := l) (fun i hi => by
    have e := upTo_set (c := id) (z := z31) (d := z31) hi
    have d1 : decide ((i : Int) < (l.length : Int)) = true := dT (by omega)
    have d2 : decide ((0 : Int) ≤ (i : Int)) = true := dT (by omega)
    have d3 : decide ((i : Int) < ((upTo id z31 l i).length : Int)) = true := dT (by rw [upTo_len (by omega)]; omega)
    have w : Go.IntKind.wrap .i64 ((i : Int) + 1) = ((i + 1 : Nat) : Int) := by rw [w64 (by omega) (by omega)]; rfl
    
    simp only [F29.l0.b, F38.F, d1, d2, d3, w, Bool.and_self, cT, bS, Int.toNat_natCast]
    exact congrArg (fun q => some (Sum.inl (((i + 1 : Nat) : Int), l, q))) e)
    (by
      have d1 : decide ((l.length : Int) < (l.length : Int)) = false := dF (by omega)
      simp only [F29.l0.b, d1, cF, upTo_all, List.map_id])
  have d0 : (((decide (0 ≤ (l.length : Int))) && (decide ((l.length : Int) ≤ (l.length : Int)))) && (decide ((l.length : Int) ≤ 274877906944))) = true := by simp; omega
  simp only [F29.F, d0, cT, Int.toNat_natCast, ← upTo_zero (c := id) (z := z31) (l := l)]
  exact congrArg (fun q => Option.bind q fun y => some y) this

theorem F11.ok (p : List Int) (h : p.length ≤ 1048576) : F11.F (p, p) = some true := by
  have := lim_run (f := F11.l0.b) (fun i => ((i : Int), p, p)) p.length (y := .inr ()) (fun i hi => by
    have d1 : decide ((i : Int) < (p.length : Int)) = true := dT (by omega)
    have d2 : decide ((0 : Int) ≤ (i : Int)) = true := dT (by omega)
    have w : Go.IntKind.wrap .i64 ((i : Int) + 1) = ((i + 1 : Nat) : Int) := by rw [w64 (by omega) (by omega)]; rfl
    simp (disch := rfl) only [F11.l0.b, d1, d2, nF, w, Bool.and_self, cT, cF, bS, Bool.not_true])
    (by
      have d1 : decide ((p.length : Int) < (p.length : Int)) = false := dF (by omega)
      simp (disch := rfl) only [F11.l0.b, d1, cF])
  have n0 : (((p.length : Int)) != (p.length : Int)) = false := nF rfl
  simp only [F11.F, n0, cF]
  exact congrArg (fun q : Option (Bool ⊕ Unit) => q.bind fun q => match q with | .inl y => some y | .inr y => some true) this

theorem F39.ok (x : S31) : F39.F ((x.f0, x.f1, x.f2, x.f3), (x.f0, x.f1, x.f2, x.f3)) = some true := by
  simp (disch := rfl) only [F39.F, nF, cF]
theorem F30.ok (p : List S31) (h : p.length ≤ 1048576) : F30.F (p, p) = some true := by
  have := lim_run (f := F30.l0.b) (fun i => ((i : Int), p, p)) p.length (y := .inr ()) (fun i hi => by
    have d1 : decide ((i : Int) < (p.length : Int)) = true := dT (by omega)
    have d2 : decide ((0 : Int) ≤ (i : Int)) = true := dT (by omega)
    have w : Go.IntKind.wrap .i64 ((i : Int) + 1) = ((i + 1 : Nat) : Int) := by rw [w64 (by omega) (by omega)]; rfl
    simp only [F30.l0.b, d1, d2, F39.ok, w, Bool.and_self, cT, cF, bS, Bool.not_true])
    (by
      have d1 : decide ((p.length : Int) < (p.length : Int)) = false := dF (by omega)
      simp only [F30.l0.b, d1, cF])
  have n0 : (((p.length : Int)) != (p.length : Int)) = false := nF rfl
  simp only [F30.F, n0, cF]
  exact congrArg (fun q : Option (Bool ⊕ Unit) => q.bind fun q => match q with | .inl y => some y | .inr y => some true) this

/- marks -/
theorem F14.ok (l : List Int) (k : Int) (h : l.length ≤ 1048576) (hk : 0 ≤ k) (hk2 : k ≤ 100000000) : F14.F (l, k) = some (k + (l.length : Int), mkL (fun k _ => k) (fun _ => 1) k l, ()) := by
  have := lim_run (f := F14.l0.b) (fun i => (mkK (fun _ => 1) k (l.take i), (i : Int), mkAt (fun k _ => k) (fun _ => 1) k l i)) l.length (y := (k + 1 * (l.length : Int), mkL (fun k _ => k) (fun _ => 1) k l)) (fun i hi => by
    have e := mkAt_set (g := fun k _ => k) (c := fun _ => 1) (k := k) (d := 0) hi
    have e2 : mkK (fun _ => (1 : Int)) k (l.take i) = k + 1 * i := by rw [mkK_const]; simp; omega
    have e3 : mkK (fun _ => (1 : Int)) k (l.take (i + 1)) = k + 1 * (i + 1 : Nat) := by rw [mkK_const]; simp; omega
    have hl : (mkAt (fun k _ => k) (fun _ => 1) k l i).length = l.length := mkAt_len
    simp (disch := omega) only [F14.l0.b, dT, dF, w64, hl, e2, e3, List.length_set, Bool.and_self, cT, Int.toNat_natCast] at e ⊢
    rw [← e]
    simp only [Option.some.injEq, Sum.inl.injEq, Prod.mk.injEq]
    exact ⟨by omega, by omega, trivial⟩)
    (by simp (disch := omega) only [F14.l0.b, dT, dF, cF, mkAt_all, mkAt_len, List.take_length, mkK_const, mkL_len])
  simp only [F14.F]
  exact congrArg (fun q : Option (Int × List Int) => q.bind fun y => some (y.1, y.2, ())) (by simpa [mkAt_zero, mkK] using this)

theorem F15.ok (l : List Int) (k : Int) (h : l.length ≤ 1048576) (hk : 0 ≤ k) (hk2 : k ≤ 100000000) : F15.F (mkL (fun k _ => k) (fun _ => 1) k l, k) = some (k + (l.length : Int)) := by
  have := lim_run (f := F15.l0.b) (fun i => (mkK (fun _ => 1) k (l.take i), (i : Int), mkL (fun k _ => k) (fun _ => 1) k l)) l.length (y := .inr (k + 1 * (l.length : Int))) (fun i hi => by
    have e := mkL_get (g := fun k _ => k) (c := fun _ => 1) (k := k) (d := 0) hi
    have e2 : mkK (fun _ => (1 : Int)) k (l.take i) = k + 1 * i := by rw [mkK_const]; simp; omega
    have e3 : mkK (fun _ => (1 : Int)) k (l.take (i + 1)) = k + 1 * (i + 1 : Nat) := by rw [mkK_const]; simp; omega
    simp (disch := omega) only [F15.l0.b, dT, dF, w64, nT, nF, mkL_len, e, e2, e3, Bool.and_self, cT, cF, Int.toNat_natCast]
    simp only [Option.some.injEq, Sum.inl.injEq, Prod.mk.injEq]
    exact ⟨by omega, by omega, trivial⟩)
    (by simp (disch := omega) only [F15.l0.b, dT, dF, cF, List.take_length, mkK_const, mkL_len])
  simp only [F15.F]
  exact congrArg (fun q : Option (Int ⊕ Int) => q.bind fun q => match q with | .inl y => some y | .inr y => some y) (by simpa [mkK] using this)

def g31 (k : Int) (_ : S31) : S31 := ⟨k, k + 1, k + 1 + 1, k + 1 + 1 + 1⟩
theorem F31.ok (l : List S31) (k : Int) (h : l.length ≤ 1048576) (hk : 0 ≤ k) (hk2 : k ≤ 100000000) : F31.F (l, k) = some (k + 4 * (l.length : Int), mkL g31 (fun _ => 4) k l, ()) := by
  have := lim_run (f := F31.l0.b) (fun i => (mkK (fun _ => 4) k (l.take i), (i : Int), mkAt g31 (fun _ => 4) k l i)) l.length (y := (k + 4 * (l.length : Int), mkL g31 (fun _ => 4) k l)) (fun i hi => by
    have e := mkAt_set (g := g31) (c := fun _ => 4) (k := k) (d := z31) hi
    have e2 : mkK (fun _ => (4 : Int)) k (l.take i) = k + 4 * i := by rw [mkK_const]; simp; omega
    have e3 : mkK (fun _ => (4 : Int)) k (l.take (i + 1)) = k + 4 * (i + 1 : Nat) := by rw [mkK_const]; simp; omega
    have hl : (mkAt g31 (fun _ => 4) k l i).length = l.length := mkAt_len
    simp (disch := omega) only [F31.l0.b, dT, dF, w64, hl, e2, e3, List.length_set, Bool.and_self, cT, Int.toNat_natCast, getD_set, List.set_set, g31] at e ⊢
    rw [← e]
    simp only [Option.some.injEq, Sum.inl.injEq, Prod.mk.injEq]
    exact ⟨by omega, by omega, trivial⟩)
    (by simp (disch := omega) only [F31.l0.b, dT, dF, cF, mkAt_all, mkAt_len, List.take_length, mkK_const, mkL_len])
  simp only [F31.F]
  exact congrArg (fun q : Option (Int × List S31) => q.bind fun y => some (y.1, y.2, ())) (by simpa [mkAt_zero, mkK] using this)

theorem F28.ok (l : List S31) (k : Int) (h : (l.length : Int) ≤ 9223372036854775807) (hk : 0 ≤ k) (hk2 : k ≤ 1048576) : F28.F (l, k) = some (if k - l.length < 0 then -1 else k - l.length) := by
  have w : Go.IntKind.wrap .i64 (k - (l.length : Int)) = k - l.length := w64 (by omega) (by omega)
  by_cases h0 : k - (l.length : Int) < 0
  · simp only [F28.F, w, dT h0, cT, if_pos h0]
  · simp only [F28.F, w, dF h0, cF, if_neg h0]

theorem F4.law_of (n : Int) (l : List S31) (hl : (l.length : Int) ≤ 9223372036854775807) : F4.F (n, l) = some true := by
  have e28 := F28.ok l 1048576 hl (by decide) (by decide)
  have m1 : decide ((-1 : Int) < 0) = true := rfl
  by_cases h0 : 1048576 - (l.length : Int) < 0
  · rw [if_pos h0] at e28
    have e9 : F9.F ((n, l), 1048576) = some (-1) := by simp only [F9.F, e28, bS, m1, cT]
    simp only [F4.F, e9, bS, m1, cT]
  rw [if_neg h0] at e28
  have e9 : F9.F ((n, l), 1048576) = some (1048576 - (l.length : Int)) := by simp only [F9.F, e28, bS, dF h0, cF]
  have e29 := F29.ok l (by omega)
  have e10 : F10.F (n, l) = some (n, l) := by simp only [F10.F, e29, bS]
  obtain ⟨a, q, c, hq, e6, e7⟩ := free_ok n l
  have e11 := F11.ok q (by omega)
  have e30 := F30.ok l (by omega)
  have nn : (n != n) = false := nF rfl
  have e12 : F12.F ((n, l), (n, l)) = some true := by simp only [F12.F, nn, cF, e30, bS, Bool.not_true]
  have e31 := F31.ok l 1 (by omega) (by decide) (by decide)
  have e13 : F13.F ((n, l), 1) = some (1 + 4 * (l.length : Int), mkL g31 (fun _ => 4) 1 l, ()) := by simp only [F13.F, e31, bS]
  have e14 := F14.ok q 1 (by omega) (by decide) (by decide)
  have e15 := F15.ok q 1 (by omega) (by decide) (by decide)
  have d1 : decide (1 + 4 * (l.length : Int) < 0) = false := dF (by omega)
  have d2 : decide (1 + (q.length : Int) < 0) = false := dF (by omega)
  have na : (a != a) = false := nF rfl
  have nc : (c != c) = false := nF rfl
  have nk : (1 + (q.length : Int) != 1 + (q.length : Int)) = false := nF rfl
  simp only [F4.F, e9, dF h0, cF, bS, e10, e6, e7, na, nc, e11, Bool.not_false, Bool.not_true, cT, Bool.or_self, e12, e13, d1, e14, e15, d2, nk]

end Go.Proofs.Ytciafkboilgblaa.AX

/- The law of freedoms of sketches, plainly, of what is handed in. No conditions. -/
namespace Go.Proofs.Ytciafkboilgblaa.AX
open Go

theorem F4.law (x : Int × List S31) (h : ∀ n, TsOf (U := uni) (RowOk (U := uni) ky n) [.int .i64, .row 3] [.lit (.int .i64 x.1), .row 3 x.2]) : F4.F x = some true := by
  obtain ⟨n, l⟩ := x
  obtain ⟨_, hr, _⟩ := h 0
  obtain ⟨e, hr⟩ := hr
  have h0 : l.length ≤ maxLen := hr.1
  unfold maxLen at h0
  exact F4.law_of n l (by omega)

end Go.Proofs.Ytciafkboilgblaa.AX

/- The law FnExactSketchFree answers true at every input. No conditions. -/
namespace Go.Proofs.Ytciafkboilgblaa.fnExactSketchFree
open Go.ChangeShapes Go.WideShapes Go.ChangeAt Go.RowKit Go.Proofs.Ytciafkboilgblaa.AX
open Go.ChangeMaps (open_string shut_string)
set_option maxRecDepth 100000
theorem own : ownKnob Try.prog.godebug = none := by kernel_rfl
theorem laidOut : laidOutB Try.prog = true := by kernel_rfl
theorem flat34t : Flat Try.prog uni ky 34 [.row 3] := .slice 34 3 Try.underlying34 (List.cons_ne_nil _ _)
theorem flat36t : Flat Try.prog uni ky 36 [.int .i64, .row 3] := .struct 36 _ [.int .i64, .row 3] Try.underlying36 rfl (.cons _ _ _ [.int .i64] _ rfl flat3t rfl (.cons _ _ _ [.row 3] _ rfl flat34t rfl (.nil _)))
theorem parts36 {ts : List (T El)} (o : ∀ n, TsOf (U := uni) (RowOk (U := uni) ky n) [.int .i64, .row 3] ts) : ∃ (x0 : Int) (x1 : List (El 3)), ts = [.lit (.int .i64 x0), .row 3 x1] ∧ ∀ n, TsOf (U := uni) (RowOk (U := uni) ky n) [.int .i64, .row 3] [.lit (.int .i64 x0), .row 3 x1] :=
  match ts, o, o 0 with
  | [.lit (.int k0 x0), .row k1 x1], o, ⟨⟨h0, _⟩, ⟨h1, _⟩, _⟩ => by subst h0; subst h1; exact ⟨x0, x1, rfl, o⟩
set_option maxRecDepth 100000 in
theorem lifted (os : Os) (started : os.Started) (H : Type) (enc : TypeId × Value → H) :
    ReturnsInHanded {} Try.checked os 4 .any (Rows.fnExactSketchFreeSpec.pre6 enc Try.prog Try.f4 Rows.fnExactSketchFreeRow.domain false) (Rows.fnExactSketchFreeSpec.post enc Try.prog Try.f4 false true false false) := by
  refine returnsInHanded_of_change_sized (C := Try.checked) own started (by kernel_rfl) Try.func4
    (ChangeSpec.witness6 (enc := enc) (C := Try.checked) false ⟨#[], #[.agg #[.int .i64 0, .slice none 0 0]], []⟩ 8 (by kernel_rfl) (by kernel_rfl) (by kernel_rfl) (by kernel_rfl)) ?_
  intro W base args ds gs before hval0 hW hcnd hsz0 _
  have hval : ∀ (j : Nat) t v, Try.f4.params[j]? = some t → args[j]? = some v → Value.okWide Try.prog W .any base t v := hval0
  have hW' := hW
  obtain ⟨p, q, hA0, hV, rfl, hfz, hnd⟩ := hW
  have hA : DataW.TrodAll enc Try.prog W 0 (fun _ => true) true Try.f4.params.toList args.toList ds p := hA0
  rw [Try.params4] at hA hval
  obtain ⟨v0, vs0, d0, ds0, p0, q0, hargs, rfl, rfl, h0, r0⟩ := trodAll_cons hA
  obtain ⟨rfl, rfl, rfl⟩ := trodAll_nil r0
  obtain rfl : args = #[v0] := by cases args; simp_all
  obtain ⟨rfl, rfl⟩ := trodVars_none hV
  have k0 := h0
  have lt0 : ∀ x ∈ p0, x.block < W.heap.size := by obtain ⟨m, hm⟩ := k0; exact DataW.trod_lt m _ _ _ hm
  obtain ⟨ts0, F0, i0, o0⟩ := open_parts kindsOk Try.underlying36 flat36t (hval 0 36 v0 rfl rfl) h0
  obtain ⟨c0_0, c0_1, rfl, w0⟩ := parts36 o0
  clear hA0 hval0 hsz0
  have hcon := F4.con (c0_0, c0_1) true (F4.law (c0_0, c0_1) w0) [v0] W [] _ ⟨[], [], F0, _, i0, ⟨rfl, rfl⟩, rfl, rfl⟩ (by simp) (by simp) (DoorOk.none trivial)
  refine hcon.mono fun e W' ⟨rs, vs, G, E', hr, hR, he, hO, hfr, _, _⟩ => ?_
  obtain rfl : rs = [.val (.bool true)] := by injection hr with hr; exact hr.symm
  obtain rfl : vs = [.bool true] := by
    match vs, hR with
    | [v], ⟨_, _, ⟨h, _⟩, _, _⟩ => rw [h]
  subst he
  have bel := below_of hfr
  exact ⟨_, rfl, _, _, _, [], _, [], hW', trodAll_mk1 (shut_bool Try.underlying4 _), (trodAll_cons_mk (Below.trod laidOut (by kernel_rfl) (of_decide_eq_true (by kernel_rfl)) k0 bel lt0) trodAll_mk0), rfl, bel.frame _, fun h => by cases h⟩
theorem over : Rows.fnExactSketchFreeRow.holds Try.pinned (OpenSpec.ofChange Rows.fnExactSketchFreeSpec) :=
  OpenClaim.holds_of_wide 4 Try.f4 rfl rfl rfl rfl rfl rfl rfl ⟨rfl, rfl, rfl, rfl, rfl⟩ rfl rfl rfl rfl rfl (by kernel_rfl) Try.func4 (by kernel_rfl)
    (of_decide_eq_true (by kernel_rfl)) (by unfold Func.isWrapper; first | (rw [if_pos (by decide +kernel)]; kernel_rfl) | (rw [if_neg (by decide +kernel)]; exact ⟨rfl, rfl⟩))
    (fun os started H enc _ => lifted os started H enc)
theorem proved : Rows.FnExactSketchFreeSaid := over
end Go.Proofs.Ytciafkboilgblaa.fnExactSketchFree
namespace Go.Proofs.Ytciafkboilgblaa
theorem fnExactSketchFree_holds : Rows.FnExactSketchFreeSaid := fnExactSketchFree.proved
end Go.Proofs.Ytciafkboilgblaa

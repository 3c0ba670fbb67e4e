/- Code is what the small machine takes it for. No conditions. -/
import Derived.LoopN
import Derived.Test.YtchohkelpjfpcaaDoorProg
import Derived.KernelRfl
import Derived.ProofKit
import Derived.OpenShut
import Derived.Below
import Derived.Shelf.Unicode.Decode
import Derived.Shelf.Unicode.DecodeAny
import Derived.Test.YtchohkelpjfpcaaDoorPDb
set_option linter.unusedVariables false
set_option linter.unusedSimpArgs false
set_option linter.unusedSectionVars false
namespace Go.Proofs.YtchohkelpjfpcaaDoor.AX
open Go Go.RowKit

def AExit.is : AExit → Exit
  | .normal => .normal
  | .exit n => .exit n
  | .ret => .ret

section
variable {U : Uni} {P : Program} {tab : Tab} {sig : Sig} {w0 : World} {M : Own} {N : Nat} {CR : FuncId → List (DV U) → DV U → List (DV U) → Prop}

/-- o tells what c does. -/
def SoundO (P : Program) (w0 : World) (M : Own) (N : Nat) {R : Type} (c : Code) (o : St U → Cont U R → Option R) : Prop :=
  ∀ (s : St U) (K : Cont U R) (r : R) (Q : Exit → Act → World → Prop) (a : Act) (w : World), o s K = some r → SatE w0 M N s a w → (∀ x s' a' w', K x s' = some r → SatE w0 M N s' a' w' → Q x.is a' w') → c.wp P Q a w

def LoopsOk (P : Program) (w0 : World) (M : Own) {R : Type} (E : Env U R) : Code → Prop
  | .seq a b => LoopsOk P w0 M E a ∧ (∀ o, (firstR b).bind E.tails = some o → SoundO P w0 M E.n b o) ∧ ((firstR b).bind E.tails = none → LoopsOk P w0 M E b)
  | .cond _ a b => LoopsOk P w0 M E a ∧ LoopsOk P w0 M E b
  | .block id (.loop c) => ∀ o, E.loops id = some o → SoundO P w0 M E.n (.block id (.loop c)) o
  | .block _ c => LoopsOk P w0 M E c
  | _ => True

theorem past_is {id : Nat} {Q : Exit → Act → World → Prop} {x : AExit} {a : Act} {w : World} (h : Q (past id x).is a w) : Exit.inBlock id Q x.is a w := by
  cases x with
  | normal => exact h
  | ret => exact h
  | exit id' =>
    simp only [AExit.is, Exit.inBlock, past] at h ⊢
    by_cases e : id' = id
    · subst e; rw [Nat.beq_refl] at h; simpa using h
    · rw [beq_ne e] at h; simpa [e] using h

theorem exec_sound (hB : Base P U tab sig CR) (hm : P.follows .mixedOrders = true) {R : Type} {E : Env U R} (hC : CalOk E CR) (ht : E.tab = tab) (hs : E.sig = sig) : ∀ (c : Code), LoopsOk P w0 M E c → SoundO P w0 M E.n c (exec E c)
  | .skip, _ => fun s K r Q a w h hS hQ => wp_skip (hQ .normal s a w (by simpa [exec] using h) hS)
  | .exit id, _ => fun s K r Q a w h hS hQ => wp_exit (hQ (.exit id) s a w (by simpa [exec] using h) hS)
  | .ret, _ => fun s K r Q a w h hS hQ => wp_ret (hQ .ret s a w (by simpa [exec] using h) hS)
  | .region id ops draw, _ => fun s K r Q a w h hS hQ => by
    subst ht hs
    simp only [exec] at h
    cases hg : hasGuard ops.toList with
    | true =>
      rw [hg] at h
      simp only [cond_true] at h
      cases hd : distinct (ops.toList.flatMap fun o => o.dst.toList) && guardsBack ops.toList with
      | false => rw [hd] at h; simp at h
      | true =>
        rw [hd] at h
        simp only [cond_true] at h
        obtain ⟨es, gs, h1, h2⟩ := regionX_ok hC h
        simp only [List.nil_append] at h2
        cases hk : !draw || (okFps (masks [] ops.toList) gs && edgesBack ops.toList) with
        | false => rw [hk] at h2; simp at h2
        | true =>
          rw [hk] at h2
          simp only [cond_true] at h2
          simp only [Bool.and_eq_true] at hd
          exact region_ok hB hm (G := true) (fun _ _ _ => rfl) (fun _ => ⟨distinct_spec hd.1, hd.2⟩) h1 hk (satE_plain hS) (fun _ L => winv_plain) (fun a' w' hs' => hQ .normal _ a' w' h2 hs')
    | false =>
      rw [hg] at h
      simp only [cond_false] at h
      obtain ⟨es, gs, h1, h2⟩ := regionX_ok hC h
      simp only [List.nil_append] at h2
      cases hk : !draw || (okFps (masks [] ops.toList) gs && edgesBack ops.toList) with
      | false => rw [hk] at h2; simp at h2
      | true =>
        rw [hk] at h2
        simp only [cond_true] at h2
        refine region_ok hB hm (G := false) (fun o ho hh => ?_) (fun h => by simp at h) h1 hk hS (fun h => by simp at h) (fun a' w' hs' => hQ .normal _ a' w' h2 hs')
        have : hasGuard ops.toList = true := List.any_eq_true.2 ⟨o, ho, hh⟩
        rw [hg] at this; simp at this
  | .seq x y, hl => fun s K r Q a w h hS hQ => by
    simp only [LoopsOk] at hl
    simp only [exec] at h
    refine wp_seq (exec_sound hB hm hC ht hs x hl.1 s _ r _ a w h hS fun e s' a' w' hk hs' => ?_)
    cases e with
    | exit id => exact hQ (.exit id) s' a' w' hk hs'
    | ret => exact hQ .ret s' a' w' hk hs'
    | normal =>
      dsimp only at hk
      show y.wp P Q a' w'
      cases hf : (firstR y).bind E.tails with
      | some o => rw [hf] at hk; exact hl.2.1 o hf s' K r Q a' w' hk hs' hQ
      | none => rw [hf] at hk; exact exec_sound hB hm hC ht hs y (hl.2.2 hf) s' K r Q a' w' hk hs' hQ
  | .cond c x y, hl => fun s K r Q a w h hS hQ => by
    simp only [LoopsOk] at hl
    cases c with
    | tmp t =>
      simp only [exec] at h
      have hm' : ∃ ρ, Mat w ρ s.chunk (s.slot t) (a.tmps.getD t undef) := by obtain ⟨ρ, F, h⟩ := hS; exact ⟨ρ, h.slots t⟩
      obtain ⟨ρ, hm'⟩ := hm'
      split at h
      · rename_i b e
        rw [e, mat_lit] at hm'
        refine wp_cond (t := b) (by simpa [Act.eval] using hm') ?_
        cases b with
        | true => exact exec_sound hB hm hC ht hs x hl.1 s K r Q a w h hS hQ
        | false => exact exec_sound hB hm hC ht hs y hl.2 s K r Q a w h hS hQ
      · simp at h
    | _ => simp [exec] at h
  | .block id c, hl => fun s K r Q a w h hS hQ => by
    have key : ∀ (hl : LoopsOk P w0 M E c) (h : exec E c s (fun e s' => K (past id e) s') = some r), (Code.block id c).wp P Q a w := fun hl h =>
      wp_block (exec_sound hB hm hC ht hs c hl s _ r _ a w h hS fun e s' a' w' hk hs' => past_is (hQ _ s' a' w' hk hs'))
    cases c with
    | loop c =>
      simp only [exec] at h
      simp only [LoopsOk] at hl
      cases e : E.loops id with
      | none => rw [e] at h; simp at h
      | some o => rw [e] at h; exact hl o e s K r Q a w h hS hQ
    | _ => exact key hl h
  | .loop c, _ => fun s K r Q a w h => by simp [exec] at h
  | .label _, _ => fun s K r Q a w h => by simp [exec] at h
  | .rangeFunc _ _ _ _, _ => fun s K r Q a w h => by simp [exec] at h
  | .scope _, _ => fun s K r Q a w h => by simp [exec] at h
  | .refuse _, _ => fun s K r Q a w h => by simp [exec] at h
  | .goto _, _ => fun s K r Q a w h => by simp [exec] at h

end

/- Loops without a count. -/
section
variable {X Y : Type}

def iter (f : X → Option (X ⊕ Y)) : Nat → X → Option Y
  | 0, _ => none
  | n + 1, x => (f x).bind fun
    | .inl x' => iter f n x'
    | .inr y => some y

open Classical in
/-- The loop's answer, where it ends. -/
noncomputable def lim (f : X → Option (X ⊕ Y)) (x : X) : Option Y := if h : ∃ n y, iter f n x = some y then some h.choose_spec.choose else none

theorem iter_mono {f : X → Option (X ⊕ Y)} : ∀ {n : Nat} {x : X} {y : Y}, iter f n x = some y → ∀ m, n ≤ m → iter f m x = some y
  | 0, _, _, h, _, _ => by simp [iter] at h
  | n + 1, x, y, h, 0, hm => by omega
  | n + 1, x, y, h, m + 1, hm => by
    simp only [iter] at h ⊢
    cases e : f x with
    | none => rw [e] at h; simp at h
    | some z =>
      rw [e] at h
      cases z with
      | inl x' => exact iter_mono (n := n) h m (by omega)
      | inr y' => exact h

theorem lim_iff {f : X → Option (X ⊕ Y)} {x : X} {y : Y} : lim f x = some y ↔ ∃ n, iter f n x = some y := by
  unfold lim
  constructor
  · intro h
    split at h
    · rename_i hh
      injection h with h
      subst h
      exact ⟨_, hh.choose_spec.choose_spec⟩
    · simp at h
  · rintro ⟨n, hn⟩
    have hh : ∃ n y, iter f n x = some y := ⟨n, y, hn⟩
    rw [dif_pos hh]
    have h2 := hh.choose_spec.choose_spec
    have h3 := iter_mono h2 (max n hh.choose) (by omega)
    have h4 := iter_mono hn (max n hh.choose) (by omega)
    rw [h3] at h4
    exact h4

theorem lim_step (f : X → Option (X ⊕ Y)) (x : X) : lim f x = (f x).bind (Sum.elim (lim f) some) := by
  cases e : f x with
  | none =>
    cases h : lim f x with
    | none => rfl
    | some y =>
      obtain ⟨n, hn⟩ := lim_iff.1 h
      cases n with
      | zero => simp [iter] at hn
      | succ n => simp [iter, e] at hn
  | some z =>
    simp only [Option.bind_some]
    cases z with
    | inr y => exact lim_iff.2 ⟨1, by simp [iter, e]⟩
    | inl x' =>
      simp only [Sum.elim_inl]
      cases h : lim f x' with
      | some y => obtain ⟨n, hn⟩ := lim_iff.1 h; exact lim_iff.2 ⟨n + 1, by simp [iter, e, hn]⟩
      | none =>
        cases h' : lim f x with
        | none => rfl
        | some y =>
          obtain ⟨n, hn⟩ := lim_iff.1 h'
          cases n with
          | zero => simp [iter] at hn
          | succ n =>
            simp only [iter, e, Option.bind_some] at hn
            rw [lim_iff.2 ⟨n, hn⟩] at h; simp at h

/-- What holds at each round, with a measure that falls. -/
theorem lim_rule {f : X → Option (X ⊕ Y)} (I : X → Prop) (μ : X → Nat) (p : Y → Prop) (h : ∀ x, I x → (∃ x', f x = some (.inl x') ∧ I x' ∧ μ x' < μ x) ∨ ∃ y, f x = some (.inr y) ∧ p y) : ∀ x, I x → ∃ y, lim f x = some y ∧ p y := by
  have : ∀ n x, μ x = n → I x → ∃ y, lim f x = some y ∧ p y := by
    intro n
    induction n using Nat.strongRecOn with
    | _ n ih =>
      intro x hn hi
      rw [lim_step]
      rcases h x hi with ⟨x', h1, h2, h3⟩ | ⟨y, h1, h2⟩
      · rw [h1]; exact ih (μ x') (by omega) x' rfl h2
      · rw [h1]; exact ⟨y, rfl, h2⟩
  exact fun x => this _ x rfl

/-- A part that no round changes. -/
theorem lim_param {A : Type} {f : A × X → Option ((A × X) ⊕ Y)} {p : A} {g : X → Option (X ⊕ Y)} (h : ∀ x, f (p, x) = (g x).map (Sum.map (Prod.mk p) id)) (x : X) : lim f (p, x) = lim g x := by
  have key : ∀ n x, iter f n (p, x) = iter g n x := by
    intro n
    induction n with
    | zero => intro x; rfl
    | succ n ih =>
      intro x
      simp only [iter, h]
      cases g x with
      | none => rfl
      | some z => cases z with
        | inl x' => exact ih x'
        | inr y => rfl
  cases e : lim g x with
  | some y => obtain ⟨n, hn⟩ := lim_iff.1 e; exact lim_iff.2 ⟨n, by rw [key]; exact hn⟩
  | none =>
    cases e' : lim f (p, x) with
    | none => rfl
    | some y => obtain ⟨n, hn⟩ := lim_iff.1 e'; rw [key] at hn; rw [lim_iff.2 ⟨n, hn⟩] at e; simp at e

end

section
variable {U : Uni} {P : Program} {w0 : World} {M : Own} {N : Nat}

/-- What stays where it is, is among these. -/
def Pinned (M : Own) (ps : List Nat) : Prop := ∀ i v, M.pins i = some v → i ∈ ps

/-- A way to tell a state by less. -/
structure Cut (U : Uni) (X : Type) where
  pins : List Nat
  abs : St U → Option X
  conc : X → St U
  ok : ∀ {w0 : World} {M : Own} {N : Nat} {s : St U} {x : X} {a : Act} {w : World}, Pinned M pins → abs s = some x → SatE w0 M N s a w → SatE w0 M N (conc x) a w

structure Cuts (U : Uni) (Y : Type) where
  pins : List Nat
  abs : AExit → St U → Option Y
  conc : Y → AExit × St U
  elim : {R : Type} → Y → (AExit → St U → Option R) → Option R
  elim_ok : ∀ {R : Type} y (K : AExit → St U → Option R), elim y K = K (conc y).1 (conc y).2
  ok : ∀ {w0 : World} {M : Own} {N : Nat} {e : AExit} {s : St U} {y : Y} {a : Act} {w : World}, Pinned M pins → abs e s = some y → e = (conc y).1 ∧ (SatE w0 M N s a w → SatE w0 M N (conc y).2 a w)

variable {X Y R : Type}

/-- A loop's round. -/
def roundX (E : Env U (X ⊕ Y)) (c : Code) (A : Cut U X) (B : Cuts U Y) (x : X) : Option (X ⊕ Y) :=
  exec E c (A.conc x) fun e s => match e with
    | .normal => (A.abs s).map .inl
    | e => (B.abs e s).map .inr

def loopO (id : Nat) (A : Cut U X) (B : Cuts U Y) (F : X → Option Y) : Oracle U R := fun s K => (A.abs s).bind fun x => (F x).bind fun y => B.elim y fun e s => K (past id e) s

def tailO (A : Cut U X) (B : Cuts U Y) (F : X → Option Y) : Oracle U R := fun s K => (A.abs s).bind fun x => (F x).bind fun y => B.elim y K

def tailX (E : Env U Y) (c : Code) (A : Cut U X) (B : Cuts U Y) (x : X) : Option Y := exec E c (A.conc x) B.abs

theorem loop_sound {id : Nat} {c : Code} {A : Cut U X} {B : Cuts U Y} {E : Env U (X ⊕ Y)} {f : X → Option (X ⊕ Y)} (hE : SoundO P w0 M N c (exec E c)) (hf : ∀ x, f x = roundX E c A B x) (hA : Pinned M A.pins) (hP : Pinned M B.pins) : SoundO P w0 M N (.block id (.loop c)) (loopO (R := R) id A B (lim f)) := by
  intro s K r Q a w h hS hQ
  unfold loopO at h
  cases e : A.abs s with
  | none => rw [e] at h; simp at h
  | some x =>
    rw [e] at h
    simp only [Option.bind_some] at h
    cases e2 : lim f x with
    | none => rw [e2] at h; simp at h
    | some y =>
      rw [e2] at h
      simp only [Option.bind_some] at h
      rw [B.elim_ok] at h
      obtain ⟨n, hn⟩ := lim_iff.1 e2
      refine wp_block (wp_loop_rounds n ?_)
      have hAS := A.ok hA e hS
      clear e hS e2
      induction n generalizing x a w with
      | zero => simp [iter] at hn
      | succ n ih =>
        simp only [iter] at hn
        rw [rounds_succ]
        cases hfx : f x with
        | none => rw [hfx] at hn; simp at hn
        | some z =>
          rw [hfx] at hn
          simp only [Option.bind_some] at hn
          refine hE _ _ z _ a w ((hf x).symm.trans hfx) hAS fun e s' a' w' hk hs' => ?_
          have out : e ≠ .normal → (B.abs e s').map .inr = some z → Exit.inBlock id Q e.is a' w' := fun hne hk => by
            cases hb : B.abs e s' with
            | none => rw [hb] at hk; simp at hk
            | some y' =>
              rw [hb] at hk
              simp only [Option.map_some, Option.some.injEq] at hk
              subst hk
              simp only [Option.some.injEq] at hn
              subst hn
              obtain ⟨h1, h2⟩ := B.ok (w0 := w0) (M := M) (N := N) (a := a') (w := w') hP hb
              rw [h1]
              exact past_is (hQ _ _ _ _ h (h2 hs'))
          cases e with
          | normal =>
            dsimp only at hk
            cases ha : A.abs s' with
            | none => rw [ha] at hk; simp at hk
            | some x' =>
              rw [ha] at hk
              simp only [Option.map_some, Option.some.injEq] at hk
              subst hk
              exact ih a' w' x' hn (A.ok hA ha hs')
          | exit k => exact out (by simp) hk
          | ret => exact out (by simp) hk

theorem tail_sound {c : Code} {A : Cut U X} {B : Cuts U Y} {E : Env U Y} {f : X → Option Y} (hE : SoundO P w0 M N c (exec E c)) (hf : ∀ x, f x = tailX E c A B x) (hA : Pinned M A.pins) (hP : Pinned M B.pins) : SoundO P w0 M N c (tailO (R := R) A B f) := by
  intro s K r Q a w h hS hQ
  unfold tailO at h
  cases e : A.abs s with
  | none => rw [e] at h; simp at h
  | some x =>
    rw [e] at h
    simp only [Option.bind_some] at h
    cases e2 : f x with
    | none => rw [e2] at h; simp at h
    | some y =>
      rw [e2] at h
      simp only [Option.bind_some] at h
      rw [B.elim_ok] at h
      refine hE _ _ y _ a w ((hf x).symm.trans e2) (A.ok hA e hS) fun ex s' a' w' hk hs' => ?_
      obtain ⟨h1, h2⟩ := B.ok (w0 := w0) (M := M) (N := N) (a := a') (w := w') hP hk
      rw [h1]
      exact hQ _ _ _ _ h (h2 hs')

end
end Go.Proofs.YtchohkelpjfpcaaDoor.AX

/- States told by lists: what is alive, by which names. No conditions. -/
namespace Go.Proofs.YtchohkelpjfpcaaDoor.AX
open Go Go.RowKit

/-- The form of a value: references name a chunk and the cells of a path. -/
inductive Pt where
  | sc
  | nil
  | dead
  | slc (c : Nat) (cs : List Nat)
  | win (c : Nat) (cs : List Nat)
  | ptr (c : Nat) (cs : List Nat) (o : Nat)
  | box (c : Nat) (o : Nat)
  | agg (ps : List Pt)
  | tup (ps : List Pt)
  | fn (f : FuncId) (ps : List Pt)
  | mref (c : Nat)

structure Ann where
  slots : List (Nat × Pt)
  boxes : List (Nat × TypeId × List Pt)
  rows : List (Nat × Bool × Nat)
  pins : List Nat

abbrev Mp := List (Nat × Option Nat)

def mget : Mp → Nat → Option (Option Nat)
  | [], _ => none
  | (c, x) :: r, i => bif Nat.beq c i then some x else mget r i

def bindM (m : Mp) (c id : Nat) : Option Mp :=
  match mget m c with
  | some (some id') => bif Nat.beq id id' then some m else none
  | some none => none
  | none => bif m.any fun x => match x.2 with | some j => Nat.beq j id | none => false then none else some ((c, some id) :: m)

def bindNil (m : Mp) (c : Nat) : Option Mp :=
  match mget m c with
  | some (some _) => none
  | some none => some m
  | none => some ((c, none) :: m)

section
variable {U : Uni}

def pathM : List Nat → List (Int × Nat) → Option (List (DV U))
  | [], [] => some []
  | c :: cs, (i, c') :: p => bif Nat.beq c c' then (pathM cs p).bind fun l => some (.val (.int .i64 i) :: l) else none
  | _, _ => none

def verOk (s : St U) (id ver : Nat) : List (Int × Nat) → Bool
  | [] => true
  | _ => Nat.beq ver (verOf (s.chunk id))

def isNil : Value → Bool
  | .slice none 0 0 => true
  | _ => false

mutual
def matchP (s : St U) (p : Pt) (v : SV) (m : Mp) : Option (List (DV U) × Mp) :=
  match p with
  | .sc => match v with
    | .lit v => some ([.val v], m)
    | _ => none
  | .dead => some ([], m)
  | .nil => match v with
    | .lit v => bif isNil v then some ([], m) else none
    | _ => none
  | .slc c cs => match v with
    | .lit v => bif isNil v && cs.isEmpty then (bindNil m c).bind fun m' => some ([], m') else none
    | .slc id ver p => bif verOk s id ver p then (pathM cs p).bind fun ds => (bindM m c id).bind fun m' => some (ds, m') else none
    | _ => none
  | .win c cs => match v with
    | .win id ver p off len => bif verOk s id ver p then (pathM cs p).bind fun ds => (bindM m c id).bind fun m' => some (.val (.int .i64 off) :: .val (.int .i64 len) :: ds, m') else none
    | _ => none
  | .ptr c cs o => match v with
    | .ptr id ver p i o' => bif Nat.beq o o' && verOk s id ver p then (pathM cs p).bind fun ds => (bindM m c id).bind fun m' => some (.val (.int .i64 i) :: ds, m') else none
    | _ => none
  | .box c o => match v with
    | .ptr id _ p i o' => bif Nat.beq o o' && (decide (i = 0) && p.isEmpty) then (bindM m c id).bind fun m' => some ([], m') else none
    | _ => none
  | .agg ps => match v with
    | .agg ss => matchL s ps ss m
    | _ => none
  | .tup ps => match v with
    | .tup ss => matchL s ps ss m
    | _ => none
  | .fn f ps => match v with
    | .fn f' ss => bif Nat.beq f f' then matchL s ps ss m else none
    | _ => none
  | .mref c => match v with
    | .mref id => (bindM m c id).bind fun m' => some ([], m')
    | _ => none
def matchL (s : St U) (p : List Pt) (v : List SV) (m : Mp) : Option (List (DV U) × Mp) :=
  match p with
  | [] => match v with
    | [] => some ([], m)
    | _ => none
  | p :: ps => match v with
    | v :: vs => (matchP s p v m).bind fun x => (matchL s ps vs x.2).bind fun y => some (x.1 ++ y.1, y.2)
    | _ => none
end

def pathB : List Nat → List (DV U) → Option (List (Int × Nat) × List (DV U))
  | [], r => some ([], r)
  | c :: cs, .val (.int _ i) :: r => (pathB cs r).bind fun x => some ((i, c) :: x.1, x.2)
  | _, _ => none

mutual
def buildP : Pt → List (DV U) → Option (SV × List (DV U))
  | .sc, .val v :: r => some (.lit v, r)
  | .nil, r => some (.lit (.slice none 0 0), r)
  | .dead, r => some (.dead, r)
  | .slc c cs, r => (pathB cs r).bind fun x => some (.slc c 0 x.1, x.2)
  | .win c cs, .val (.int _ off) :: .val (.int _ len) :: r => (pathB cs r).bind fun x => some (.win c 0 x.1 off len, x.2)
  | .ptr c cs o, .val (.int _ i) :: r => (pathB cs r).bind fun x => some (.ptr c 0 x.1 i o, x.2)
  | .box c o, r => some (.ptr c 0 [] 0 o, r)
  | .agg ps, r => (buildL ps r).bind fun x => some (.agg x.1, x.2)
  | .tup ps, r => (buildL ps r).bind fun x => some (.tup x.1, x.2)
  | .fn f ps, r => (buildL ps r).bind fun x => some (.fn f x.1, x.2)
  | .mref c, r => some (.mref c, r)
  | _, _ => none
def buildL : List Pt → List (DV U) → Option (List SV × List (DV U))
  | [], r => some ([], r)
  | p :: ps, r => (buildP p r).bind fun x => (buildL ps x.2).bind fun y => some (x.1 :: y.1, y.2)
end

def absS (s : St U) : List (Nat × Pt) → Mp → Option (List (DV U) × Mp)
  | [], m => some ([], m)
  | (i, p) :: r, m => (matchP s p (s.slot i) m).bind fun x => (absS s r x.2).bind fun y => some (x.1 ++ y.1, y.2)

def absB (s : St U) : List (Nat × TypeId × List Pt) → Mp → Option (List (DV U) × Mp)
  | [], m => some ([], m)
  | (c, ty, ps) :: r, m => match mget m c with
    | some (some id) => match s.chunk id with
      | .box ty' cs => bif Nat.beq ty ty' then (matchL s ps cs m).bind fun x => (absB s r x.2).bind fun y => some (x.1 ++ y.1, y.2) else none
      | _ => none
    | _ => none

/-- Does the kind stand for a map's entries? -/
def isMp (U : Uni) (k : Nat) : Bool := match U.mp k with
  | some _ => true
  | none => false

def absR (s : St U) (m : Mp) : List (Nat × Bool × Nat) → Option (List (DV U))
  | [] => some []
  | (c, own, k) :: r => bif isMp U k then (match mget m c with
    | some (some id) => match s.chunk id with
      | .mp k' l => bif Nat.beq k k' then (absR s m r).bind fun y => some (.row k' l :: y) else none
      | _ => none
    | _ => none) else match mget m c with
    | some (some id) => match s.chunk id with
      | .row o _ k' l => bif Nat.beq k k' && (!own || o) then (absR s m r).bind fun y => some (.row k' l :: y) else none
      | _ => none
    | some none => (absR s m r).bind fun y => some (.row k [] :: y)
    | none => none

def Ann.keys (A : Ann) : List Nat := A.boxes.map (·.1) ++ A.rows.map (·.1)

def pinAt (m : Mp) (c : Nat) : Bool :=
  match mget m c with
  | some (some id) => Nat.beq id c
  | _ => false

def abst (A : Ann) (s : St U) : Option (List (DV U)) :=
  (absS s A.slots []).bind fun x => (absB s A.boxes x.2).bind fun y => (absR s y.2 A.rows).bind fun z =>
    bif (y.2.all fun e => A.keys.any fun c => Nat.beq c e.1) && (A.pins.all fun c => pinAt y.2 c) then some (x.1 ++ (y.1 ++ z)) else none

def concS : List (Nat × Pt) → List (DV U) → Option (List (Nat × SV) × List (DV U))
  | [], r => some ([], r)
  | (i, p) :: q, r => (buildP p r).bind fun x => (concS q x.2).bind fun y => some ((i, x.1) :: y.1, y.2)

def concB : List (Nat × TypeId × List Pt) → List (DV U) → Option (List (Nat × Chunk U) × List (DV U))
  | [], r => some ([], r)
  | (c, ty, ps) :: q, r => (buildL ps r).bind fun x => (concB q x.2).bind fun y => some ((c, .box ty x.1) :: y.1, y.2)

def concR : List (Nat × Bool × Nat) → List (DV U) → Option (List (Nat × Chunk U))
  | [], [] => some []
  | (c, own, _) :: q, .row k l :: r => (concR q r).bind fun y => some ((c, bif isMp U k then .mp k l else .row own 0 k l) :: y)
  | _, _ => none

def conc (A : Ann) (ds : List (DV U)) : Option (St U) :=
  (concS A.slots ds).bind fun x => (concB A.boxes x.2).bind fun y => (concR A.rows y.2).bind fun z => some ⟨x.1, y.1 ++ z⟩

/- What is told is so. -/
abbrev Mu := Nat → Option (Option Nat)
def Ext (m : Mp) (μ : Mu) : Prop := ∀ c x, mget m c = some x → μ c = some x

mutual
def Ren (s : St U) (μ : Mu) (v y : SV) : Prop :=
  y = .dead ∨ match v with
  | .lit v => y = .lit v ∨ ∃ c, y = .slc c 0 [] ∧ v = .slice none 0 0 ∧ μ c = some none
  | .slc id ver p => ∃ c, y = .slc c 0 p ∧ μ c = some (some id) ∧ verOk s id ver p = true
  | .win id ver p off len => ∃ c, y = .win c 0 p off len ∧ μ c = some (some id) ∧ verOk s id ver p = true
  | .ptr id ver p i o => ∃ c, y = .ptr c 0 p i o ∧ μ c = some (some id) ∧ verOk s id ver p = true
  | .agg ss => ∃ ss', y = .agg ss' ∧ RenL s μ ss ss'
  | .tup ss => ∃ ss', y = .tup ss' ∧ RenL s μ ss ss'
  | .fn f ss => ∃ ss', y = .fn f ss' ∧ RenL s μ ss ss'
  | .mref id => ∃ c, y = .mref c ∧ μ c = some (some id)
  | .when _ _ _ => False
  | .dead => False
def RenL (s : St U) (μ : Mu) (v y : List SV) : Prop :=
  match v with
  | [] => y = []
  | v :: vs => ∃ v' r, y = v' :: r ∧ Ren s μ v v' ∧ RenL s μ vs r
end

theorem mget_cons {c i : Nat} {x : Option Nat} {m : Mp} : mget ((c, x) :: m) i = if c = i then some x else mget m i := by
  simp only [mget]
  by_cases e : c = i
  · subst e; rw [Nat.beq_refl, if_pos rfl]; rfl
  · rw [beq_ne e, if_neg e]; rfl

theorem ext_cons {c : Nat} {x : Option Nat} {m : Mp} {μ : Mu} (hn : mget m c = none) (h : Ext ((c, x) :: m) μ) : Ext m μ ∧ μ c = some x :=
  ⟨fun i y hi => h i y (by rw [mget_cons, if_neg (fun e => by subst e; rw [hn] at hi; simp at hi)]; exact hi), h c x (by rw [mget_cons, if_pos rfl])⟩

theorem bindM_ok {m m' : Mp} {c id : Nat} (h : bindM m c id = some m') {μ : Mu} (hx : Ext m' μ) : Ext m μ ∧ μ c = some (some id) := by
  unfold bindM at h
  split at h
  · rename_i id' e
    cases hb : Nat.beq id id' with
    | false => rw [hb] at h; simp at h
    | true =>
      rw [hb] at h
      simp only [cond_true, Option.some.injEq] at h
      subst h
      have := Nat.eq_of_beq_eq_true hb
      subst this
      exact ⟨hx, hx _ _ e⟩
  · simp at h
  · rename_i e
    cases hb : (m.any fun x => match x.2 with | some j => Nat.beq j id | none => false) with
    | true => rw [hb] at h; simp at h
    | false =>
      rw [hb] at h
      simp only [cond_false, Option.some.injEq] at h
      subst h
      exact ext_cons e hx

theorem bindNil_ok {m m' : Mp} {c : Nat} (h : bindNil m c = some m') {μ : Mu} (hx : Ext m' μ) : Ext m μ ∧ μ c = some none := by
  unfold bindNil at h
  split at h
  · simp at h
  · rename_i e
    simp only [Option.some.injEq] at h
    subst h
    exact ⟨hx, hx _ _ e⟩
  · rename_i e
    simp only [Option.some.injEq] at h
    subst h
    exact ext_cons e hx

/-- No two names for one. -/
def Inj (m : Mp) : Prop := ∀ c d id, mget m c = some (some id) → mget m d = some (some id) → c = d

theorem mget_mem : ∀ {m : Mp} {c : Nat} {x : Option Nat}, mget m c = some x → (c, x) ∈ m
  | [], _, _, h => by simp [mget] at h
  | (d, y) :: m, c, x, h => by
    rw [mget_cons] at h
    by_cases e : d = c
    · subst e; rw [if_pos rfl] at h; injection h with h; subst h; simp
    · rw [if_neg e] at h; exact List.mem_cons_of_mem _ (mget_mem h)

theorem bindM_inj {m m' : Mp} {c id : Nat} (h : bindM m c id = some m') (hi : Inj m) : Inj m' := by
  unfold bindM at h
  split at h
  · rename_i id' e
    cases hb : Nat.beq id id' with
    | false => rw [hb] at h; simp at h
    | true =>
      rw [hb] at h
      simp only [cond_true, Option.some.injEq] at h
      subst h; exact hi
  · simp at h
  · rename_i e
    cases hb : (m.any fun x => match x.2 with | some j => Nat.beq j id | none => false) with
    | true => rw [hb] at h; simp at h
    | false =>
      rw [hb] at h
      simp only [cond_false, Option.some.injEq] at h
      subst h
      have hno : ∀ d, mget m d ≠ some (some id) := fun d hd => by
        have := List.any_eq_false.1 hb _ (mget_mem hd)
        simp at this
      intro a b id' ha hb
      rw [mget_cons] at ha hb
      by_cases e1 : c = a
      · by_cases e2 : c = b
        · rw [← e1, e2]
        · rw [if_pos e1] at ha; rw [if_neg e2] at hb
          simp only [Option.some.injEq] at ha; subst ha
          exact absurd hb (hno b)
      · rw [if_neg e1] at ha
        by_cases e2 : c = b
        · rw [if_pos e2] at hb
          simp only [Option.some.injEq] at hb; subst hb
          exact absurd ha (hno a)
        · rw [if_neg e2] at hb; exact hi a b id' ha hb

theorem bindNil_inj {m m' : Mp} {c : Nat} (h : bindNil m c = some m') (hi : Inj m) : Inj m' := by
  unfold bindNil at h
  split at h
  · simp at h
  · simp only [Option.some.injEq] at h; subst h; exact hi
  · simp only [Option.some.injEq] at h; subst h
    intro a b id' ha hb
    rw [mget_cons] at ha hb
    split at ha
    · simp at ha
    · split at hb
      · simp at hb
      · exact hi a b id' ha hb

theorem pathM_ok : ∀ {cs : List Nat} {p : List (Int × Nat)} {ds : List (DV U)}, pathM cs p = some ds → ∀ r, pathB cs (ds ++ r) = some (p, r)
  | [], [], ds, h, r => by simp [pathM] at h; subst h; rfl
  | c :: cs, (i, c') :: p, ds, h, r => by
    simp only [pathM] at h
    cases hb : Nat.beq c c' with
    | false => rw [hb] at h; simp at h
    | true =>
      rw [hb] at h
      simp only [cond_true, Option.bind_eq_some_iff, Option.some.injEq] at h
      obtain ⟨l, h1, rfl⟩ := h
      have := Nat.eq_of_beq_eq_true hb
      subst this
      simp only [List.cons_append, pathB, pathM_ok h1, Option.bind_some]
  | [], _ :: _, ds, h, r => by simp [pathM] at h
  | _ :: _, [], ds, h, r => by simp [pathM] at h

def MP (s : St U) (p : Pt) (v : SV) (m : Mp) (x : List (DV U) × Mp) : Prop := (Inj m → Inj x.2) ∧ (∀ μ, Ext x.2 μ → Ext m μ) ∧ ∀ r, ∃ v', buildP p (x.1 ++ r) = some (v', r) ∧ ∀ μ, Ext x.2 μ → Ren s μ v v'
def ML (s : St U) (p : List Pt) (v : List SV) (m : Mp) (x : List (DV U) × Mp) : Prop := (Inj m → Inj x.2) ∧ (∀ μ, Ext x.2 μ → Ext m μ) ∧ ∀ r, ∃ v', buildL p (x.1 ++ r) = some (v', r) ∧ ∀ μ, Ext x.2 μ → RenL s μ v v'

theorem isNil_eq {v : Value} (h : isNil v = true) : v = .slice none 0 0 := by
  unfold isNil at h
  split at h
  · rfl
  · simp at h

mutual
theorem matchP_ok (s : St U) : ∀ (p : Pt) (v : SV) (m : Mp) (x : List (DV U) × Mp), matchP s p v m = some x → MP s p v m x
  | .sc, v, m, x, h => by
    simp only [matchP] at h
    cases v <;> simp only [Option.some.injEq, reduceCtorEq] at h
    subst h
    exact ⟨id, fun _ h => h, fun r => ⟨_, rfl, fun μ _ => by simp [Ren]⟩⟩
  | .dead, v, m, x, h => by
    simp only [matchP, Option.some.injEq] at h
    subst h
    exact ⟨id, fun _ h => h, fun r => ⟨.dead, rfl, fun μ _ => by unfold Ren; exact .inl rfl⟩⟩
  | .nil, v, m, x, h => by
    simp only [matchP] at h
    cases v <;> simp only [reduceCtorEq] at h
    case lit v =>
      cases hv : isNil v with
      | false => rw [hv] at h; simp at h
      | true =>
        rw [hv] at h
        simp only [cond_true, Option.some.injEq] at h
        subst h
        rw [isNil_eq hv]
        exact ⟨id, fun _ h => h, fun r => ⟨_, rfl, fun μ _ => .inr (.inl rfl)⟩⟩
  | .slc c cs, v, m, x, h => by
    simp only [matchP] at h
    cases v <;> simp only [reduceCtorEq] at h
    case lit v =>
      cases hv : isNil v && cs.isEmpty with
      | false => rw [hv] at h; simp at h
      | true =>
        rw [hv] at h
        simp only [cond_true, Option.bind_eq_some_iff, Option.some.injEq] at h
        obtain ⟨m', h1, rfl⟩ := h
        simp only [Bool.and_eq_true, List.isEmpty_iff] at hv
        obtain ⟨hn, rfl⟩ := hv
        exact ⟨bindNil_inj h1, fun μ hx => (bindNil_ok h1 hx).1, fun r => ⟨_, rfl, fun μ hx => .inr (.inr ⟨_, rfl, isNil_eq hn, (bindNil_ok h1 hx).2⟩)⟩⟩
    case slc id ver p =>
      cases hv : verOk s id ver p with
      | false => rw [hv] at h; simp at h
      | true =>
        rw [hv] at h
        simp only [cond_true, Option.bind_eq_some_iff, Option.some.injEq] at h
        obtain ⟨ds, h1, m', h2, rfl⟩ := h
        exact ⟨bindM_inj h2, fun μ hx => (bindM_ok h2 hx).1, fun r => ⟨.slc c 0 p, by simp [buildP, pathM_ok h1], fun μ hx => .inr ⟨c, rfl, (bindM_ok h2 hx).2, hv⟩⟩⟩
  | .win c cs, v, m, x, h => by
    simp only [matchP] at h
    cases v <;> simp only [reduceCtorEq] at h
    case win id ver p off len =>
      cases hv : verOk s id ver p with
      | false => rw [hv] at h; simp at h
      | true =>
        rw [hv] at h
        simp only [cond_true, Option.bind_eq_some_iff, Option.some.injEq] at h
        obtain ⟨ds, h1, m', h2, rfl⟩ := h
        exact ⟨bindM_inj h2, fun μ hx => (bindM_ok h2 hx).1, fun r => ⟨.win c 0 p off len, by simp [buildP, pathM_ok h1], fun μ hx => .inr ⟨c, rfl, (bindM_ok h2 hx).2, hv⟩⟩⟩
  | .ptr c cs o, v, m, x, h => by
    simp only [matchP] at h
    cases v <;> simp only [reduceCtorEq] at h
    case ptr id ver p i o' =>
      cases hv : Nat.beq o o' && verOk s id ver p with
      | false => rw [hv] at h; simp at h
      | true =>
        rw [hv] at h
        simp only [cond_true, Option.bind_eq_some_iff, Option.some.injEq] at h
        obtain ⟨ds, h1, m', h2, rfl⟩ := h
        simp only [Bool.and_eq_true] at hv
        have := Nat.eq_of_beq_eq_true hv.1
        subst this
        exact ⟨bindM_inj h2, fun μ hx => (bindM_ok h2 hx).1, fun r => ⟨.ptr c 0 p i o, by simp [buildP, pathM_ok h1], fun μ hx => .inr ⟨c, rfl, (bindM_ok h2 hx).2, hv.2⟩⟩⟩
  | .box c o, v, m, x, h => by
    simp only [matchP] at h
    cases v <;> simp only [reduceCtorEq] at h
    case ptr id ver p i o' =>
      cases hv : Nat.beq o o' && (decide (i = 0) && p.isEmpty) with
      | false => rw [hv] at h; simp at h
      | true =>
        rw [hv] at h
        simp only [cond_true, Option.bind_eq_some_iff, Option.some.injEq] at h
        obtain ⟨m', h2, rfl⟩ := h
        simp only [Bool.and_eq_true, decide_eq_true_eq, List.isEmpty_iff] at hv
        have := Nat.eq_of_beq_eq_true hv.1
        subst this
        obtain ⟨_, rfl, rfl⟩ := hv
        exact ⟨bindM_inj h2, fun μ hx => (bindM_ok h2 hx).1, fun r => ⟨.ptr c 0 [] 0 o, by simp [buildP], fun μ hx => .inr ⟨c, rfl, (bindM_ok h2 hx).2, rfl⟩⟩⟩
  | .agg ps, v, m, x, h => by
    simp only [matchP] at h
    cases v <;> simp only [reduceCtorEq] at h
    case agg ss =>
      obtain ⟨h1, h2, h3⟩ := matchL_ok s ps ss m x h
      exact ⟨h1, h2, fun r => by obtain ⟨v', h4, h5⟩ := h3 r; exact ⟨.agg v', by simp [buildP, h4], fun μ hx => .inr ⟨v', rfl, h5 μ hx⟩⟩⟩
  | .tup ps, v, m, x, h => by
    simp only [matchP] at h
    cases v <;> simp only [reduceCtorEq] at h
    case tup ss =>
      obtain ⟨h1, h2, h3⟩ := matchL_ok s ps ss m x h
      exact ⟨h1, h2, fun r => by obtain ⟨v', h4, h5⟩ := h3 r; exact ⟨.tup v', by simp [buildP, h4], fun μ hx => .inr ⟨v', rfl, h5 μ hx⟩⟩⟩
  | .fn f ps, v, m, x, h => by
    simp only [matchP] at h
    cases v <;> simp only [reduceCtorEq] at h
    case fn f' ss =>
      cases hv : Nat.beq f f' with
      | false => rw [hv] at h; simp at h
      | true =>
        rw [hv] at h
        simp only [cond_true] at h
        have := Nat.eq_of_beq_eq_true hv
        subst this
        obtain ⟨h1, h2, h3⟩ := matchL_ok s ps ss m x h
        exact ⟨h1, h2, fun r => by obtain ⟨v', h4, h5⟩ := h3 r; exact ⟨.fn f v', by simp [buildP, h4], fun μ hx => .inr ⟨v', rfl, h5 μ hx⟩⟩⟩
  | .mref c, v, m, x, h => by
    simp only [matchP] at h
    cases v <;> simp only [reduceCtorEq] at h
    case mref id =>
      simp only [Option.bind_eq_some_iff, Option.some.injEq] at h
      obtain ⟨m', h2, rfl⟩ := h
      exact ⟨bindM_inj h2, fun μ hx => (bindM_ok h2 hx).1, fun r => ⟨.mref c, by simp [buildP], fun μ hx => .inr ⟨c, rfl, (bindM_ok h2 hx).2⟩⟩⟩
theorem matchL_ok (s : St U) : ∀ (p : List Pt) (v : List SV) (m : Mp) (x : List (DV U) × Mp), matchL s p v m = some x → ML s p v m x
  | [], [], m, x, h => by
    simp [matchL] at h; subst h
    exact ⟨id, fun _ h => h, fun r => ⟨[], rfl, fun μ _ => by simp [RenL]⟩⟩
  | p :: ps, v :: vs, m, x, h => by
    simp only [matchL, Option.bind_eq_some_iff, Option.some.injEq] at h
    obtain ⟨y, h1, z, h2, rfl⟩ := h
    obtain ⟨a1, a2, a3⟩ := matchP_ok s p v m y h1
    obtain ⟨b1, b2, b3⟩ := matchL_ok s ps vs y.2 z h2
    refine ⟨fun hi => b1 (a1 hi), fun μ hx => a2 μ (b2 μ hx), fun r => ?_⟩
    obtain ⟨v', c1, c2⟩ := a3 (z.1 ++ r)
    obtain ⟨vs', d1, d2⟩ := b3 r
    refine ⟨v' :: vs', ?_, fun μ hx => ⟨v', vs', rfl, c2 μ (b2 μ hx), d2 μ hx⟩⟩
    simp only [buildL, List.append_assoc, c1, Option.bind_some, d1]
  | [], _ :: _, m, x, h => by simp [matchL] at h
  | _ :: _, [], m, x, h => by simp [matchL] at h
end

end
end Go.Proofs.YtchohkelpjfpcaaDoor.AX

/- States told by lists: that they are told well. No conditions. -/
namespace Go.Proofs.YtchohkelpjfpcaaDoor.AX
open Go Go.RowKit

section
variable {U : Uni}

inductive CRen (s : St U) (μ : Mu) (c : Nat) : Chunk U → Prop where
  | box (id ty cs cs') (hm : μ c = some (some id)) (hs : s.chunk id = .box ty cs) (hr : RenL s μ cs cs') : CRen s μ c (.box ty cs')
  | row (id own o v k l) (hm : μ c = some (some id)) (hs : s.chunk id = .row o v k l) (ho : own = true → o = true) : CRen s μ c (.row own 0 k l)
  | mp (id k l) (hm : μ c = some (some id)) (hs : s.chunk id = .mp k l) : CRen s μ c (.mp k l)
  | nil (own k) (hm : μ c = some none) : CRen s μ c (.row own 0 k [])

theorem absS_ok (s : St U) : ∀ {sl : List (Nat × Pt)} {m : Mp} {x : List (DV U) × Mp}, absS s sl m = some x → (Inj m → Inj x.2) ∧ (∀ μ, Ext x.2 μ → Ext m μ) ∧ ∀ r, ∃ S, concS sl (x.1 ++ r) = some (S, r) ∧ ∀ μ, Ext x.2 μ → ∀ i y, (i, y) ∈ S → Ren s μ (s.slot i) y
  | [], m, x, h => by
    simp [absS] at h; subst h
    exact ⟨id, fun _ h => h, fun r => ⟨[], rfl, fun μ _ i y h => by simp at h⟩⟩
  | (i, p) :: sl, m, x, h => by
    simp only [absS, Option.bind_eq_some_iff, Option.some.injEq] at h
    obtain ⟨y, h1, z, h2, rfl⟩ := h
    obtain ⟨a1, a2, a3⟩ := matchP_ok s p _ m y h1
    obtain ⟨b1, b2, b3⟩ := absS_ok s h2
    refine ⟨fun hi => b1 (a1 hi), fun μ hx => a2 μ (b2 μ hx), fun r => ?_⟩
    obtain ⟨v', c1, c2⟩ := a3 (z.1 ++ r)
    obtain ⟨S, d1, d2⟩ := b3 r
    refine ⟨(i, v') :: S, by simp only [concS, List.append_assoc, c1, Option.bind_some, d1], fun μ hx j y' hj => ?_⟩
    rcases List.mem_cons.1 hj with e | hj
    · injection e with e1 e2; subst e1 e2; exact c2 μ (b2 μ hx)
    · exact d2 μ hx j y' hj

theorem absB_ok (s : St U) : ∀ {bs : List (Nat × TypeId × List Pt)} {m : Mp} {x : List (DV U) × Mp}, absB s bs m = some x → (Inj m → Inj x.2) ∧ (∀ μ, Ext x.2 μ → Ext m μ) ∧ ∀ r, ∃ S : List (Nat × Chunk U), concB bs (x.1 ++ r) = some (S, r) ∧ S.map (·.1) = bs.map (·.1) ∧ ∀ μ, Ext x.2 μ → ∀ i y, (i, y) ∈ S → CRen s μ i y
  | [], m, x, h => by
    simp [absB] at h; subst h
    exact ⟨id, fun _ h => h, fun r => ⟨[], rfl, rfl, fun μ _ i y h => by simp at h⟩⟩
  | (c, ty, ps) :: bs, m, x, h => by
    simp only [absB] at h
    cases hg : mget m c with
    | none => rw [hg] at h; simp at h
    | some q =>
      cases q with
      | none => rw [hg] at h; simp at h
      | some id =>
        rw [hg] at h
        dsimp only at h
        cases hc : s.chunk id with
        | box ty' cs =>
          rw [hc] at h
          dsimp only at h
          cases hv : Nat.beq ty ty' with
          | false => rw [hv] at h; simp at h
          | true =>
            rw [hv] at h
            have := Nat.eq_of_beq_eq_true hv
            subst this
            simp only [cond_true, Option.bind_eq_some_iff, Option.some.injEq] at h
            obtain ⟨y, h1, z, h2, rfl⟩ := h
            obtain ⟨a1, a2, a3⟩ := matchL_ok s ps _ m y h1
            obtain ⟨b1, b2, b3⟩ := absB_ok s h2
            refine ⟨fun hi => b1 (a1 hi), fun μ hx => a2 μ (b2 μ hx), fun r => ?_⟩
            obtain ⟨v', c1, c2⟩ := a3 (z.1 ++ r)
            obtain ⟨S, d1, d0, d2⟩ := b3 r
            refine ⟨(c, .box ty v') :: S, by simp only [concB, List.append_assoc, c1, Option.bind_some, d1], by simp [d0], fun μ hx j y' hj => ?_⟩
            rcases List.mem_cons.1 hj with e | hj
            · injection e with e1 e2; subst e1 e2; exact .box id ty cs v' (a2 μ (b2 μ hx) _ _ hg) hc (c2 μ (b2 μ hx))
            · exact d2 μ hx j y' hj
        | _ => rw [hc] at h; simp at h

theorem absR_ok (s : St U) {m : Mp} : ∀ {rs : List (Nat × Bool × Nat)} {ds : List (DV U)}, absR s m rs = some ds → ∃ S : List (Nat × Chunk U), concR rs ds = some S ∧ S.map (·.1) = rs.map (·.1) ∧ ∀ μ, Ext m μ → ∀ i y, (i, y) ∈ S → CRen s μ i y
  | [], ds, h => by
    simp [absR] at h; subst h
    exact ⟨[], rfl, rfl, fun μ _ i y h => by simp at h⟩
  | (c, own, k) :: rs, ds, h => by
    simp only [absR] at h
    cases hmp : isMp U k with
    | true =>
      rw [hmp] at h
      simp only [cond_true] at h
      cases hg : mget m c with
      | none => rw [hg] at h; simp at h
      | some q =>
        rw [hg] at h
        cases q with
        | none => simp at h
        | some id =>
          dsimp only at h
          cases hc : s.chunk id with
          | mp k' l =>
            rw [hc] at h
            dsimp only at h
            cases hv : Nat.beq k k' with
            | false => rw [hv] at h; simp at h
            | true =>
              rw [hv] at h
              have := Nat.eq_of_beq_eq_true hv
              subst this
              simp only [cond_true, Option.bind_eq_some_iff, Option.some.injEq] at h
              obtain ⟨z, h2, rfl⟩ := h
              obtain ⟨S, d1, d0, d2⟩ := absR_ok s h2
              refine ⟨(c, .mp k l) :: S, by simp only [concR, d1, Option.bind_some, hmp, cond_true], by simp [d0], fun μ hx j y' hj => ?_⟩
              rcases List.mem_cons.1 hj with e | hj
              · injection e with e1 e2; subst e1 e2
                exact .mp id k l (hx _ _ hg) hc
              · exact d2 μ hx j y' hj
          | _ => rw [hc] at h; simp at h
    | false =>
    rw [hmp] at h
    simp only [cond_false] at h
    cases hg : mget m c with
    | none => rw [hg] at h; simp at h
    | some q =>
      rw [hg] at h
      cases q with
      | none =>
        simp only [Option.bind_eq_some_iff, Option.some.injEq] at h
        obtain ⟨z, h2, rfl⟩ := h
        obtain ⟨S, d1, d0, d2⟩ := absR_ok s h2
        refine ⟨(c, .row own 0 k []) :: S, by simp only [concR, d1, Option.bind_some, hmp, cond_false], by simp [d0], fun μ hx j y' hj => ?_⟩
        rcases List.mem_cons.1 hj with e | hj
        · injection e with e1 e2; subst e1 e2; exact .nil own k (hx _ _ hg)
        · exact d2 μ hx j y' hj
      | some id =>
        dsimp only at h
        cases hc : s.chunk id with
        | row o v k' l =>
          rw [hc] at h
          dsimp only at h
          cases hv : Nat.beq k k' && (!own || o) with
          | false => rw [hv] at h; simp at h
          | true =>
            rw [hv] at h
            simp only [Bool.and_eq_true] at hv
            have := Nat.eq_of_beq_eq_true hv.1
            subst this
            simp only [cond_true, Option.bind_eq_some_iff, Option.some.injEq] at h
            obtain ⟨z, h2, rfl⟩ := h
            obtain ⟨S, d1, d0, d2⟩ := absR_ok s h2
            refine ⟨(c, .row own 0 k l) :: S, by simp only [concR, d1, Option.bind_some, hmp, cond_false], by simp [d0], fun μ hx j y' hj => ?_⟩
            rcases List.mem_cons.1 hj with e | hj
            · injection e with e1 e2; subst e1 e2
              exact .row id own o v k l (hx _ _ hg) hc (fun ho => by subst ho; simpa using hv.2)
            · exact d2 μ hx j y' hj
        | _ => rw [hc] at h; simp at h

theorem abst_syn {A : Ann} {s : St U} {ds : List (DV U)} (h : abst A s = some ds) : ∃ (m : Mp) (st : St U), conc A ds = some st ∧ Inj m ∧ (∀ i y, (i, y) ∈ st.slots → Ren s (mget m) (s.slot i) y) ∧ (∀ c X, (c, X) ∈ st.chunks → CRen s (mget m) c X) ∧ (∀ c x, mget m c = some x → c ∈ st.chunks.map (·.1)) ∧ ∀ c ∈ A.pins, mget m c = some (some c) := by
  unfold abst at h
  simp only [Option.bind_eq_some_iff] at h
  obtain ⟨x, h1, y, h2, z, h3, h⟩ := h
  cases hk : (y.2.all fun e => A.keys.any fun c => Nat.beq c e.1) && (A.pins.all fun c => pinAt y.2 c) with
  | false => rw [hk] at h; simp at h
  | true =>
    rw [hk] at h
    simp only [cond_true, Option.some.injEq] at h
    subst h
    rw [Bool.and_eq_true] at hk
    obtain ⟨hk, hpins⟩ := hk
    obtain ⟨a1, a2, a3⟩ := absS_ok s h1
    obtain ⟨b1, b2, b3⟩ := absB_ok s h2
    obtain ⟨S3, c1, c0, c2⟩ := absR_ok s h3
    obtain ⟨S1, d1, d2⟩ := a3 (y.1 ++ z)
    obtain ⟨S2, e1, e0, e2⟩ := b3 z
    have hx : Ext y.2 (mget y.2) := fun _ _ h => h
    refine ⟨y.2, ⟨S1, S2 ++ S3⟩, by simp only [conc, d1, Option.bind_some, e1, c1], b1 (a1 (fun c d id h => by simp [mget] at h)), fun i y' hi => d2 _ (b2 _ hx) i y' hi, fun c X hc => ?_, fun c x' hc => ?_, fun c hc => ?_⟩
    · rcases List.mem_append.1 hc with hc | hc
      · exact e2 _ hx c X hc
      · exact c2 _ hx c X hc
    · have := List.all_eq_true.1 hk _ (mget_mem hc)
      obtain ⟨d, hd, he⟩ := List.any_eq_true.1 this
      have := Nat.eq_of_beq_eq_true he
      dsimp only at this
      subst this
      rw [List.map_append, e0, c0]
      exact hd
    · have := List.all_eq_true.1 hpins c hc
      unfold pinAt at this
      split at this
      · rename_i id e; have := Nat.eq_of_beq_eq_true this; rw [e, this]
      · simp at this

def ChR (A B : Chunk U) : Prop := (∃ o v k l o', A = .row o v k l ∧ B = .row o' 0 k l) ∨ (∃ ty cs cs', A = .box ty cs ∧ B = .box ty cs') ∨ (∃ k l, A = .mp k l ∧ B = .mp k l)

section
variable {w : World} {ρ ρ' : Nat → Value} {s : St U} {ch' : Nat → Chunk U} {μ : Mu}

theorem ver_of {s : St U} {id ver : Nat} {p : List (Int × Nat)} (h : verOk s id ver p = true) {o : Bool} {v k : Nat} {l : List (U.El k)} (hc : s.chunk id = .row o v k l) : p = [] ∨ ver = v := by
  cases p with
  | nil => exact .inl rfl
  | cons _ _ =>
    simp only [verOk, hc, verOf] at h
    exact .inr (Nat.eq_of_beq_eq_true h)

variable (hρ : ∀ c id, μ c = some (some id) → ρ' c = ρ id) (hC : ∀ c id, μ c = some (some id) → ChR (s.chunk id) (ch' c)) (hN : ∀ c, μ c = some none → ρ' c = .slice none 0 0 ∧ ∃ o k, ch' c = .row o 0 k [])
include hρ hC hN

mutual
theorem ren_mat : ∀ (v y : SV), Ren s μ v y → ∀ x, Mat w ρ s.chunk v x → Mat w ρ' ch' y x
  | .lit v, y, h, x, hm => by
    simp only [Ren] at h
    simp only [Mat] at hm
    subst hm
    rcases h with rfl | rfl | ⟨c, rfl, rfl, h⟩
    · simp [Mat]
    · simp [Mat]
    · obtain ⟨h1, o, k, h2⟩ := hN c h
      simp only [Mat, MatS, h1, h2]
      refine ⟨⟨_, _, _, rfl⟩, ?_⟩
      simp [Fol]
  | .slc id ver p, y, h, x, hm => by
    simp only [Ren] at h
    rcases h with rfl | h
    · simp [Mat]
    obtain ⟨c, rfl, h1, h2⟩ := h
    simp only [Mat] at hm ⊢
    rw [hρ c id h1]
    unfold MatS at hm ⊢
    rcases hC c id h1 with ⟨o, v, k, l, o', e1, e2⟩ | ⟨ty, cs, cs', e1, e2⟩ | ⟨_, _, e1, e2⟩
    · rw [e1] at hm; rw [e2]
      obtain ⟨g1, g2, g3, g4⟩ := hm
      refine ⟨g1, g2, fun _ => Nat.zero_le _, fun _ => ?_⟩
      rcases ver_of h2 e1 with rfl | rfl
      · exact g2 rfl
      · exact g4 rfl
    · rw [e1] at hm; rw [e2]; exact hm
    · rw [e1] at hm; rw [e2]; exact hm
  | .win id ver p off len, y, h, x, hm => by
    simp only [Ren] at h
    rcases h with rfl | h
    · simp [Mat]
    obtain ⟨c, rfl, h1, h2⟩ := h
    simp only [Mat] at hm ⊢
    rw [hρ c id h1]
    unfold MatW at hm ⊢
    rcases hC c id h1 with ⟨o, v, k, l, o', e1, e2⟩ | ⟨ty, cs, cs', e1, e2⟩ | ⟨_, _, e1, e2⟩
    · rw [e1] at hm; rw [e2]
      obtain ⟨g1, g2, g3⟩ := hm
      exact ⟨g1, fun _ => Nat.zero_le _, fun _ => g3 (ver_of h2 e1)⟩
    · rw [e1] at hm; rw [e2]; exact hm
    · rw [e1] at hm; rw [e2]; exact hm
  | .ptr id ver p i o, y, h, x, hm => by
    simp only [Ren] at h
    rcases h with rfl | h
    · simp [Mat]
    obtain ⟨c, rfl, h1, h2⟩ := h
    simp only [Mat] at hm ⊢
    rw [hρ c id h1]
    unfold MatP at hm ⊢
    rcases hC c id h1 with ⟨o, v, k, l, o', e1, e2⟩ | ⟨ty, cs, cs', e1, e2⟩ | ⟨_, _, e1, e2⟩
    · rw [e1] at hm; rw [e2]
      obtain ⟨A, g1, g2, g3⟩ := hm
      exact ⟨A, g1, fun _ => Nat.zero_le _, fun _ => g3 (ver_of h2 e1)⟩
    · rw [e1] at hm; rw [e2]; exact hm
    · rw [e1] at hm; rw [e2]; exact hm
  | .agg ss, y, h, x, hm => by
    simp only [Ren] at h
    rcases h with rfl | h
    · simp [Mat]
    obtain ⟨ss', rfl, h⟩ := h
    simp only [Mat] at hm ⊢
    obtain ⟨vs, e, hm⟩ := hm
    exact ⟨vs, e, ren_matL ss ss' h vs hm⟩
  | .tup ss, y, h, x, hm => by
    simp only [Ren] at h
    rcases h with rfl | h
    · simp [Mat]
    obtain ⟨ss', rfl, h⟩ := h
    simp only [Mat] at hm ⊢
    obtain ⟨vs, e, hm⟩ := hm
    exact ⟨vs, e, ren_matL ss ss' h vs hm⟩
  | .fn f ss, y, h, x, hm => by
    simp only [Ren] at h
    rcases h with rfl | h
    · simp [Mat]
    obtain ⟨ss', rfl, h⟩ := h
    simp only [Mat] at hm ⊢
    obtain ⟨vs, e, hm⟩ := hm
    exact ⟨vs, e, ren_matL ss ss' h vs hm⟩
  | .mref id, y, h, x, hm => by
    simp only [Ren] at h
    rcases h with rfl | h
    · simp [Mat]
    obtain ⟨c, rfl, h1⟩ := h
    simp only [Mat] at hm ⊢
    rw [hρ c id h1]
    unfold MatM at hm ⊢
    rcases hC c id h1 with ⟨o, v, k, l, o', e1, e2⟩ | ⟨ty, cs, cs', e1, e2⟩ | ⟨_, _, e1, e2⟩
    · rw [e2]; trivial
    · rw [e2]; trivial
    · rw [e1] at hm; rw [e2]; exact hm
  | .when _ _ _, y, h, x, hm => by simp [Ren] at h; subst h; simp [Mat]
  | .dead, y, h, x, hm => by simp [Ren] at h; subst h; simp [Mat]
theorem ren_matL : ∀ (v y : List SV), RenL s μ v y → ∀ x, MatL w ρ s.chunk v x → MatL w ρ' ch' y x
  | [], y, h, x, hm => by
    simp only [RenL] at h; subst h
    simpa [MatL] using hm
  | v :: vs, y, h, x, hm => by
    simp only [RenL] at h
    obtain ⟨v', r, rfl, h1, h2⟩ := h
    simp only [MatL] at hm ⊢
    obtain ⟨u, us, rfl, g1, g2⟩ := hm
    exact ⟨u, us, rfl, ren_mat v v' h1 u g1, ren_matL vs r h2 us g2⟩
end
end

theorem look_cases {α : Type} {d : α} : ∀ (l : List (Nat × α)) (c : Nat), (c ∉ l.map (·.1) ∧ look d l c = d) ∨ (c, look d l c) ∈ l
  | [], c => .inl ⟨by simp, rfl⟩
  | (i, x) :: l, c => by
    rw [look_cons]
    by_cases e : i = c
    · subst e; rw [if_pos rfl]; exact .inr (by simp)
    · rw [if_neg e]
      rcases look_cases l c with ⟨h1, h2⟩ | h
      · exact .inl ⟨by simp only [List.map_cons, List.mem_cons, not_or]; exact ⟨fun h => e h.symm, h1⟩, h2⟩
      · exact .inr (List.mem_cons_of_mem _ h)

/-- The state that is told is as good. -/
theorem abst_ok {A : Ann} {s : St U} {ds : List (DV U)} (h : abst A s = some ds) : ∃ st, conc A ds = some st ∧ ∀ {w0 : World} {M : Own} {N : Nat} {a : Act} {w : World}, Pinned M A.pins → SatE w0 M N s a w → SatE w0 M N st a w := by
  obtain ⟨m, st, h1, hinj, hsl, hch, hkeys, hpins⟩ := abst_syn h
  refine ⟨st, h1, fun {w0 M N a w} hP hE => ?_⟩
  obtain ⟨ρ, F, hS⟩ := hE
  let ρ' : Nat → Value := fun c => match mget m c with
    | some (some id) => ρ id
    | some none => .slice none 0 0
    | none => undef
  have hρ : ∀ c id, mget m c = some (some id) → ρ' c = ρ id := fun c id h => by show (match mget m c with | some (some id) => ρ id | some none => Value.slice none 0 0 | none => undef) = _; rw [h]
  have hρn : ∀ c, mget m c = some none → ρ' c = .slice none 0 0 := fun c h => by show (match mget m c with | some (some id) => ρ id | some none => Value.slice none 0 0 | none => undef) = _; rw [h]
  -- each chunk
  have hck : ∀ c, (st.chunk c = .fresh ∧ mget m c = none) ∨ CRen s (mget m) c (st.chunk c) := fun c => by
    rcases look_cases (d := Chunk.fresh) st.chunks c with ⟨h1, h2⟩ | h
    · refine .inl ⟨h2, ?_⟩
      cases e : mget m c with
      | none => rfl
      | some x => exact absurd (hkeys c x e) h1
    · exact .inr (hch c _ h)
  have hC : ∀ c id, mget m c = some (some id) → ChR (s.chunk id) (st.chunk c) := fun c id hm => by
    rcases hck c with ⟨_, h⟩ | h
    · rw [h] at hm; simp at hm
    · generalize hX : st.chunk c = X at h
      cases h with
      | box id' ty cs cs' hm' hs' hr => rw [hm] at hm'; injection hm' with e; injection e with e; subst e; exact .inr (.inl ⟨_, _, _, hs', rfl⟩)
      | mp id' k l hm' hs' => rw [hm] at hm'; injection hm' with e; injection e with e; subst e; exact .inr (.inr ⟨_, _, hs', rfl⟩)
      | row id' own o v k l hm' hs' ho => rw [hm] at hm'; injection hm' with e; injection e with e; subst e; exact .inl ⟨_, _, _, _, _, hs', rfl⟩
      | nil own k hm' => rw [hm] at hm'; simp at hm'
  have hN : ∀ c, mget m c = some none → ρ' c = .slice none 0 0 ∧ ∃ o k, st.chunk c = .row o 0 k [] := fun c hm => by
    refine ⟨hρn c hm, ?_⟩
    rcases hck c with ⟨_, h⟩ | h
    · rw [h] at hm; simp at hm
    · generalize hX : st.chunk c = X at h
      cases h with
      | box id' ty cs cs' hm' hs' hr => rw [hm] at hm'; simp at hm'
      | row id' own o v k l hm' hs' ho => rw [hm] at hm'; simp at hm'
      | mp id' k l hm' hs' => rw [hm] at hm'; simp at hm'
      | nil own k hm' => exact ⟨_, _, rfl⟩
  have hF : ∀ c, ∃ G, RepC w (ρ' c) (st.chunk c) G ∧ (∀ b ∈ G, ∃ id, mget m c = some (some id) ∧ b ∈ F id) ∧ ((st.chunk c).own = true → ∀ id, mget m c = some (some id) → (s.chunk id).own = true) ∧ ∀ ty cs, st.chunk c = .box ty cs → ∃ id cs0, mget m c = some (some id) ∧ s.chunk id = .box ty cs0 ∧ RenL s (mget m) cs0 cs := fun c => by
    rcases hck c with ⟨h, h'⟩ | h
    · rw [h]; exact ⟨[], rfl, by simp, by simp [Chunk.own], by simp⟩
    · generalize hX : st.chunk c = X at h
      cases h with
      | box id ty cs cs' hm hs hr =>
        have := hS.rep id
        rw [hs] at this
        rw [hρ c id hm]
        refine ⟨F id, this, fun b hb => ⟨id, hm, hb⟩, fun _ id' hm' => ?_, fun ty' cs'' e => ?_⟩
        · rw [hm] at hm'; injection hm' with e; injection e with e; subst e; rw [hs]; rfl
        · injection e with e1 e2; subst e1 e2; exact ⟨id, cs, hm, hs, hr⟩
      | mp id k l hm hs =>
        have := hS.rep id
        rw [hs] at this
        rw [hρ c id hm]
        refine ⟨F id, this, fun b hb => ⟨id, hm, hb⟩, fun _ id' hm' => ?_, fun _ _ e => by simp at e⟩
        rw [hm] at hm'; injection hm' with e; injection e with e; subst e; rw [hs]; rfl
      | row id own o v k l hm hs ho =>
        have := hS.rep id
        rw [hs] at this
        rw [hρ c id hm]
        obtain ⟨d, hd⟩ := this
        cases own with
        | true =>
          have := ho rfl
          subst this
          refine ⟨F id, ⟨d, hd⟩, fun b hb => ⟨id, hm, hb⟩, fun _ id' hm' => ?_, fun _ _ e => by simp at e⟩
          rw [hm] at hm'; injection hm' with e; injection e with e; subst e; rw [hs]; rfl
        | false =>
          obtain ⟨G, hG, hsub⟩ := hd.readAny
          exact ⟨G, ⟨d, hG⟩, fun b hb => ⟨id, hm, hsub b hb⟩, fun h => by simp [Chunk.own] at h, fun _ _ e => by simp at e⟩
      | nil own k hm =>
        rw [hρn c hm]
        refine ⟨[], ⟨1, [], [], [], ?_, by simp [RepL], rfl, fun _ => by simp⟩, by simp, fun _ id' hm' => by rw [hm] at hm'; simp at hm', fun _ _ e => by simp at e⟩
        cases own with
        | true => exact ⟨⟨by simp, .inl ⟨rfl, rfl⟩⟩, rfl⟩
        | false => exact ⟨none, 0, rfl, Nat.le_refl _, Nat.zero_le _, by simp, by simp, fun h => absurd rfl h⟩
  obtain ⟨F', hF'⟩ := Classical.axiomOfChoice hF
  refine ⟨ρ', F', hS.tmps, hS.defers, fun i => ?_, fun c => (hF' c).1, fun c ty cs hc => ?_, fun c d hcd ho b hb hd => ?_, fun c ho b hb => ?_, fun c b hb => ?_, hS.fr, hS.door, fun c v hv => ?_⟩
  · rcases look_cases (d := SV.dead) st.slots i with ⟨_, h2⟩ | h
    · show Mat w ρ' st.chunk (look .dead st.slots i) _
      rw [h2]; simp [Mat]
    · exact ren_mat hρ hC hN _ _ (hsl i _ h) _ (hS.slots i)
  · obtain ⟨id, cs0, g1, g2, g3⟩ := (hF' c).2.2.2 ty cs hc
    obtain ⟨b, cur, k1, k2, k3⟩ := hS.box id ty cs0 g2
    exact ⟨b, cur, by rw [hρ c id g1]; exact k1, k2, ren_matL hρ hC hN _ _ g3 _ k3⟩
  · obtain ⟨id, g1, g2⟩ := (hF' c).2.1 b hb
    obtain ⟨id', k1, k2⟩ := (hF' d).2.1 b hd
    have hne : id ≠ id' := fun e => by subst e; exact hcd (hinj c d id g1 k1)
    exact hS.disj id id' hne ((hF' c).2.2.1 ho id g1) b g2 k2
  · obtain ⟨id, g1, g2⟩ := (hF' c).2.1 b hb
    exact hS.mine id ((hF' c).2.2.1 ho id g1) b g2
  · obtain ⟨id, g1, g2⟩ := (hF' c).2.1 b hb
    exact hS.lt id b g2
  · have hm := hpins c (hP c v hv)
    refine ⟨by rw [hρ c c hm]; exact (hS.pin c v hv).1, fun hf => ?_⟩
    rcases hC c c hm with ⟨_, _, _, _, _, _, e⟩ | ⟨_, _, _, _, e⟩ | ⟨_, _, _, e⟩ <;> rw [e] at hf <;> simp at hf

/- Lists as values of a type. -/
structure Itm (U : Uni) (α : Type) where
  enc : α → DV U
  dec : DV U → Option α
  ok : ∀ {d a}, dec d = some a → d = enc a

def iInt (k : IntKind) : Itm U Int where
  enc a := .val (.int k a)
  dec d := match d with
    | .val (.int k' a) => bif kindEq k k' then some a else none
    | _ => none
  ok {d a} h := by
    split at h
    · rename_i k' b
      cases e : kindEq k k' with
      | false => rw [e] at h; simp at h
      | true => rw [e] at h; simp at h; subst h; rw [kindEq_eq e]
    · simp at h

def iBool : Itm U Bool where
  enc a := .val (.bool a)
  dec d := match d with
    | .val (.bool a) => some a
    | _ => none
  ok {d a} h := by split at h <;> simp at h; subst h; rfl

def iStr : Itm U ByteArray where
  enc a := .val (.string a)
  dec d := match d with
    | .val (.string a) => some a
    | _ => none
  ok {d a} h := by split at h <;> simp at h; subst h; rfl

def iVal : Itm U Value where
  enc a := .val a
  dec d := match d with
    | .val a => some a
    | _ => none
  ok {d a} h := by split at h <;> simp at h; subst h; rfl

def iRow (k : Nat) : Itm U (List (U.El k)) where
  enc l := .row k l
  dec d := match d with
    | .row k' l => match Nat.decEq k' k with
      | isTrue h => some (h ▸ l)
      | isFalse _ => none
    | _ => none
  ok {d a} h := by
    split at h
    · split at h
      · rename_i e _; subst e; simp at h; subst h; rfl
      · simp at h
    · simp at h

/-- A slice that is nil, or one that is told by its elements. -/
def iNil (k : Nat) : Itm U (Unit ⊕ List (U.El k)) where
  enc a := match a with
    | .inl _ => .val (.slice none 0 0)
    | .inr l => .row k l
  dec d := match d with
    | .val v => bif isNil v then some (.inl ()) else none
    | .row k' l => match Nat.decEq k' k with
      | isTrue h => some (.inr (h ▸ l))
      | isFalse _ => none
    | _ => none
  ok {d a} h := by
    split at h
    · rename_i v
      cases e : isNil v with
      | false => rw [e] at h; simp at h
      | true => rw [e] at h; simp at h; subst h; rw [isNil_eq e]
    · split at h
      · rename_i e _; subst e; simp at h; subst h; rfl
      · simp at h
    · simp at h

structure Cod (U : Uni) (X : Type) where
  enc : X → List (DV U)
  dec : List (DV U) → Option X
  ok : ∀ {d a}, dec d = some a → d = enc a

def cod0 : Cod U Unit where
  enc _ := []
  dec d := match d with
    | [] => some ()
    | _ => none
  ok {d a} h := by split at h <;> simp at h; rfl

def cod1 {α : Type} (i : Itm U α) : Cod U α where
  enc a := [i.enc a]
  dec d := match d with
    | [x] => i.dec x
    | _ => none
  ok {d a} h := by
    split at h
    · rw [i.ok h]
    · simp at h

def codC {α X : Type} (i : Itm U α) (c : Cod U X) : Cod U (α × X) where
  enc a := i.enc a.1 :: c.enc a.2
  dec d := match d with
    | x :: r => (i.dec x).bind fun a => (c.dec r).bind fun b => some (a, b)
    | _ => none
  ok {d a} h := by
    split at h
    · simp only [Option.bind_eq_some_iff, Option.some.injEq] at h
      obtain ⟨a1, h1, b1, h2, rfl⟩ := h
      rw [i.ok h1, c.ok h2]
    · simp at h

structure Coy (U : Uni) (Y : Type) where
  enc : Y → Nat × List (DV U)
  dec : Nat → List (DV U) → Option Y
  ok : ∀ {i d a}, dec i d = some a → enc a = (i, d)
  elim : {R : Type} → Y → (Nat → List (DV U) → Option R) → Option R
  elim_ok : ∀ {R : Type} y (k : Nat → List (DV U) → Option R), elim y k = k (enc y).1 (enc y).2

def coy1 {X : Type} (c : Cod U X) : Coy U X where
  enc a := (0, c.enc a)
  dec i d := match i with
    | 0 => c.dec d
    | _ => none
  ok {i d a} h := by
    cases i with
    | zero => rw [c.ok h]
    | succ n => simp at h
  elim a k := k 0 (c.enc a)
  elim_ok _ _ := rfl

def coyS {X Y : Type} (c : Cod U X) (r : Coy U Y) : Coy U (X ⊕ Y) where
  enc a := match a with
    | .inl x => (0, c.enc x)
    | .inr y => ((r.enc y).1 + 1, (r.enc y).2)
  dec i d := match i with
    | 0 => (c.dec d).map .inl
    | n + 1 => (r.dec n d).map .inr
  ok {i d a} h := by
    cases i with
    | zero =>
      simp only [Option.map_eq_some_iff] at h
      obtain ⟨x, h, rfl⟩ := h
      simp [c.ok h]
    | succ n =>
      simp only [Option.map_eq_some_iff] at h
      obtain ⟨x, h, rfl⟩ := h
      simp [r.ok h]
  elim a k := match a with
    | .inl x => k 0 (c.enc x)
    | .inr y => r.elim y fun i d => k (i + 1) d
  elim_ok y k := by
    cases y with
    | inl x => rfl
    | inr y => exact r.elim_ok y _

def zeroSt : St U := ⟨[], []⟩

def cutOf {X : Type} (A : Ann) (c : Cod U X) : Cut U X where
  pins := A.pins
  abs s := (abst A s).bind c.dec
  conc x := (conc A (c.enc x)).getD zeroSt
  ok {w0 M N s x a w} hP h hS := by
    simp only [Option.bind_eq_some_iff] at h
    obtain ⟨ds, h1, h2⟩ := h
    obtain ⟨st, h3, h4⟩ := abst_ok h1
    rw [← c.ok h2, h3]
    exact h4 hP hS

/-- Two ways to tell a state. -/
def Cut.or {X Y : Type} (A : Cut U X) (B : Cut U Y) : Cut U (X ⊕ Y) where
  pins := A.pins.filter fun i => B.pins.any fun j => Nat.beq i j
  abs s := match A.abs s with
    | some x => some (.inl x)
    | none => (B.abs s).map .inr
  conc x := match x with
    | .inl x => A.conc x
    | .inr y => B.conc y
  ok {w0 M N s x a w} hP h hS := by
    have hp : ∀ i v, M.pins i = some v → i ∈ A.pins ∧ i ∈ B.pins := fun i v hv => by
      have := hP i v hv
      simp only [List.mem_filter] at this
      refine ⟨this.1, ?_⟩
      obtain ⟨j, hj, e⟩ := List.any_eq_true.1 this.2
      have := Nat.eq_of_beq_eq_true e
      subst this; exact hj
    cases ha : A.abs s with
    | some z =>
      rw [ha] at h
      injection h with h; subst h
      exact A.ok (fun i v hv => (hp i v hv).1) ha hS
    | none =>
      rw [ha] at h
      cases hb : B.abs s with
      | none => rw [hb] at h; simp at h
      | some z =>
        rw [hb] at h
        simp only [Option.map_some, Option.some.injEq] at h
        subst h
        exact B.ok (fun i v hv => (hp i v hv).2) hb hS

def sameE : AExit → AExit → Bool
  | .normal, .normal => true
  | .ret, .ret => true
  | .exit n, .exit m => Nat.beq n m
  | _, _ => false

theorem sameE_eq {a b : AExit} (h : sameE a b = true) : a = b := by
  cases a <;> cases b <;> simp only [sameE, Bool.false_eq_true] at h
  · rfl
  · rw [Nat.eq_of_beq_eq_true h]
  · rfl

def absE (s : St U) (e : AExit) : List (AExit × Ann) → Nat → Option (Nat × List (DV U))
  | [], _ => none
  | (e', A) :: r, i => bif sameE e e' then (match abst A s with
    | some d => some (i, d)
    | none => absE s e r (i + 1)) else absE s e r (i + 1)

def concE : List (AExit × Ann) → Nat → List (DV U) → AExit × St U
  | [], _, _ => (.normal, zeroSt)
  | (e, A) :: _, 0, d => (e, (conc A d).getD zeroSt)
  | _ :: r, i + 1, d => concE r i d

theorem absE_ok {s : St U} {e : AExit} : ∀ {xs : List (AExit × Ann)} {i : Nat} {x : Nat × List (DV U)}, absE s e xs i = some x → ∃ j, x.1 = i + j ∧ e = (concE xs j x.2).1 ∧ ∀ {w0 : World} {M : Own} {N : Nat} {a : Act} {w : World}, (∀ y ∈ xs, Pinned M y.2.pins) → SatE w0 M N s a w → SatE w0 M N (concE xs j x.2).2 a w
  | [], i, x, h => by simp [absE] at h
  | (e', A) :: r, i, x, h => by
    simp only [absE] at h
    cases hb : sameE e e' with
    | true =>
      rw [hb] at h
      simp only [cond_true] at h
      cases h1 : abst A s with
      | some d =>
        rw [h1] at h
        injection h with h; subst h
        obtain ⟨st, h3, h4⟩ := abst_ok h1
        refine ⟨0, rfl, sameE_eq hb, fun hP hS => ?_⟩
        simp only [concE, h3]
        exact h4 (hP (e', A) (by simp)) hS
      | none =>
        rw [h1] at h
        obtain ⟨j, h1, h2, h3⟩ := absE_ok (xs := r) h
        exact ⟨j + 1, by omega, h2, fun hP hS => h3 (fun y hy => hP y (by simp [hy])) hS⟩
    | false =>
      rw [hb] at h
      obtain ⟨j, h1, h2, h3⟩ := absE_ok (xs := r) h
      exact ⟨j + 1, by omega, h2, fun hP hS => h3 (fun y hy => hP y (by simp [hy])) hS⟩

/-- Which stay in each. -/
def pinsOf : List (AExit × Ann) → List Nat
  | [] => []
  | [(_, A)] => A.pins
  | (_, A) :: r => A.pins.filter fun i => (pinsOf r).any fun j => Nat.beq i j

theorem pinsOf_ok {M : Own} : ∀ {xs : List (AExit × Ann)}, Pinned M (pinsOf xs) → ∀ y ∈ xs, Pinned M y.2.pins
  | [], h, y, hy => by simp at hy
  | [(e, A)], h, y, hy => by simp at hy; subst hy; exact h
  | (e, A) :: x :: r, h, y, hy => by
    have h' : ∀ i v, M.pins i = some v → i ∈ A.pins ∧ i ∈ pinsOf (x :: r) := fun i v hv => by
      have := h i v hv
      simp only [pinsOf, List.mem_filter] at this
      refine ⟨this.1, ?_⟩
      obtain ⟨j, hj, e⟩ := List.any_eq_true.1 this.2
      have := Nat.eq_of_beq_eq_true e
      subst this; exact hj
    rcases List.mem_cons.1 hy with rfl | hy
    · exact fun i v hv => (h' i v hv).1
    · exact pinsOf_ok (fun i v hv => (h' i v hv).2) y hy

def cutsOf {Y : Type} (xs : List (AExit × Ann)) (c : Coy U Y) : Cuts U Y where
  pins := pinsOf xs
  abs e s := (absE s e xs 0).bind fun x => c.dec x.1 x.2
  conc y := concE xs (c.enc y).1 (c.enc y).2
  elim y K := c.elim y fun i d => K (concE xs i d).1 (concE xs i d).2
  elim_ok y K := c.elim_ok y _
  ok {w0 M N e s y a w} hP h := by
    simp only [Option.bind_eq_some_iff] at h
    obtain ⟨x, h1, h2⟩ := h
    obtain ⟨j, h3, h4, h5⟩ := absE_ok h1
    have : j = x.1 := by omega
    subst this
    rw [c.ok h2]
    exact ⟨h4, fun hS => h5 (pinsOf_ok hP) hS⟩

end
end Go.Proofs.YtchohkelpjfpcaaDoor.AX

/- Functions: from what is handed in to what is handed back. No conditions. -/
namespace Go.Proofs.YtchohkelpjfpcaaDoor.AX
open Go Go.RowKit

section
variable {U : Uni}

def PF.cell1 : PF → Nat
  | .row _ _ => 1
  | .ro _ => 1
  | _ => 0
def cntL : List PF → Nat
  | [] => 0
  | f :: fs => f.cell1 + cntL fs
def PF.cnt : PF → Nat
  | .sc => 0
  | .row _ _ => 1
  | .ro _ => 1
  | .agg fs => cntL fs
  | .box _ fs => 1 + cntL fs
  | .elem _ => 1

def entCell (f : PF) (d : DV U) (n : Nat) : Option (SV × List (Nat × Chunk U)) :=
  match f, d with
  | .sc, .val v => some (.lit v, [])
  | .row k m, .row k' l => bif Nat.beq k k' then some (.slc n 0 [], [(n, .row (!Nat.beq m 0) 0 k' l)]) else none
  | .ro k, .row k' l => bif Nat.beq k k' then some (.slc n 0 [], [(n, .row false 0 k' l)]) else none
  | _, _ => none

def entCells : List PF → List (DV U) → Nat → Option (List SV × List (Nat × Chunk U))
  | [], [], _ => some ([], [])
  | f :: fs, d :: ds, n => (entCell f d n).bind fun x => (entCells fs ds (n + f.cell1)).bind fun y => some (x.1 :: y.1, x.2 ++ y.2)
  | _, _, _ => none

def entOne (f : PF) (d : DV U) (n : Nat) : Option (SV × List (Nat × Chunk U)) :=
  match f, d with
  | .agg fs, .agg ds => (entCells fs ds n).bind fun x => some (.agg x.1, x.2)
  | .box ty fs, .agg ds => (entCells fs ds (n + 1)).bind fun x => some (.ptr n 0 [] 0 0, (n, .box ty x.1) :: x.2)
  | .elem k, .agg ds => match ds with
    | [.row k' l, .val (.int .i64 i)] => bif Nat.beq k k' then some (.ptr n 0 [] i 0, [(n, .row true 0 k' l)]) else none
    | _ => none
  | f, d => entCell f d n

def entMany : List PF → List (DV U) → Nat → Option (List SV × List (Nat × Chunk U))
  | [], [], _ => some ([], [])
  | f :: fs, d :: ds, n => (entOne f d n).bind fun x => (entMany fs ds (n + f.cnt)).bind fun y => some (x.1 :: y.1, x.2 ++ y.2)
  | _, _, _ => none

/-- A cell that stays where it is ('a': within parts). -/
def PF.pinC (a : Bool) : PF → Bool
  | .row _ 1 => a
  | .ro _ => true
  | _ => false

def pinCs (a : Bool) : List PF → Nat → List Nat
  | [], _ => []
  | f :: fs, n => bif f.pinC a then n :: pinCs a fs (n + f.cell1) else pinCs a fs (n + f.cell1)

def PF.pins (n : Nat) : PF → List Nat
  | .row _ 1 => [n]
  | .ro _ => [n]
  | .agg fs => pinCs true fs n
  | .box _ fs => n :: pinCs false fs (n + 1)
  | .elem _ => [n]
  | _ => []

def pinIds : List PF → Nat → List Nat
  | [], _ => []
  | f :: fs, n => f.pins n ++ pinIds fs (n + f.cnt)

/-- Where a read row of an argument lies. -/
def cellId : List PF → Nat → Nat → Option Nat
  | [], _, _ => none
  | .ro _ :: _, n, 0 => some n
  | _ :: _, _, 0 => none
  | f :: fs, n, c + 1 => cellId fs (n + f.cell1) c
def PF.idAt (n : Nat) : PF → Nat → Option Nat
  | .agg fs, c => cellId fs n c
  | .box _ fs, c => cellId fs (n + 1) c
  | .ro _, 0 => some n
  | _, _ => none
def idAt : List PF → Nat → Nat → Nat → Option Nat
  | [], _, _, _ => none
  | f :: _, n, 0, c => f.idAt n c
  | f :: fs, n, j + 1, c => idAt fs (n + f.cnt) j c

def slotsOf : Nat → List SV → List (Nat × SV)
  | _, [] => []
  | i, v :: r => (i, v) :: slotsOf (i + 1) r

/- What is handed back. -/
def isRead : Chunk U → Bool
  | .row false _ _ _ => true
  | _ => false

def outCell (pf : List PF) (n : Nat) (f : RF) (v : SV) : Rd U (Lent U) :=
  match f, v with
  | .sc, .slc id ver [] => lendCell (.row 0 2) (.slc id ver [])
  | .sc, v => lendCell .sc v
  | .row k, .slc id ver (x :: p) => .chunk id fun
    | .row true _ _ _ => (rowSV k (.slc id ver (x :: p))).bind fun r => .ret ⟨.row r.1 r.2, [id], []⟩
    | _ => .fail
  | .row k, v => lendCell (.row k 2) v
  | .same j c, .slc id _ [] => match idAt pf n j c with
    | some i => bif Nat.beq id i then .chunk id fun c => bif isRead c then .ret ⟨.agg [], [], []⟩ else .fail else .fail
    | none => .fail
  | _, _ => .fail

def outCells (pf : List PF) (n : Nat) : List RF → List SV → Rd U (List (Lent U))
  | [], [] => .ret []
  | f :: fs, s :: ss => (outCell pf n f s).bind fun x => (outCells pf n fs ss).bind fun y => .ret (x :: y)
  | _, _ => .fail

def outOne (pf : List PF) (n : Nat) (f : RF) (v : SV) : Rd U (Lent U) :=
  match f, v with
  | .agg fs, .agg ss => (outCells pf n fs ss).bind fun ls => .ret ⟨.agg (ls.map (·.dv)), ls.flatMap (·.ex), []⟩
  | .box ty fs, .ptr id _ [] _ 0 => .chunk id fun
    | .box ty' cs => bif Nat.beq ty ty' then (outCells pf n fs cs).bind fun ls => .ret ⟨.agg (ls.map (·.dv)), id :: ls.flatMap (·.ex), []⟩ else .fail
    | _ => .fail
  | f, v => outCell pf n f v

def resRd (tab : Tab) (r : ResultVar) : Rd U SV :=
  match r with
  | .tmp t => .slot t .ret
  | .cell q t => .slot q fun v => match v with
    | .ptr id ver p i c => (Rd.of (tab.lay t)).bind fun L => (loadN id ver p i c L.size).bind fun cs => match L.agg, cs with
      | true, cs => .ret (.agg cs)
      | false, [s] => .ret s
      | _, _ => .fail
    | _ => .fail

def outMany (tab : Tab) (pf : List PF) (n : Nat) : List RF → List ResultVar → Rd U (List (Lent U))
  | [], [] => .ret []
  | f :: fs, r :: rs => (resRd tab r).bind fun v => (outOne pf n f v).bind fun x => (outMany tab pf n fs rs).bind fun y => .ret (x :: y)
  | _, _ => .fail

/-- A box's cell behind the run. -/
def backCell (f : PF) (n : Nat) (v : SV) : Rd U (Lent U) :=
  match f, v with
  | .sc, v => lendCell .sc v
  | .row k (m + 1), v => lendCell (.row k (m + 1)) v
  | .ro _, .slc id _ [] => bif Nat.beq id n then .chunk id fun c => bif isRead c then .ret ⟨.agg [], [], []⟩ else .fail else .fail
  | _, _ => .fail

def backCs : List PF → Nat → List SV → Rd U (List (Lent U))
  | [], _, [] => .ret []
  | f :: fs, n, s :: ss => (backCell f n s).bind fun x => (backCs fs (n + f.cell1) ss).bind fun y => .ret (x :: y)
  | _, _, _ => .fail

/-- A row that was lent for turning. -/
def turnCell (f : PF) (n : Nat) : Rd U (Lent U) :=
  match f with
  | .row k 1 => .chunk n fun
    | .row true _ k' l => bif Nat.beq k k' then .ret ⟨.row k' l, [n], []⟩ else .fail
    | _ => .fail
  | _ => .ret ⟨.agg [], [], []⟩

def turnCs : List PF → Nat → Rd U (List (Lent U))
  | [], _ => .ret []
  | f :: fs, n => (turnCell f n).bind fun x => (turnCs fs (n + f.cell1)).bind fun y => .ret (x :: y)

def backOne (f : PF) (n : Nat) : Rd U (Lent U) :=
  match f with
  | .agg fs => bif fs.any PF.turns then (turnCs fs n).bind fun ls => .ret ⟨.agg (ls.map (·.dv)), ls.flatMap (·.ex), []⟩ else .ret ⟨.agg [], [], []⟩
  | .box ty fs => .chunk n fun
    | .box ty' cs => bif Nat.beq ty ty' then (backCs fs (n + 1) cs).bind fun ls => .ret ⟨.agg (ls.map (·.dv)), n :: ls.flatMap (·.ex), []⟩ else .fail
    | _ => .fail
  | .elem k => .chunk n fun
    | .row true _ k' l => bif Nat.beq k k' then .ret ⟨.row k' l, [n], []⟩ else .fail
    | _ => .fail
  | f => turnCell f n

def backMany : List PF → Nat → Rd U (List (Lent U))
  | [], _ => .ret []
  | f :: fs, n => (backOne f n).bind fun x => (backMany fs (n + f.cnt)).bind fun y => .ret (x :: y)

def base : Nat := 4194304

def finish (tab : Tab) (pf : List PF) (rf : List RF) (res : List ResultVar) : Rd U (DV U × List (DV U)) :=
  (outMany tab pf base rf res).bind fun rs => (backMany pf base).bind fun os =>
    bif distinct (rs.flatMap (·.ex) ++ os.flatMap (·.ex)) then .ret (.agg (rs.map (·.dv)), os.map (·.dv)) else .fail

def entSt (pf : List PF) (ds : List (DV U)) : Option (St U) := (entMany pf ds base).bind fun x => some ⟨slotsOf 0 x.1, x.2⟩

/-- A function's run. -/
def runF {R : Type} (E : Env U R) (c : Code) (pf : List PF) (rf : List RF) (res : List ResultVar) (dec : DV U → List (DV U) → Option R) (ds : List (DV U)) : Option R :=
  (entSt pf ds).bind fun s => exec E c s fun e s' => match e with
    | .exit _ => none
    | _ => ((finish E.tab pf rf res).run s').bind fun x => dec x.1 x.2

structure EntOk (w : World) (us : List (Upd U)) (chs : List (Nat × Chunk U)) (n n' : Nat) (E D : List Nat) : Prop where
  map : us.map (fun u => (u.id, u.c)) = chs
  ok : ∀ u ∈ us, RepC w u.loc u.c u.F
  live : ∀ u ∈ us, (∃ o k l, u.c = .row o 0 k l) ∨ ∃ ty cs, u.c = .box ty cs
  rng : ∀ u ∈ us, n ≤ u.id ∧ u.id < n'
  le : n ≤ n'
  nd : (us.map (·.id)).Nodup
  own : (us.filter fun u => u.c.own).flatMap (·.F) = E
  rest : ∀ u ∈ us, u.c.own = false → ∀ b ∈ u.F, b ∈ D
  box : ∀ ρ' ch', Fit us ρ' ch' → ∀ u ∈ us, UBox w ρ' ch' u

section
variable {w : World}

theorem EntOk.app {us vs : List (Upd U)} {c1 c2 : List (Nat × Chunk U)} {n n1 n2 : Nat} {E1 E2 D1 D2 : List Nat} (h : EntOk w us c1 n n1 E1 D1) (h' : EntOk w vs c2 n1 n2 E2 D2) : EntOk w (us ++ vs) (c1 ++ c2) n n2 (E1 ++ E2) (D1 ++ D2) := by
  refine ⟨by rw [List.map_append, h.map, h'.map], fun u hu => (List.mem_append.1 hu).elim (h.ok u) (h'.ok u), fun u hu => (List.mem_append.1 hu).elim (h.live u) (h'.live u), fun u hu => ?_, Nat.le_trans h.le h'.le, ?_, by rw [List.filter_append, List.flatMap_append, h.own, h'.own], fun u hu ho b hb => ?_, fun ρ' ch' hf u hu => (List.mem_append.1 hu).elim (h.box ρ' ch' hf.left u) (h'.box ρ' ch' hf.right u)⟩
  · have l1 := h.le
    have l2 := h'.le
    rcases List.mem_append.1 hu with hu | hu
    · have := h.rng u hu; omega
    · have := h'.rng u hu; omega
  · rw [List.map_append, List.nodup_append]
    refine ⟨h.nd, h'.nd, fun x hx y hy e => ?_⟩
    obtain ⟨u, hu, rfl⟩ := List.mem_map.1 hx
    obtain ⟨v, hv, rfl⟩ := List.mem_map.1 hy
    have := h.rng u hu
    have := h'.rng v hv
    omega
  · rw [List.mem_append]
    rcases List.mem_append.1 hu with hu | hu
    · exact .inl (h.rest u hu ho b hb)
    · exact .inr (h'.rest u hu ho b hb)

theorem EntOk.nil (n : Nat) : EntOk (U := U) w [] [] n n [] [] := ⟨rfl, by simp, by simp, by simp, Nat.le_refl _, by simp, rfl, by simp, fun _ _ _ u hu => by simp at hu⟩

theorem entCell_ok {f : PF} {d : DV U} {n : Nat} {x : SV × List (Nat × Chunk U)} {v : Value} {E D : List Nat} (h : entCell f d n = some x) (hv : CIn w f d v E D) : ∃ us, EntOk w us x.2 n (n + f.cell1) E D ∧ (∀ ρ' ch', Fit us ρ' ch' → Mat w ρ' ch' x.1 v) ∧ (f.cell1 = 1 → ∃ u ∈ us, u.id = n ∧ u.loc = v) := by
  unfold entCell at h
  split at h
  · injection h with h; subst h
    simp only [CIn] at hv
    obtain ⟨rfl, rfl, rfl⟩ := hv
    exact ⟨[], .nil n, fun ρ' ch' _ => by simp [Mat], fun e => by simp [PF.cell1] at e⟩
  · rename_i k m k' l
    cases hk : Nat.beq k k' with
    | false => rw [hk] at h; simp at h
    | true =>
      rw [hk] at h
      have := Nat.eq_of_beq_eq_true hk
      subst this
      simp only [cond_true, Option.some.injEq] at h
      subst h
      have key : ∀ own (F : List Nat), (∃ d, RepT own d w v (.row k l) F) → (own = true → F = E ∧ D = []) → (own = false → E = [] ∧ F = D) → ∃ us : List (Upd U), EntOk w us [(n, .row own 0 k l)] n (n + PF.cell1 (.row k m)) E D ∧ (∀ ρ' ch', Fit us ρ' ch' → Mat w ρ' ch' (.slc n 0 []) v) ∧ (PF.cell1 (.row k m) = 1 → ∃ u ∈ us, u.id = n ∧ u.loc = v) := fun own F hr h1 h2 => by
        refine ⟨[⟨n, .row own 0 k l, v, F⟩], ⟨rfl, fun u hu => ?_, fun u hu => ?_, fun u hu => ?_, by simp [PF.cell1], by simp, ?_, fun u hu ho b hb => ?_, fun ρ' ch' _ u hu => ?_⟩, fun ρ' ch' hf => ?_, fun _ => ⟨_, List.mem_singleton.2 rfl, rfl, rfl⟩⟩
        · simp at hu; subst hu; exact hr
        · simp at hu; subst hu; exact .inl ⟨_, _, _, rfl⟩
        · simp at hu; subst hu; exact ⟨Nat.le_refl _, by simp [PF.cell1]⟩
        · cases own with
          | true => simp [Chunk.own, (h1 rfl).1]
          | false => simp [Chunk.own, (h2 rfl).1]
        · simp at hu; subst hu
          have ho : own = false := ho
          rw [← (h2 ho).2]; exact hb
        · simp at hu; subst hu; exact trivial
        · obtain ⟨e1, e2⟩ := hf _ (List.mem_singleton.2 rfl)
          dsimp only at e1 e2
          simp only [Mat, MatS, e1, e2]
          obtain ⟨d, hr⟩ := hr
          have : isSlice v := by
            cases d with
            | zero => exact hr.elim
            | succ d =>
              obtain ⟨cells, B, G, hR, _⟩ := hr
              obtain ⟨A, cap, e, _⟩ := hR.slice
              exact ⟨A, _, cap, e⟩
          exact ⟨this, fun _ => trivial, fun h => absurd rfl h, fun _ => rfl⟩
      cases m with
      | zero => simp only [CIn] at hv; exact key false D hv.1 (fun h => by simp at h) (fun _ => ⟨hv.2, rfl⟩)
      | succ m => simp only [CIn] at hv; exact key true E hv.1 (fun _ => ⟨rfl, hv.2⟩) (fun h => by simp at h)
  · rename_i k k' l
    cases hk : Nat.beq k k' with
    | false => rw [hk] at h; simp at h
    | true =>
      rw [hk] at h
      have := Nat.eq_of_beq_eq_true hk
      subst this
      simp only [cond_true, Option.some.injEq] at h
      subst h
      have key : ∀ own (F : List Nat), (∃ d, RepT own d w v (.row k l) F) → (own = true → F = E ∧ D = []) → (own = false → E = [] ∧ F = D) → ∃ us : List (Upd U), EntOk w us [(n, .row own 0 k l)] n (n + PF.cell1 (.ro k)) E D ∧ (∀ ρ' ch', Fit us ρ' ch' → Mat w ρ' ch' (.slc n 0 []) v) ∧ (PF.cell1 (.ro k) = 1 → ∃ u ∈ us, u.id = n ∧ u.loc = v) := fun own F hr h1 h2 => by
        refine ⟨[⟨n, .row own 0 k l, v, F⟩], ⟨rfl, fun u hu => ?_, fun u hu => ?_, fun u hu => ?_, by simp [PF.cell1], by simp, ?_, fun u hu ho b hb => ?_, fun ρ' ch' _ u hu => ?_⟩, fun ρ' ch' hf => ?_, fun _ => ⟨_, List.mem_singleton.2 rfl, rfl, rfl⟩⟩
        · simp at hu; subst hu; exact hr
        · simp at hu; subst hu; exact .inl ⟨_, _, _, rfl⟩
        · simp at hu; subst hu; exact ⟨Nat.le_refl _, by simp [PF.cell1]⟩
        · cases own with
          | true => simp [Chunk.own, (h1 rfl).1]
          | false => simp [Chunk.own, (h2 rfl).1]
        · simp at hu; subst hu
          have ho : own = false := ho
          rw [← (h2 ho).2]; exact hb
        · simp at hu; subst hu; exact trivial
        · obtain ⟨e1, e2⟩ := hf _ (List.mem_singleton.2 rfl)
          dsimp only at e1 e2
          simp only [Mat, MatS, e1, e2]
          obtain ⟨d, hr⟩ := hr
          have : isSlice v := by
            cases d with
            | zero => exact hr.elim
            | succ d =>
              obtain ⟨cells, B, G, hR, _⟩ := hr
              obtain ⟨A, cap, e, _⟩ := hR.slice
              exact ⟨A, _, cap, e⟩
          exact ⟨this, fun _ => trivial, fun h => absurd rfl h, fun _ => rfl⟩
      simp only [CIn] at hv
      exact key false D hv.1 (fun h => by simp at h) (fun _ => ⟨hv.2, rfl⟩)
  · simp at h

/-- The places of cells. -/
def PinsC (R : Nat → Value → Prop) : List PF → List Value → Nat → Prop
  | [], _, _ => True
  | f :: fs, v :: vs, n => (f.cell1 = 1 → R n v) ∧ PinsC R fs vs (n + f.cell1)
  | _ :: _, [], _ => False

theorem PinsC.imp {R R' : Nat → Value → Prop} (hi : ∀ i v, R i v → R' i v) : ∀ {fs : List PF} {vs : List Value} {n : Nat}, PinsC R fs vs n → PinsC R' fs vs n
  | [], _, _, _ => trivial
  | _ :: _, _ :: _, _, h => ⟨fun hp => hi _ _ (h.1 hp), PinsC.imp hi h.2⟩
  | _ :: _, [], _, h => h

/-- The places of a parameter. -/
def PinOne (w : World) (R : Nat → Value → Prop) (f : PF) (d : DV U) (v : Value) (n : Nat) : Prop := match f with
  | .row _ _ => R n v
  | .ro _ => R n v
  | .agg fs => ∃ vs : List Value, v = .agg vs.toArray ∧ PinsC R fs vs n
  | .box ty fs => R n v ∧ ∃ b cur, v = .pointer (some ⟨b, 0, none⟩) ∧ w.heap[b]? = some (.cells cur ty (0, 0)) ∧ PinsC R fs cur.toList (n + 1)
  | .elem k => ∃ (l : List (U.El k)) (i : Int), d = .agg [.row k l, .val (.int .i64 i)] ∧ R n (elemSlc U w k l.length v)
  | .sc => True

theorem PinOne.imp {w : World} {R R' : Nat → Value → Prop} (hi : ∀ i v, R i v → R' i v) {f : PF} {d : DV U} {v : Value} {n : Nat} (h : PinOne w R f d v n) : PinOne w R' f d v n := by
  cases f with
  | sc => trivial
  | row k m => exact hi _ _ h
  | ro k => exact hi _ _ h
  | agg fs => obtain ⟨vs, e, h⟩ := h; exact ⟨vs, e, h.imp hi⟩
  | box ty fs => obtain ⟨h1, b, cur, e1, e2, h⟩ := h; exact ⟨hi _ _ h1, b, cur, e1, e2, h.imp hi⟩
  | elem k => obtain ⟨l, i, e, h⟩ := h; exact ⟨l, i, e, hi _ _ h⟩

theorem entCells_ok : ∀ {fs : List PF} {ds : List (DV U)} {n : Nat} {x : List SV × List (Nat × Chunk U)} {vs : List Value} {E D : List Nat}, entCells fs ds n = some x → CsIn w fs ds vs E D → ∃ us, EntOk w us x.2 n (n + cntL fs) E D ∧ (∀ ρ' ch', Fit us ρ' ch' → MatL w ρ' ch' x.1 vs) ∧ PinsC (fun i v => ∃ u ∈ us, u.id = i ∧ u.loc = v) fs vs n
  | [], [], n, x, vs, E, D, h, hv => by
    simp [entCells] at h; subst h
    cases vs with
    | nil => obtain ⟨rfl, rfl⟩ := hv; exact ⟨[], .nil n, fun ρ' ch' _ => by simp [MatL], trivial⟩
    | cons _ _ => exact hv.elim
  | [], _ :: _, _, _, _, _, _, h, _ => by simp [entCells] at h
  | _ :: _, [], _, _, _, _, _, h, _ => by simp [entCells] at h
  | f :: fs, d :: ds, n, x, vs, E, D, h, hv => by
    simp only [entCells, Option.bind_eq_some_iff] at h
    obtain ⟨y, h1, z, h2, h3⟩ := h
    injection h3 with h3; subst h3
    cases vs with
    | nil => exact hv.elim
    | cons v vs =>
      obtain ⟨E1, E2, D1, D2, g1, g2, rfl, rfl⟩ := hv
      obtain ⟨us, a1, a2, a3⟩ := entCell_ok h1 g1
      obtain ⟨ws, b1, b2, b3⟩ := entCells_ok h2 g2
      rw [Nat.add_assoc] at b1
      exact ⟨us ++ ws, a1.app b1, fun ρ' ch' hf => by simp only [MatL]; exact ⟨v, vs, rfl, a2 ρ' ch' hf.left, b2 ρ' ch' hf.right⟩, fun hp => by
        obtain ⟨u, hu, h⟩ := a3 hp
        exact ⟨u, by simp [hu], h⟩, b3.imp fun i v ⟨u, hu, h⟩ => ⟨u, by simp [hu], h⟩⟩

theorem entOne_ok {f : PF} {d : DV U} {n : Nat} {x : SV × List (Nat × Chunk U)} {v : Value} {E D : List Nat} (h : entOne f d n = some x) (hv : AIn w f d v E D) : ∃ us, EntOk w us x.2 n (n + f.cnt) E D ∧ (∀ ρ' ch', Fit us ρ' ch' → Mat w ρ' ch' x.1 v) ∧ PinOne w (fun i v => ∃ u ∈ us, u.id = i ∧ u.loc = v) f d v n := by
  cases f with
  | sc =>
    have hv' : CIn w .sc d v E D := by cases d <;> exact hv
    have h' : entCell .sc d n = some x := by cases d <;> exact h
    obtain ⟨us, a1, a2, a3⟩ := entCell_ok h' hv'
    exact ⟨us, a1, a2, trivial⟩
  | row k m =>
    have hv' : CIn w (.row k m) d v E D := by cases d <;> exact hv
    have h' : entCell (.row k m) d n = some x := by cases d <;> exact h
    obtain ⟨us, a1, a2, a3⟩ := entCell_ok h' hv'
    exact ⟨us, a1, a2, a3 rfl⟩
  | ro k =>
    have hv' : CIn w (.ro k) d v E D := by cases d <;> exact hv
    have h' : entCell (.ro k) d n = some x := by cases d <;> exact h
    obtain ⟨us, a1, a2, a3⟩ := entCell_ok h' hv'
    exact ⟨us, a1, a2, a3 rfl⟩
  | agg fs =>
    cases d with
    | agg ds =>
      simp only [entOne, Option.bind_eq_some_iff] at h
      obtain ⟨y, h1, h2⟩ := h
      injection h2 with h2; subst h2
      obtain ⟨vs, rfl, hv⟩ := hv
      obtain ⟨us, a1, a2, a3⟩ := entCells_ok h1 hv
      exact ⟨us, a1, fun ρ' ch' hf => by simp only [Mat]; exact ⟨vs, rfl, a2 ρ' ch' hf⟩, vs, rfl, a3⟩
    | _ => simp [entOne, entCell] at h
  | box ty fs =>
    cases d with
    | agg ds =>
      simp only [entOne, Option.bind_eq_some_iff] at h
      obtain ⟨y, h1, h2⟩ := h
      injection h2 with h2; subst h2
      obtain ⟨b, cur, E', rfl, hb, hv, rfl⟩ := hv
      obtain ⟨us, a1, a2, a3⟩ := entCells_ok h1 hv
      refine ⟨⟨n, .box ty y.1, .pointer (some ⟨b, 0, none⟩), [b]⟩ :: us, ⟨by simp [a1.map], fun u hu => ?_, fun u hu => ?_, fun u hu => ?_, by simp [PF.cnt], ?_, ?_, fun u hu ho c hc => ?_, fun ρ' ch' hf u hu => ?_⟩, fun ρ' ch' hf => ?_, ⟨_, List.mem_cons_self .., rfl, rfl⟩, b, cur, rfl, hb, a3.imp fun i v ⟨u, hu, h⟩ => ⟨u, by simp [hu], h⟩⟩
      · rcases List.mem_cons.1 hu with rfl | hu
        · exact ⟨b, cur, rfl, hb, rfl⟩
        · exact a1.ok u hu
      · rcases List.mem_cons.1 hu with rfl | hu
        · exact .inr ⟨_, _, rfl⟩
        · exact a1.live u hu
      · rcases List.mem_cons.1 hu with rfl | hu
        · simp only [PF.cnt]; omega
        · have := a1.rng u hu; simp only [PF.cnt]; omega
      · simp only [List.map_cons, List.nodup_cons]
        refine ⟨fun hx => ?_, a1.nd⟩
        obtain ⟨u, hu, e⟩ := List.mem_map.1 hx
        have := a1.rng u hu; omega
      · rw [List.filter_cons, if_pos (by rfl), List.flatMap_cons, a1.own]; rfl
      · rcases List.mem_cons.1 hu with rfl | hu
        · simp [Chunk.own] at ho
        · exact a1.rest u hu ho c hc
      · have hf2 : Fit us ρ' ch' := fun u hu => hf u (by simp [hu])
        rcases List.mem_cons.1 hu with rfl | hu
        · exact ⟨b, cur, rfl, hb, a2 ρ' ch' hf2⟩
        · exact a1.box ρ' ch' hf2 u hu
      · obtain ⟨e1, e2⟩ := hf _ (List.mem_cons_self ..)
        dsimp only at e1 e2
        simp only [Mat, MatP, e1, e2]
        exact ⟨_, rfl, b, rfl, by simp [Addr.add]⟩
    | _ => simp [entOne, entCell] at h
  | elem k =>
    cases d with
    | agg ds =>
      obtain ⟨l, i, rfl, ⟨⟨m, hr⟩, h0, hi, b, rfl⟩, rfl⟩ := hv
      simp only [entOne, Nat.beq_refl, cond_true, Option.some.injEq] at h
      subst h
      obtain ⟨cap, hcap⟩ : ∃ cap, elemSlc U w k l.length (.pointer (some ((⟨b, 0, none⟩ : Addr).add (i.toNat * U.sz k)))) = .slice (some ⟨b, 0, none⟩) l.length cap := by
        cases m with
        | zero => exact hr.elim
        | succ m =>
          obtain ⟨cells, B, G, ⟨⟨_, hrow⟩, _⟩, _⟩ := hr
          rcases hrow with ⟨_, e⟩ | ⟨g, cap', cur, fz, e, _⟩
          · rw [e] at hi; omega
          · simp only [elemSlc, add_block] at e ⊢
            split at e
            · exact ⟨_, rfl⟩
            · cases e
      refine ⟨[⟨n, .row true 0 k l, _, E⟩], ⟨rfl, fun u hu => ?_, fun u hu => ?_, fun u hu => ?_, by simp [PF.cnt], by simp, by simp [Chunk.own], fun u hu ho b hb => ?_, fun ρ' ch' _ u hu => ?_⟩, fun ρ' ch' hf => ?_, l, i, rfl, _, List.mem_singleton.2 rfl, rfl, rfl⟩
      · simp at hu; subst hu; exact ⟨m, hr⟩
      · simp at hu; subst hu; exact .inl ⟨_, _, _, rfl⟩
      · simp at hu; subst hu; exact ⟨Nat.le_refl _, by simp [PF.cnt]⟩
      · simp at hu; subst hu; simp [Chunk.own] at ho
      · simp at hu; subst hu; exact trivial
      · obtain ⟨e1, e2⟩ := hf _ (List.mem_singleton.2 rfl)
        dsimp only at e1 e2
        simp only [Mat, MatP, e1, e2]
        exact ⟨_, rfl, fun h => absurd rfl h, fun _ => ⟨⟨k, l⟩, _, _, _, cap, ⟨rfl, rfl⟩, hcap, h0, hi, by rw [Nat.add_zero]⟩⟩
    | _ => simp [entOne, entCell] at h

/-- The places of what stays. -/
def PinsAt (w : World) (R : Nat → Value → Prop) : List PF → List (DV U) → List Value → Nat → Prop
  | [], _, _, _ => True
  | f :: fs, d :: ds, v :: vs, n => PinOne w R f d v n ∧ PinsAt w R fs ds vs (n + f.cnt)
  | _ :: _, _, _, _ => False

theorem PinsAt.imp {w : World} {R R' : Nat → Value → Prop} (hi : ∀ i v, R i v → R' i v) : ∀ {fs : List PF} {ds : List (DV U)} {vs : List Value} {n : Nat}, PinsAt w R fs ds vs n → PinsAt w R' fs ds vs n
  | [], _, _, _, _ => trivial
  | _ :: _, _ :: _, _ :: _, _, h => ⟨h.1.imp hi, PinsAt.imp hi h.2⟩
  | _ :: _, [], _, _, h => h.elim
  | _ :: _, _ :: _, [], _, h => h.elim

theorem entMany_ok : ∀ {fs : List PF} {ds : List (DV U)} {n : Nat} {x : List SV × List (Nat × Chunk U)} {vs : List Value} {E D : List Nat}, entMany fs ds n = some x → AsIn w fs ds vs E D → ∃ us n', EntOk w us x.2 n n' E D ∧ (∀ ρ' ch', Fit us ρ' ch' → MatL w ρ' ch' x.1 vs) ∧ PinsAt w (fun i v => ∃ u ∈ us, u.id = i ∧ u.loc = v) fs ds vs n
  | [], [], n, x, vs, E, D, h, hv => by
    simp [entMany] at h; subst h
    cases vs with
    | nil => obtain ⟨rfl, rfl⟩ := hv; exact ⟨[], n, .nil n, fun ρ' ch' _ => by simp [MatL], trivial⟩
    | cons _ _ => exact hv.elim
  | [], _ :: _, _, _, _, _, _, h, _ => by simp [entMany] at h
  | _ :: _, [], _, _, _, _, _, h, _ => by simp [entMany] at h
  | f :: fs, d :: ds, n, x, vs, E, D, h, hv => by
    simp only [entMany, Option.bind_eq_some_iff] at h
    obtain ⟨y, h1, z, h2, h3⟩ := h
    injection h3 with h3; subst h3
    cases vs with
    | nil => exact hv.elim
    | cons v vs =>
      obtain ⟨E1, E2, D1, D2, g1, g2, rfl, rfl⟩ := hv
      obtain ⟨us, a1, a2, a3⟩ := entOne_ok h1 g1
      obtain ⟨ws, n', b1, b2, b3⟩ := entMany_ok h2 g2
      refine ⟨us ++ ws, n', a1.app b1, fun ρ' ch' hf => by simp only [MatL]; exact ⟨v, vs, rfl, a2 ρ' ch' hf.left, b2 ρ' ch' hf.right⟩, a3.imp fun i v ⟨u, hu, h⟩ => ⟨u, by simp [hu], h⟩, b3.imp fun i v ⟨u, hu, h⟩ => ⟨u, by simp [hu], h⟩⟩

theorem find_self : ∀ {us : List (Upd U)} {u : Upd U}, (us.map (·.id)).Nodup → u ∈ us → find us u.id = some u
  | [], _, _, h => by simp at h
  | v :: us, u, hn, h => by
    simp only [List.map_cons, List.nodup_cons] at hn
    simp only [find]
    rcases List.mem_cons.1 h with rfl | h
    · rw [if_pos rfl]
    · rw [if_neg (fun e => hn.1 (by rw [e]; exact List.mem_map.2 ⟨u, h, rfl⟩))]
      exact find_self hn.2 h

theorem look_find' {us : List (Upd U)} {j : Nat} : look (Chunk.fresh (U := U)) (us.map (fun u => (u.id, u.c))) j = match find us j with | some u => u.c | none => .fresh := by
  induction us with
  | nil => rfl
  | cons u us ih =>
    simp only [List.map_cons, look_cons, find]
    by_cases e : u.id = j
    · rw [if_pos e, if_pos e]
    · rw [if_neg e, if_neg e]; exact ih

theorem repC_lt {loc : Value} {c : Chunk U} {F : List Nat} (h : RepC w loc c F) (hl : ∀ ver k l i cc, c ≠ .holed ver k l i cc) : ∀ b ∈ F, b < w.heap.size := fun b hb => by
  cases c with
  | fresh => rw [show F = [] from h] at hb; simp at hb
  | gone => rw [show F = [] from h] at hb; simp at hb
  | row own _ k l => obtain ⟨d, h⟩ := h; exact h.lt b hb
  | holed ver k l i cc => exact absurd rfl (hl ver k l i cc)
  | mp k l =>
    obtain ⟨b', es, clock, _, h2, _, rfl⟩ := h
    simp at hb; subst hb
    exact (Array.getElem?_eq_some_iff.1 h2).1
  | box ty cs =>
    obtain ⟨b', cur, _, h2, rfl⟩ := h
    simp at hb; subst hb
    rcases Nat.lt_or_ge b w.heap.size with h | h
    · exact h
    · rw [Array.getElem?_eq_none h] at h2; simp at h2

theorem slotsOf_look : ∀ {vs : List SV} {i j : Nat}, look SV.dead (slotsOf i vs) j = if i ≤ j then (vs[j - i]?).getD .dead else .dead
  | [], i, j => by simp [slotsOf, look]
  | v :: vs, i, j => by
    simp only [slotsOf, look_cons]
    by_cases e : i = j
    · subst e; simp
    · rw [if_neg e, slotsOf_look]
      by_cases h : i + 1 ≤ j
      · rw [if_pos h, if_pos (by omega), show j - i = (j - (i + 1)) + 1 by omega, List.getElem?_cons_succ]
      · rw [if_neg h, if_neg (by omega)]

end

variable {P : Program} {tab : Tab} {sig : Sig} {CR : FuncId → List (DV U) → DV U → List (DV U) → Prop} {w : World}

def ownOf (E : List Nat) (us : List (Upd U)) (pl : List Nat) : Own := ⟨E, fun i => bif pl.any (Nat.beq i) then (find us i).map (·.loc) else none⟩

theorem entry_sat {pf : List PF} {ds : List (DV U)} {st : St U} {vals : List Value} {E D : List Nat} (h : entSt pf ds = some st) (hv : AsIn w pf ds vals E D) (hE : E.Nodup) (hD : ∀ b ∈ E, b ∉ D) (hDr : DoorOk w E) {N : Nat} (hN : vals.length ≤ N) :
    ∃ M : Own, M.bs = E ∧ Pinned M (pinIds pf base) ∧ PinsAt w (fun i v => i ∈ pinIds pf base → M.pins i = some v) pf ds vals base ∧ SatE w M N st { tmps := vals.toArray ++ Array.replicate (N - vals.toArray.size) undef, defers := [] } w := by
  unfold entSt at h
  simp only [Option.bind_eq_some_iff, Option.some.injEq] at h
  obtain ⟨x, h1, rfl⟩ := h
  obtain ⟨us, n', hok, hmat, hpin⟩ := entMany_ok h1 hv
  let ρ : Nat → Value := fun i => match find us i with | some u => u.loc | none => undef
  let F : Nat → List Nat := fun i => match find us i with | some u => u.F | none => []
  have hch : ∀ i, St.chunk (U := U) ⟨slotsOf 0 x.1, x.2⟩ i = match find us i with | some u => u.c | none => .fresh := fun i => by
    show look .fresh x.2 i = _
    rw [← hok.map]; exact look_find'
  have hfit : Fit us ρ (St.chunk ⟨slotsOf 0 x.1, x.2⟩) := fun u hu => by
    have := find_self hok.nd hu
    exact ⟨by rw [hch, this], by show (match find us u.id with | some u => u.loc | none => undef) = _; rw [this]⟩
  have hE' : ((us.filter fun u => u.c.own).flatMap (·.F)).Nodup := by rw [hok.own]; exact hE
  have hp' : PinsAt w (fun i v => i ∈ pinIds pf base → (ownOf E us (pinIds pf base)).pins i = some v) pf ds vals base := hpin.imp fun i v ⟨u, hu, e1, e2⟩ h3 => by
    subst e1 e2
    simp only [ownOf]
    rw [List.any_eq_true.2 ⟨_, h3, Nat.beq_refl _⟩, find_self hok.nd hu]; rfl
  refine ⟨ownOf E us (pinIds pf base), rfl, fun i v hv => ?_, hp', ρ, F, ?_, rfl, fun i => ?_, fun i => ?_, fun i ty cs hc => ?_, fun i j hij ho b hb hb' => ?_, fun i ho b hb => ?_, fun i b hb => ?_, ⟨rfl, rfl, rfl, Nat.le_refl _, fun b _ _ => rfl⟩, hDr, fun i v hv => ?_⟩
  · simp only [ownOf] at hv
    cases e : (pinIds pf base).any (Nat.beq i) with
    | false => rw [e] at hv; simp at hv
    | true =>
      obtain ⟨j, hj, e⟩ := List.any_eq_true.1 e
      have := Nat.eq_of_beq_eq_true e
      subst this; exact hj
  · simp; omega
  · show Mat w ρ _ (look .dead (slotsOf 0 x.1) i) _
    rw [slotsOf_look, if_pos (Nat.zero_le _), Nat.sub_zero]
    cases e : x.1[i]? with
    | none => simp [Mat]
    | some sv =>
      simp only [Option.getD_some]
      obtain ⟨v, g1, g2⟩ := MatL.get (hmat ρ _ hfit) e
      have hlt : i < vals.length := (List.getElem?_eq_some_iff.1 g1).1
      rw [Array.getD_eq_getD_getElem?, Array.getElem?_append_left (by simpa using hlt), List.getElem?_toArray, g1]
      exact g2
  · rw [hch]
    show RepC w (match find us i with | some u => u.loc | none => undef) _ (match find us i with | some u => u.F | none => [])
    cases e : find us i with
    | none => rfl
    | some u => exact hok.ok u (find_mem e).1
  · rw [hch] at hc
    cases e : find us i with
    | none => rw [e] at hc; simp at hc
    | some u =>
      rw [e] at hc
      dsimp only at hc
      have := hok.box ρ _ hfit u (find_mem e).1
      unfold UBox at this
      rw [hc] at this
      obtain ⟨b, cur, g1, g2, g3⟩ := this
      refine ⟨b, cur, ?_, g2, g3⟩
      show (match find us i with | some u => u.loc | none => undef) = _
      rw [e]; exact g1
  · rw [hch] at ho
    change b ∈ (match find us i with | some u => u.F | none => []) at hb
    change b ∈ (match find us j with | some u => u.F | none => []) at hb'
    cases e : find us i with
    | none => rw [e] at hb; simp at hb
    | some u =>
      cases e' : find us j with
      | none => rw [e'] at hb'; simp at hb'
      | some v =>
        rw [e] at hb ho; rw [e'] at hb'
        dsimp only at hb hb' ho
        obtain ⟨m1, i1⟩ := find_mem e
        obtain ⟨m2, i2⟩ := find_mem e'
        have hu : u ∈ us.filter fun u => u.c.own := List.mem_filter.2 ⟨m1, ho⟩
        cases ho' : v.c.own with
        | true => exact flat_disj hE' hu (List.mem_filter.2 ⟨m2, ho'⟩) (by rw [i1, i2]; exact hij) b hb hb'
        | false => exact hD b (by rw [← hok.own]; exact List.mem_flatMap.2 ⟨u, hu, hb⟩) (hok.rest v m2 ho' b hb')
  · rw [hch] at ho
    change b ∈ (match find us i with | some u => u.F | none => []) at hb
    cases e : find us i with
    | none => rw [e] at hb; simp at hb
    | some u =>
      rw [e] at hb ho
      exact .inl (by show b ∈ E; rw [← hok.own]; exact List.mem_flatMap.2 ⟨u, List.mem_filter.2 ⟨(find_mem e).1, ho⟩, hb⟩)
  · change b ∈ (match find us i with | some u => u.F | none => []) at hb
    cases e : find us i with
    | none => rw [e] at hb; simp at hb
    | some u =>
      rw [e] at hb
      refine repC_lt (hok.ok u (find_mem e).1) (fun ver k l i cc hc => ?_) b hb
      rcases hok.live u (find_mem e).1 with ⟨_, _, _, h⟩ | ⟨_, _, h⟩ <;> rw [h] at hc <;> simp at hc
  · simp only [ownOf] at hv
    cases e : (pinIds pf base).any (Nat.beq i) with
    | false => rw [e] at hv; simp at hv
    | true =>
      rw [e] at hv
      simp only [cond_true, Option.map_eq_some_iff] at hv
      obtain ⟨u, hu, rfl⟩ := hv
      refine ⟨?_, ?_⟩
      · show (match find us i with | some u => u.loc | none => undef) = _
        rw [hu]
      · rw [hch, hu]
        rcases hok.live u (find_mem hu).1 with ⟨_, _, _, h⟩ | ⟨_, _, h⟩ <;> simp [h]

end
end Go.Proofs.YtchohkelpjfpcaaDoor.AX

/- Functions: what is handed back. No conditions. -/
namespace Go.Proofs.YtchohkelpjfpcaaDoor.AX
open Go Go.RowKit

section
variable {U : Uni} {P : Program} {tab : Tab} {sig : Sig} {CR : FuncId → List (DV U) → DV U → List (DV U) → Prop} {w0 : World} {M : Own} {N : Nat} {s : St U} {a : Act} {w : World} {ρ : Nat → Value} {F : Nat → List Nat}

theorem mat_root {id ver : Nat} {v : Value} (h : Mat w ρ s.chunk (.slc id ver []) v) (hr : isRead (s.chunk id) = true) : v = ρ id := by
  simp only [Mat, MatS] at h
  cases ec : s.chunk id with
  | row own cv k l => rw [ec] at h; exact h.2.1 trivial
  | _ => rw [ec] at hr; simp [isRead] at hr

/-- What arguments have, where it lies. -/
def ArgPin (M : Own) (A : Nat → Nat → Option Value) (pf : List PF) (n : Nat) : Prop := ∀ j c i, idAt pf n j c = some i → ∃ v, A j c = some v ∧ M.pins i = some v

/-- Some of these, each once if they are. -/
def Sb (G H : List Nat) : Prop := (∀ b ∈ G, b ∈ H) ∧ (H.Nodup → G.Nodup)
theorem Sb.refl (G : List Nat) : Sb G G := ⟨fun _ h => h, fun h => h⟩
theorem Sb.app {G H G' H' : List Nat} (h : Sb G H) (h' : Sb G' H') : Sb (G ++ G') (H ++ H') := by
  refine ⟨fun b hb => ?_, fun hn => ?_⟩
  · rcases List.mem_append.1 hb with q | q
    · exact List.mem_append.2 (.inl (h.1 b q))
    · exact List.mem_append.2 (.inr (h'.1 b q))
  · rw [List.nodup_append] at hn ⊢
    exact ⟨h.2 hn.1, h'.2 hn.2.1, fun x hx y hy => hn.2.2 x (h.1 x hx) y (h'.1 y hy)⟩

theorem outCell_ok (hu : UniOk U) (hS : Sat w0 M N s.slot s.chunk ρ F a w) {pf : List PF} {n : Nat} {A : Nat → Nat → Option Value} (hA : ArgPin M A pf n) {f : RF} {x : SV} {v : Value} {l : Lent U} (h : (outCell (U := U) pf n f x).run s = some l) (hm : Mat w ρ s.chunk x v) : ∃ G, VCell A w f l.dv v G ∧ Sb G (l.ex.flatMap F) ∧ Mine s l.ex := by
  unfold outCell at h
  split at h
  · obtain ⟨⟨D, a1, _⟩, a2, _, _⟩ := lendCell_ok hu hS h hm
    exact ⟨_, by cases e : l.dv <;> rw [e] at a1 <;> first | exact a1.elim | exact a1.1, .refl _, a2⟩
  · obtain ⟨⟨D, a1, _⟩, a2, _, _⟩ := lendCell_ok hu hS h hm
    exact ⟨_, by cases e : l.dv <;> rw [e] at a1 <;> first | exact a1.elim | exact ⟨a1.1, a1.2.1⟩, .refl _, a2⟩
  · rename_i k id ver x p
    simp only [Rd.run] at h
    split at h
    · rename_i cv k' l' ec
      have hq := Rd.run_bind h; clear h; obtain ⟨r, h1, h⟩ := hq
      simp [Rd.run] at h; subst h
      simp only [rowSV] at h1
      obtain ⟨own, cv2, k2, l2, ec2, hf, hv⟩ := getRow_inv h1
      rw [ec] at ec2
      have hrep := hS.rep id
      rw [ec] at hrep
      obtain ⟨d, hrep⟩ := hrep
      simp only [Mat, MatS, ec] at hm
      injection ec2 with e1 e2 e3 e4
      subst e1 e2 e3
      have e4 := eq_of_heq e4
      subst e4
      have hfol : Fol w (ρ id) (⟨k', l'⟩ : Row U) (x :: p) v := by
        rcases hv with hv | hv
        · simp at hv
        · exact hm.2.2.2 hv
      obtain ⟨r1, d', F1, g1, g2, g3⟩ := hfol.rep hu hrep
      rw [hf] at g1; injection g1 with g1; subst g1
      refine ⟨F1, ⟨d', g2⟩, ⟨fun b hb => by simpa using g3 b hb, fun _ => g2.nodup⟩, fun i hi => by simp at hi; subst hi; exact ⟨_, _, _, ec⟩⟩
    · simp [Rd.run] at h
  · obtain ⟨⟨D, a1, _⟩, a2, _, _⟩ := lendCell_ok hu hS h hm
    exact ⟨_, by cases e : l.dv <;> rw [e] at a1 <;> first | exact a1.elim | exact a1.1, .refl _, a2⟩
  · rename_i j c id ver
    cases hi : idAt pf n j c with
    | none => rw [hi] at h; simp [Rd.run] at h
    | some i =>
      rw [hi] at h
      dsimp only at h
      cases hb : Nat.beq id i with
      | false => rw [hb] at h; simp [Rd.run] at h
      | true =>
        rw [hb] at h
        simp only [cond_true, Rd.run] at h
        have := Nat.eq_of_beq_eq_true hb
        subst this
        cases hr : isRead (s.chunk id) with
        | false => rw [hr] at h; simp [Rd.run] at h
        | true =>
          rw [hr] at h
          simp [Rd.run] at h; subst h
          obtain ⟨u, h1, h2⟩ := hA _ _ _ hi
          have := mat_root hm hr
          rw [(hS.pin _ _ h2).1] at this
          subst this
          exact ⟨_, ⟨h1, rfl⟩, .refl _, fun i hi => by simp at hi⟩
  · simp [Rd.run] at h

theorem outCells_ok (hu : UniOk U) (hS : Sat w0 M N s.slot s.chunk ρ F a w) {pf : List PF} {n : Nat} {A : Nat → Nat → Option Value} (hA : ArgPin M A pf n) : ∀ {fs : List RF} {xs : List SV} {vs : List Value} {ls : List (Lent U)}, (outCells (U := U) pf n fs xs).run s = some ls → MatL w ρ s.chunk xs vs → ∃ G, VCells A w fs (ls.map (·.dv)) vs G ∧ Sb G ((ls.flatMap (·.ex)).flatMap F) ∧ Mine s (ls.flatMap (·.ex))
  | [], [], vs, ls, h, hm => by
    simp [outCells, Rd.run] at h; subst h
    simp only [MatL] at hm; subst hm
    exact ⟨[], rfl, .refl _, fun i hi => by simp at hi⟩
  | [], _ :: _, _, _, h, _ => by simp [outCells, Rd.run] at h
  | _ :: _, [], _, _, h, _ => by simp [outCells, Rd.run] at h
  | f :: fs, x :: xs, vs, ls, h, hm => by
    simp only [outCells] at h
    have hq := Rd.run_bind h; clear h; obtain ⟨l, h1, h⟩ := hq
    have hq := Rd.run_bind h; clear h; obtain ⟨r, h2, h⟩ := hq
    simp [Rd.run] at h; subst h
    simp only [MatL] at hm
    obtain ⟨v, vr, rfl, g1, g2⟩ := hm
    obtain ⟨G1, a1, a3, a2⟩ := outCell_ok hu hS hA h1 g1
    obtain ⟨G2, b1, b3, b2⟩ := outCells_ok hu hS hA h2 g2
    exact ⟨_, ⟨_, _, a1, b1, rfl⟩, by simp only [List.flatMap_cons, List.flatMap_append]; exact a3.app b3, by simp only [List.flatMap_cons]; exact a2.append b2⟩

theorem outOne_ok (hu : UniOk U) (hS : Sat w0 M N s.slot s.chunk ρ F a w) {pf : List PF} {n : Nat} {A : Nat → Nat → Option Value} (hA : ArgPin M A pf n) {f : RF} {x : SV} {v : Value} {l : Lent U} (h : (outOne (U := U) pf n f x).run s = some l) (hm : Mat w ρ s.chunk x v) : ∃ G, ROne A w f l.dv v G ∧ Sb G (l.ex.flatMap F) ∧ OwnAll s l.ex := by
  unfold outOne at h
  split at h
  · rename_i fs ss
    have hq := Rd.run_bind h; clear h; obtain ⟨ls, h1, h⟩ := hq
    simp [Rd.run] at h; subst h
    simp only [Mat] at hm
    obtain ⟨vs, rfl, hm⟩ := hm
    obtain ⟨G, a1, a3, a2⟩ := outCells_ok hu hS hA h1 hm
    exact ⟨G, ⟨vs, rfl, a1⟩, a3, mine_own a2⟩
  · rename_i ty fs id ver i
    simp only [Rd.run] at h
    cases ec : s.chunk id with
    | box ty' cs =>
      rw [ec] at h
      dsimp only at h
      cases hb : Nat.beq ty ty' with
      | false => rw [hb] at h; simp [Rd.run] at h
      | true =>
        rw [hb] at h
        have := Nat.eq_of_beq_eq_true hb
        subst this
        simp only [cond_true] at h
        have hq := Rd.run_bind h; clear h; obtain ⟨ls, h1, h⟩ := hq
        simp [Rd.run] at h; subst h
        obtain ⟨b, cur, g1, g2, g3⟩ := hS.box id ty cs ec
        simp only [Mat, MatP, ec] at hm
        obtain ⟨A', rfl, b', e1, e2⟩ := hm
        rw [g1] at e1
        simp only [Value.pointer.injEq, Option.some.injEq, Addr.mk.injEq, and_true] at e1
        subst e1 e2
        obtain ⟨G, a1, a3, a2⟩ := outCells_ok hu hS hA h1 g3
        have hrep := hS.rep id
        rw [ec] at hrep
        obtain ⟨b2, _, k1, _, k2⟩ := hrep
        rw [g1] at k1
        simp only [Value.pointer.injEq, Option.some.injEq, Addr.mk.injEq, and_true] at k1
        subst k1
        refine ⟨b :: G, ⟨b, cur, _, by simp [Addr.add], g2, a1, rfl⟩, by simp only [List.flatMap_cons, k2]; exact (Sb.refl [b]).app a3, fun i hi => ?_⟩
        rcases List.mem_cons.1 hi with rfl | hi
        · rw [ec]; rfl
        · exact mine_own a2 i hi
    | _ => rw [ec] at h; simp [Rd.run] at h
  · rename_i n1 n2
    obtain ⟨G, a1, a3, a2⟩ := outCell_ok hu hS hA h hm
    refine ⟨G, ?_, a3, mine_own a2⟩
    cases f with
    | agg fs => simp [outCell, Rd.run] at h
    | box ty fs => simp [outCell, Rd.run] at h
    | _ => exact a1

def resM (a : Act) : ResultVar → Sem Value
  | .tmp t => pure (a.tmps.getD t undef)
  | .cell q t => do loadVar t (← asAddr (a.tmps.getD q undef))

def RunAll (P : Program) (w : World) (a : Act) : List ResultVar → List Value → Prop
  | [], [] => True
  | r :: rs, v :: vs => (resM a r).run P w = .ok v w ∧ RunAll P w a rs vs
  | _, _ => False

theorem resRd_ok (hT : TabOk P U tab) (hu : UniOk U) (hS : Sat w0 M N s.slot s.chunk ρ F a w) {r : ResultVar} {sv : SV} (h : (resRd (U := U) tab r).run s = some sv) : ∃ v, (resM a r).run P w = .ok v w ∧ Mat w ρ s.chunk sv v := by
  cases r with
  | tmp t =>
    simp [resRd, Rd.run] at h; subst h
    exact ⟨_, rfl, hS.slots t⟩
  | cell q t =>
    simp only [resRd, Rd.run] at h
    have hm := hS.slots q
    split at h
    · rename_i id ver p i c e
      rw [e] at hm
      have hq := Rd.run_bind h; clear h; obtain ⟨L, h2, h⟩ := hq
      replace h2 := Rd.run_of h2
      have hq := Rd.run_bind h; clear h; obtain ⟨cs, h3, h⟩ := hq
      obtain ⟨A, vs, hA, hl, hc, hM⟩ := loadN_ok hu hS h3 hm
      obtain ⟨inf, z, d, hin, hsz, _, _, hun, hag⟩ := hT.lay t L h2
      split at h
      · rename_i cs' hL
        simp [Rd.run] at h; subst h
        refine ⟨.agg vs.toArray, ?_, by simp only [Mat]; exact ⟨vs, rfl, hM⟩⟩
        have hload := run_loadCells_list (P := P) w A vs (fun j u hj => hc j u hj)
        have : (loadVar t A).run P w = .ok (.agg vs.toArray) w := by
          simp [loadVar, run_isAgg hun, hag, hL, sizeOf, typeInfo, hin, hsz, ← hl, hload]
        simp only [resM, hA, Sem.run_bind, asAddr, Sem.run_pure, Result.andThen_ok, this]
      · rename_i s0 hL
        simp [Rd.run] at h; subst h
        simp only [MatL] at hM
        obtain ⟨u, r, rfl, hM, hr2⟩ := hM
        subst hr2
        refine ⟨u, ?_, hM⟩
        have hcu := hc 0 u rfl
        have hadd : A.add 0 = A := by simp [Addr.add]
        rw [hadd] at hcu
        have : (loadVar t A).run P w = .ok u w := by
          simp [loadVar, run_isAgg hun, hag, hL, hcu]
        simp only [resM, hA, Sem.run_bind, asAddr, Sem.run_pure, Result.andThen_ok, this]
      · simp [Rd.run] at h
    · simp [Rd.run] at h

theorem outMany_ok (hT : TabOk P U tab) (hu : UniOk U) (hS : Sat w0 M N s.slot s.chunk ρ F a w) {pf : List PF} {n : Nat} {A : Nat → Nat → Option Value} (hA : ArgPin M A pf n) : ∀ {fs : List RF} {rs : List ResultVar} {ls : List (Lent U)}, (outMany (U := U) tab pf n fs rs).run s = some ls → ∃ vs G, RMany A w fs (ls.map (·.dv)) vs G ∧ Sb G ((ls.flatMap (·.ex)).flatMap F) ∧ OwnAll s (ls.flatMap (·.ex)) ∧ RunAll P w a rs vs
  | [], [], ls, h => by simp [outMany, Rd.run] at h; subst h; exact ⟨[], [], rfl, .refl _, fun i hi => by simp at hi, trivial⟩
  | [], _ :: _, ls, h => by simp [outMany, Rd.run] at h
  | _ :: _, [], ls, h => by simp [outMany, Rd.run] at h
  | f :: fs, r :: rs, ls, h => by
    simp only [outMany] at h
    have hq := Rd.run_bind h; clear h; obtain ⟨sv, h0, h⟩ := hq
    have hq := Rd.run_bind h; clear h; obtain ⟨l, h1, h⟩ := hq
    have hq := Rd.run_bind h; clear h; obtain ⟨r', h2, h⟩ := hq
    simp [Rd.run] at h; subst h
    obtain ⟨v, c1, c2⟩ := resRd_ok hT hu hS h0
    obtain ⟨G1, a1, a3, a2⟩ := outOne_ok hu hS hA h1 c2
    obtain ⟨vs, G2, b1, b4, b2, b3⟩ := outMany_ok hT hu hS hA h2
    exact ⟨v :: vs, _, ⟨_, _, a1, b1, rfl⟩, by simp only [List.flatMap_cons, List.flatMap_append]; exact a3.app b4, by simp only [List.flatMap_cons]; exact a2.app b2, c1, b3⟩

theorem run_results {fn : Func} {rs : List ResultVar} {vs : List Value} (h : fn.results.toList = rs) (ht : RunAll P w a rs vs) : (results fn a.tmps).run P w = .ok (tupV vs) w := by
  have hm : ∀ (g : ResultVar → Sem Value), (∀ r, g r = resM a r) → ∀ {rs : List ResultVar} {vs : List Value}, RunAll P w a rs vs → (rs.mapM g).run P w = .ok vs w := by
    intro g hg rs
    induction rs with
    | nil => intro vs ht; cases vs with
      | nil => rfl
      | cons _ _ => exact ht.elim
    | cons x rs ih =>
      intro vs ht
      cases vs with
      | nil => exact ht.elim
      | cons v vs =>
        rw [List.mapM_cons, hg]
        simp only [Sem.run_bind, ht.1, Result.andThen_ok, ih ht.2]
        rfl
  have hres : fn.results = rs.toArray := by rw [← h]
  unfold results
  rw [hres, List.mapM_toArray, Sem.run_bind, ← bind_pure_comp, Sem.run_bind, hm _ (fun r => by cases r <;> rfl) ht]
  simp only [Result.andThen_ok]
  cases vs with
  | nil => rfl
  | cons x rs => cases rs <;> rfl

theorem distinct_own {ids : List Nat} (hS : Sat w0 M N s.slot s.chunk ρ F a w) (hd : distinct ids = true) (ho : OwnAll s ids) : (ids.flatMap F).Nodup := by
  refine flat_nodup (distinct_nodup hd) (fun i hi => ?_) (fun i hi j hj hij => hS.disj i j hij (ho i hi))
  have ho := ho i hi
  have hrep := hS.rep i
  cases ec : s.chunk i with
  | row own v k l =>
    rw [ec] at hrep ho
    cases own with
    | true => obtain ⟨d, hrep⟩ := hrep; exact hrep.nodup
    | false => simp [Chunk.own] at ho
  | holed => rw [ec] at hrep; obtain ⟨_, _, _, _, d, _, _, _, _, _, _, hn⟩ := hrep; exact hn
  | box => rw [ec] at hrep; obtain ⟨b, _, _, _, e⟩ := hrep; rw [e]; simp
  | fresh => rw [ec] at ho; simp [Chunk.own] at ho
  | gone => rw [ec] at ho; simp [Chunk.own] at ho
  | mp => rw [ec] at hrep; obtain ⟨b, _, _, _, _, _, e⟩ := hrep; rw [e]; simp

theorem rep_len {own : Bool} {d k : Nat} {l : List (U.El k)} {v : Value} {G : List Nat} (h : RepT own d w v (.row k l) G) : ∃ A cap, v = .slice A l.length cap := by
  cases d with
  | zero => exact h.elim
  | succ d =>
    obtain ⟨cells, B, G, hR, _⟩ := h
    obtain ⟨A, cap, e, _⟩ := hR.slice
    exact ⟨A, cap, e⟩

/-- Pins of a parameter. -/
def PinV (M : Own) (w0 : World) (ids : List Nat) (f : PF) (d : DV U) (v : Value) (n : Nat) : Prop := PinOne w0 (fun i v => i ∈ ids → M.pins i = some v) f d v n

theorem turnCell_ok (hS : Sat w0 M N s.slot s.chunk ρ F a w) {f : PF} {n : Nat} {l : Lent U} (h : (turnCell (U := U) f n).run s = some l) {d : DV U} {v : Value} {E D : List Nat} (hin : CIn w0 f d v E D) {x : SV × List (Nat × Chunk U)} (he : entCell f d n = some x)
    (hp : f.turns = true → M.pins n = some v) : TOut w f d l.dv v (l.ex.flatMap F) ∧ OwnAll s l.ex := by
  have other : (∀ k, f ≠ .row k 1) → TOut w f d l.dv v (l.ex.flatMap F) ∧ OwnAll s l.ex := fun hf => by
    have h' : (Rd.ret (⟨.agg [], [], []⟩ : Lent U)).run s = some l := by
      unfold turnCell at h
      split at h
      · exact absurd rfl (hf _)
      · exact h
    simp [Rd.run] at h'; subst h'
    refine ⟨?_, fun i hi => by simp at hi⟩
    unfold TOut
    split
    · exact absurd rfl (hf _)
    · exact absurd rfl (hf _)
    · rfl
  cases f with
  | row k m =>
    by_cases hm : m = 1
    · subst hm
      obtain ⟨hρ, _⟩ := hS.pin n v (hp rfl)
      simp only [turnCell, Rd.run] at h
      cases ec : s.chunk n with
      | row own ver k' l' =>
        rw [ec] at h
        cases own with
        | false => simp [Rd.run] at h
        | true =>
          dsimp only at h
          cases hb : Nat.beq k k' with
          | false => rw [hb] at h; simp [Rd.run] at h
          | true =>
            rw [hb] at h
            have := Nat.eq_of_beq_eq_true hb
            subst this
            simp [Rd.run] at h; subst h
            have hrep := hS.rep n
            rw [ec, hρ] at hrep
            refine ⟨?_, fun i hi => by simp at hi; subst hi; rw [ec]; rfl⟩
            cases d with
            | row k0 l0 =>
              obtain ⟨⟨m0, hin⟩, _⟩ := hin
              obtain ⟨A, cap, e1⟩ := rep_len hin
              obtain ⟨d', hrep'⟩ := hrep
              obtain ⟨A', cap', e2⟩ := rep_len hrep'
              rw [e1] at e2
              simp only [Value.slice.injEq] at e2
              simp only [entCell] at he
              cases hk : Nat.beq k k0 with
              | false => rw [hk] at he; simp at he
              | true =>
                have := Nat.eq_of_beq_eq_true hk
                subst this
                simp only [TOut]
                refine ⟨⟨d', by simpa using hrep'⟩, ?_⟩
                simpa using e2.2.1.symm
            | _ => exact hin.elim
      | _ => rw [ec] at h; simp [Rd.run] at h
    · exact other fun k' e => by injection e with _ e; exact hm e
  | _ => exact other fun k' e => by cases e

theorem turnCs_ok (hS : Sat w0 M N s.slot s.chunk ρ F a w) : ∀ {fs : List PF} {n : Nat} {ls : List (Lent U)}, (turnCs (U := U) fs n).run s = some ls → ∀ {ds : List (DV U)} {vs : List Value} {E D : List Nat}, CsIn w0 fs ds vs E D → ∀ {x : List SV × List (Nat × Chunk U)}, entCells fs ds n = some x →
    ∀ {ids : List Nat}, PinsC (fun i v => i ∈ ids → M.pins i = some v) fs vs n → (∀ i ∈ pinCs true fs n, i ∈ ids) → TsOut w fs ds (ls.map (·.dv)) vs ((ls.flatMap (·.ex)).flatMap F) ∧ OwnAll s (ls.flatMap (·.ex))
  | [], n, ls, h, ds, vs, E, D, hin, x, he, ids, hp, hi => by
    simp [turnCs, Rd.run] at h; subst h
    cases ds <;> cases vs <;> first | exact hin.elim | exact ⟨rfl, fun i hi => by simp at hi⟩
  | f :: fs, n, ls, h, [], vs, E, D, hin, x, he, ids, hp, hi => hin.elim
  | f :: fs, n, ls, h, _ :: _, [], E, D, hin, x, he, ids, hp, hi => hin.elim
  | f :: fs, n, ls, h, d :: ds, v :: vs, E, D, hin, x, he, ids, hp, hi => by
    simp only [turnCs] at h
    have hq := Rd.run_bind h; clear h; obtain ⟨l, h1, h⟩ := hq
    have hq := Rd.run_bind h; clear h; obtain ⟨r, h2, h⟩ := hq
    simp [Rd.run] at h; subst h
    obtain ⟨E1, E2, D1, D2, g1, g2, rfl, rfl⟩ := hin
    simp only [entCells, Option.bind_eq_some_iff] at he
    obtain ⟨y, he1, z, he2, _⟩ := he
    obtain ⟨a1, a2⟩ := turnCell_ok hS h1 g1 he1 fun ht => by
      refine hp.1 ?_ (hi n ?_)
      · cases f <;> simp [PF.turns] at ht ⊢ <;> rfl
      · have : f.pinC true = true := by
          unfold PF.turns at ht
          split at ht
          · rfl
          · simp at ht
        simp [pinCs, this]
    obtain ⟨b1, b2⟩ := turnCs_ok hS h2 g2 he2 hp.2 fun i hx => hi i (by
      simp only [pinCs]
      cases f.pinC true with
      | true => exact List.mem_cons_of_mem _ hx
      | false => exact hx)
    exact ⟨⟨_, _, a1, b1, by simp⟩, by simp only [List.flatMap_cons]; exact a2.app b2⟩

theorem backCell_ok (hu : UniOk U) (hS : Sat w0 M N s.slot s.chunk ρ F a w) {f : PF} {n : Nat} {x : SV} {l : Lent U} (h : (backCell (U := U) f n x).run s = some l) {u v : Value} (hm : Mat w ρ s.chunk x v) (hp : (∃ k, f = .ro k) → M.pins n = some u) : COut w f l.dv u v (l.ex.flatMap F) ∧ Mine s l.ex := by
  unfold backCell at h
  split at h
  · obtain ⟨⟨D, a1, _⟩, a2, _, _⟩ := lendCell_ok hu hS h hm
    exact ⟨by cases e : l.dv <;> rw [e] at a1 <;> first | exact a1.elim | exact ⟨a1.1, a1.2.1⟩, a2⟩
  · obtain ⟨⟨D, a1, _⟩, a2, _, _⟩ := lendCell_ok hu hS h hm
    exact ⟨by cases e : l.dv <;> rw [e] at a1 <;> first | exact a1.elim | exact a1.1, a2⟩
  · rename_i k id ver
    cases hb : Nat.beq id n with
    | false => rw [hb] at h; simp [Rd.run] at h
    | true =>
      rw [hb] at h
      simp only [cond_true, Rd.run] at h
      have := Nat.eq_of_beq_eq_true hb
      subst this
      cases hr : isRead (s.chunk id) with
      | false => rw [hr] at h; simp [Rd.run] at h
      | true =>
        rw [hr] at h
        simp [Rd.run] at h; subst h
        have := mat_root hm hr
        rw [(hS.pin _ _ (hp ⟨k, rfl⟩)).1] at this
        subst this
        exact ⟨⟨rfl, rfl⟩, fun i hi => by simp at hi⟩
  · simp [Rd.run] at h

theorem backCs_ok (hu : UniOk U) (hS : Sat w0 M N s.slot s.chunk ρ F a w) : ∀ {fs : List PF} {n : Nat} {xs : List SV} {ls : List (Lent U)}, (backCs (U := U) fs n xs).run s = some ls → ∀ {us vs : List Value}, MatL w ρ s.chunk xs vs → us.length = fs.length →
    ∀ {ids : List Nat}, PinsC (fun i v => i ∈ ids → M.pins i = some v) fs us n → (∀ i ∈ pinCs false fs n, i ∈ ids) → CsOut w fs (ls.map (·.dv)) us vs ((ls.flatMap (·.ex)).flatMap F) ∧ Mine s (ls.flatMap (·.ex))
  | [], n, [], ls, h, us, vs, hm, hl, ids, hp, hi => by
    simp [backCs, Rd.run] at h; subst h
    simp only [MatL] at hm; subst hm
    cases us with
    | nil => exact ⟨rfl, fun i hi => by simp at hi⟩
    | cons _ _ => simp at hl
  | [], n, _ :: _, ls, h, us, vs, hm, hl, ids, hp, hi => by simp [backCs, Rd.run] at h
  | _ :: _, n, [], ls, h, us, vs, hm, hl, ids, hp, hi => by simp [backCs, Rd.run] at h
  | f :: fs, n, x :: xs, ls, h, [], vs, hm, hl, ids, hp, hi => by simp at hl
  | f :: fs, n, x :: xs, ls, h, u :: us, vs, hm, hl, ids, hp, hi => by
    simp only [backCs] at h
    have hq := Rd.run_bind h; clear h; obtain ⟨l, h1, h⟩ := hq
    have hq := Rd.run_bind h; clear h; obtain ⟨r, h2, h⟩ := hq
    simp [Rd.run] at h; subst h
    simp only [MatL] at hm
    obtain ⟨v, vr, rfl, g1, g2⟩ := hm
    obtain ⟨a1, a2⟩ := backCell_ok hu hS h1 (u := u) g1 fun ⟨k, hk⟩ => by
      subst hk
      exact hp.1 rfl (hi n (by simp [pinCs, PF.pinC]))
    obtain ⟨b1, b2⟩ := backCs_ok hu hS h2 g2 (by simpa using hl) hp.2 fun i hx => hi i (by
      simp only [pinCs]
      cases f.pinC false with
      | true => exact List.mem_cons_of_mem _ hx
      | false => exact hx)
    exact ⟨⟨_, _, a1, b1, by simp⟩, by simp only [List.flatMap_cons]; exact a2.append b2⟩

theorem csin_len : ∀ {fs : List PF} {ds : List (DV U)} {vs : List Value} {E D : List Nat}, CsIn w fs ds vs E D → vs.length = fs.length ∧ ds.length = fs.length
  | [], [], [], _, _, _ => ⟨rfl, rfl⟩
  | _ :: _, _ :: _, _ :: _, _, _, h => by obtain ⟨_, _, _, _, _, h, _⟩ := h; have := csin_len h; simp [this.1, this.2]
  | [], [], _ :: _, _, _, h => h.elim
  | [], _ :: _, _, _, _, h => h.elim
  | _ :: _, [], _, _, _, h => h.elim
  | _ :: _, _ :: _, [], _, _, h => h.elim

theorem tsout_none {w' : World} : ∀ {fs : List PF} {ds : List (DV U)} {vs : List Value} {E D : List Nat}, CsIn w fs ds vs E D → fs.any PF.turns = false → TsOut w' fs ds (List.replicate fs.length (.agg [])) vs []
  | [], [], [], _, _, _, _ => rfl
  | f :: fs, d :: ds, v :: vs, _, _, h, ht => by
    obtain ⟨_, _, _, _, _, h, _⟩ := h
    simp only [List.any_cons, Bool.or_eq_false_iff] at ht
    refine ⟨[], [], ?_, tsout_none h ht.2, rfl⟩
    unfold TOut
    split
    · simp [PF.turns] at ht
    · simp [PF.turns] at ht
    · rfl
  | [], [], _ :: _, _, _, h, _ => h.elim
  | [], _ :: _, _, _, _, h, _ => h.elim
  | _ :: _, [], _, _, _, h, _ => h.elim
  | _ :: _, _ :: _, [], _, _, h, _ => h.elim

theorem backOne_ok (hu : UniOk U) (hS : Sat w0 M N s.slot s.chunk ρ F a w) {f : PF} {n : Nat} {l : Lent U} (h : (backOne (U := U) f n).run s = some l) {d : DV U} {v : Value} {E D : List Nat} (hin : AIn w0 f d v E D) {x : SV × List (Nat × Chunk U)} (he : entOne f d n = some x)
    {ids : List Nat} (hp : PinV M w0 ids f d v n) (hi : ∀ i ∈ f.pins n, i ∈ ids) : AOut w0 w f d l.dv v (l.ex.flatMap F) ∧ OwnAll s l.ex := by
  have single : (∀ fs, f ≠ .agg fs) → (∀ ty fs, f ≠ .box ty fs) → (∀ k, f ≠ .elem k) → AOut w0 w f d l.dv v (l.ex.flatMap F) ∧ OwnAll s l.ex := fun n1 n2 n3 => by
    have h' : (turnCell (U := U) f n).run s = some l := by
      cases f with
      | agg fs => exact absurd rfl (n1 fs)
      | box ty fs => exact absurd rfl (n2 ty fs)
      | elem k => exact absurd rfl (n3 k)
      | _ => exact h
    have hin' : CIn w0 f d v E D := by
      cases f with
      | agg fs => exact absurd rfl (n1 fs)
      | box ty fs => exact absurd rfl (n2 ty fs)
      | elem k => exact absurd rfl (n3 k)
      | _ => cases d <;> exact hin
    have he' : entCell f d n = some x := by
      cases f with
      | agg fs => exact absurd rfl (n1 fs)
      | box ty fs => exact absurd rfl (n2 ty fs)
      | elem k => exact absurd rfl (n3 k)
      | _ => cases d <;> exact he
    obtain ⟨a1, a2⟩ := turnCell_ok hS h' hin' he' fun ht => by
      cases f with
      | row k m =>
        rcases m with _ | _ | m
        · simp [PF.turns] at ht
        · exact hp (hi n (by simp [PF.pins]))
        · simp [PF.turns] at ht
      | _ => simp [PF.turns] at ht
    refine ⟨?_, a2⟩
    cases f with
    | agg fs => exact absurd rfl (n1 fs)
    | box ty fs => exact absurd rfl (n2 ty fs)
    | elem k => exact absurd rfl (n3 k)
    | _ => exact a1
  cases f with
  | sc => exact single (fun _ e => by cases e) (fun _ _ e => by cases e) (fun _ e => by cases e)
  | row k m => exact single (fun _ e => by cases e) (fun _ _ e => by cases e) (fun _ e => by cases e)
  | ro k => exact single (fun _ e => by cases e) (fun _ _ e => by cases e) (fun _ e => by cases e)
  | agg fs =>
    cases d with
    | agg ds =>
      obtain ⟨vs, rfl, hin⟩ := hin
      simp only [entOne, Option.bind_eq_some_iff] at he
      obtain ⟨y, he, _⟩ := he
      simp only [backOne] at h
      cases ht : fs.any PF.turns with
      | false =>
        rw [ht] at h
        simp [Rd.run] at h; subst h
        exact ⟨⟨vs, rfl, tsout_none hin ht⟩, fun i hi => by simp at hi⟩
      | true =>
        rw [ht] at h
        simp only [cond_true] at h
        have hq := Rd.run_bind h; clear h; obtain ⟨ls, h1, h⟩ := hq
        simp [Rd.run] at h; subst h
        obtain ⟨vs', e, hp⟩ := hp
        have : vs = vs' := by
          simp only [Value.agg.injEq] at e
          have := congrArg Array.toList e
          simpa using this
        subst this
        obtain ⟨a1, a2⟩ := turnCs_ok hS h1 hin he hp hi
        refine ⟨⟨vs, rfl, ?_⟩, a2⟩
        have : fillD (U := U) fs.length (ls.map (·.dv)) = ls.map (·.dv) := by
          cases ls with
          | nil =>
            cases fs with
            | nil => rfl
            | cons f fs =>
              exfalso
              simp only [turnCs] at h1
              have hq := Rd.run_bind h1; clear h1; obtain ⟨_, _, h1⟩ := hq
              have hq := Rd.run_bind h1; clear h1; obtain ⟨_, _, h1⟩ := hq
              simp [Rd.run] at h1
          | cons _ _ => rfl
        rw [this]; exact a1
    | _ => simp [entOne, entCell] at he
  | box ty fs =>
    obtain ⟨hp0, b0, cur0, e0, e1, hp1⟩ := hp
    obtain ⟨hρ, _⟩ := hS.pin n v (hp0 (hi n (by simp [PF.pins])))
    simp only [backOne, Rd.run] at h
    cases ec : s.chunk n with
    | box ty' cs =>
      rw [ec] at h
      dsimp only at h
      cases hb : Nat.beq ty ty' with
      | false => rw [hb] at h; simp [Rd.run] at h
      | true =>
        rw [hb] at h
        have := Nat.eq_of_beq_eq_true hb
        subst this
        simp only [cond_true] at h
        have hq := Rd.run_bind h; clear h; obtain ⟨ls, h1, h⟩ := hq
        simp [Rd.run] at h; subst h
        obtain ⟨b, cur, g1, g2, g3⟩ := hS.box n ty cs ec
        have hrep := hS.rep n
        rw [ec] at hrep
        obtain ⟨b2, _, k1, _, k2⟩ := hrep
        rw [g1] at k1
        simp only [Value.pointer.injEq, Option.some.injEq, Addr.mk.injEq, and_true] at k1
        subst k1
        cases d with
        | agg ds =>
          obtain ⟨b1, cur1, E', rfl, q2, q3, q4⟩ := hin
          rw [g1] at hρ
          simp only [Value.pointer.injEq, Option.some.injEq, Addr.mk.injEq, and_true] at hρ e0
          subst hρ e0
          rw [q2] at e1
          simp only [Option.some.injEq, Obj.cells.injEq, true_and, and_true] at e1
          subst e1
          obtain ⟨a1, a2⟩ := backCs_ok hu hS h1 g3 (csin_len q3).1 hp1 fun i hx => hi i (by simp [PF.pins, hx])
          refine ⟨⟨b, cur1, cur, _, rfl, q2, g2, a1, by simp [k2]⟩, fun i hi => ?_⟩
          rcases List.mem_cons.1 hi with rfl | hi
          · rw [ec]; rfl
          · exact mine_own a2 i hi
        | _ => exact hin.elim
    | _ => rw [ec] at h; simp [Rd.run] at h
  | elem k =>
    cases d with
    | agg ds =>
      obtain ⟨l, i, rfl, ⟨⟨m, hr⟩, h0, hi', b, hv⟩, _⟩ := hin
      obtain ⟨l1, i1, hd, hp⟩ := hp
      have hl : l = l1 := by
        simp only [DV.agg.injEq] at hd
        simpa using (List.cons.inj hd).1
      subst hl
      obtain ⟨hρ, _⟩ := hS.pin n _ (hp (hi n (by simp [PF.pins])))
      simp only [backOne, Rd.run] at h
      cases ec : s.chunk n with
      | row own cv k' l' =>
        rw [ec] at h
        cases own with
        | false => simp [Rd.run] at h
        | true =>
          dsimp only at h
          cases hk : Nat.beq k k' with
          | false => rw [hk] at h; simp [Rd.run] at h
          | true =>
            rw [hk] at h
            simp [Rd.run] at h; subst h
            have := Nat.eq_of_beq_eq_true hk
            subst this
            have hrep := hS.rep n
            rw [ec] at hrep
            obtain ⟨d', hrep⟩ := hrep
            rw [hρ] at hrep
            refine ⟨⟨l, i, rfl, ⟨d', by simpa using hrep⟩, rfl, ?_⟩, fun j hj => ?_⟩
            · obtain ⟨A1, c1, e1⟩ := rep_len hr
              obtain ⟨A2, c2, e2⟩ := rep_len hrep
              rw [e1] at e2
              injection e2 with _ e2 _
              exact e2.symm
            · simp at hj; subst hj; rw [ec]; rfl
      | _ => rw [ec] at h; simp [Rd.run] at h
    | _ => exact hin.elim

theorem backMany_ok (hu : UniOk U) (hS : Sat w0 M N s.slot s.chunk ρ F a w) : ∀ {fs : List PF} {n : Nat} {ls : List (Lent U)}, (backMany (U := U) fs n).run s = some ls → ∀ {ds : List (DV U)} {vs : List Value} {E D : List Nat}, AsIn w0 fs ds vs E D → ∀ {x : List SV × List (Nat × Chunk U)}, entMany fs ds n = some x →
    ∀ {ids : List Nat}, PinsAt w0 (fun i v => i ∈ ids → M.pins i = some v) fs ds vs n → (∀ i ∈ pinIds fs n, i ∈ ids) → AsOut w0 w fs ds (ls.map (·.dv)) vs ((ls.flatMap (·.ex)).flatMap F) ∧ OwnAll s (ls.flatMap (·.ex))
  | [], n, ls, h, ds, vs, E, D, hin, x, he, ids, hp, hi => by
    simp [backMany, Rd.run] at h; subst h
    cases ds <;> cases vs <;> first | exact hin.elim | exact ⟨rfl, fun i hi => by simp at hi⟩
  | f :: fs, n, ls, h, [], vs, E, D, hin, x, he, ids, hp, hi => hin.elim
  | f :: fs, n, ls, h, _ :: _, [], E, D, hin, x, he, ids, hp, hi => hin.elim
  | f :: fs, n, ls, h, d :: ds, v :: vs, E, D, hin, x, he, ids, hp, hi => by
    simp only [backMany] at h
    have hq := Rd.run_bind h; clear h; obtain ⟨l, h1, h⟩ := hq
    have hq := Rd.run_bind h; clear h; obtain ⟨r, h2, h⟩ := hq
    simp [Rd.run] at h; subst h
    obtain ⟨E1, E2, D1, D2, g1, g2, rfl, rfl⟩ := hin
    simp only [entMany, Option.bind_eq_some_iff] at he
    obtain ⟨y, he1, z, he2, _⟩ := he
    obtain ⟨a1, a2⟩ := backOne_ok hu hS h1 g1 he1 hp.1 (fun i hx => hi i (by simp [pinIds, hx]))
    obtain ⟨b1, b2⟩ := backMany_ok hu hS h2 g2 he2 hp.2 (fun i hx => hi i (by simp [pinIds, hx]))
    exact ⟨⟨_, _, a1, b1, by simp⟩, by simp only [List.flatMap_cons]; exact a2.app b2⟩

theorem cellId_ok {R : Nat → Value → Prop} {a : Bool} : ∀ {fs : List PF} {vs : List Value} {n c i : Nat}, PinsC R fs vs n → cellId fs n c = some i → i ∈ pinCs a fs n ∧ ∃ v, vs[c]? = some v ∧ R i v
  | [], vs, n, c, i, _, h => by simp [cellId] at h
  | f :: fs, [], n, c, i, hp, h => hp.elim
  | f :: fs, v :: vs, n, 0, i, hp, h => by
    cases f with
    | ro k =>
      simp [cellId] at h; subst h
      exact ⟨by simp [pinCs, PF.pinC], v, rfl, hp.1 rfl⟩
    | _ => simp [cellId] at h
  | f :: fs, v :: vs, n, c + 1, i, hp, h => by
    have h : cellId fs (n + f.cell1) c = some i := by cases f <;> exact h
    obtain ⟨h1, u, h2, h3⟩ := cellId_ok (a := a) hp.2 h
    refine ⟨?_, u, by simpa using h2, h3⟩
    simp only [pinCs]
    cases f.pinC a with
    | true => exact List.mem_cons_of_mem _ h1
    | false => exact h1

theorem idAt_ok {R : Nat → Value → Prop} : ∀ {pf : List PF} {vals : List Value} {n j c i : Nat} {ds : List (DV U)} {E D : List Nat}, AsIn w pf ds vals E D → PinsAt w R pf ds vals n → idAt pf n j c = some i → i ∈ pinIds pf n ∧ ∃ v, argAt w vals j c = some v ∧ R i v
  | [], _, _, _, _, _, _, _, _, _, _, h => by simp [idAt] at h
  | f :: fs, [], _, _, _, _, ds, _, _, _, hp, h => by cases ds <;> exact hp.elim
  | f :: fs, v :: vs, n, j + 1, c, i, ds, E, D, hin, hp, h => by
    cases ds with
    | nil => exact hin.elim
    | cons d ds =>
      obtain ⟨_, _, _, _, _, hin, _⟩ := hin
      obtain ⟨h1, u, h2, h3⟩ := idAt_ok hin hp.2 (show idAt fs (n + f.cnt) j c = some i from h)
      exact ⟨by simp [pinIds, h1], u, by unfold argAt at h2 ⊢; simpa using h2, h3⟩
  | f :: fs, v :: vs, n, 0, c, i, ds, E, D, hin, hp, h => by
    have h : f.idAt n c = some i := h
    cases ds with
    | nil => exact hin.elim
    | cons d ds =>
      obtain ⟨_, _, _, _, hin, _⟩ := hin
      have hp1 := hp.1
      clear hp
      cases f with
      | agg gs =>
        obtain ⟨us, rfl, hp2⟩ := hp1
        obtain ⟨h1, u, h2, h3⟩ := cellId_ok (a := true) hp2 h
        exact ⟨by simp [pinIds, PF.pins, h1], u, by unfold argAt; simpa using h2, h3⟩
      | box ty gs =>
        obtain ⟨_, b, cur, rfl, hb, hp2⟩ := hp1
        obtain ⟨h1, u, h2, h3⟩ := cellId_ok (a := false) hp2 h
        exact ⟨by simp [pinIds, PF.pins, h1], u, by unfold argAt; simp [hb]; simpa using h2, h3⟩
      | ro k =>
        cases c with
        | succ c => simp [PF.idAt] at h
        | zero =>
          simp [PF.idAt] at h; subst h
          have hin : ∃ A m cap, v = .slice A m cap := by
            cases d with
            | row k' l =>
              obtain ⟨⟨m, hr⟩, _⟩ := hin
              cases m with
              | zero => exact hr.elim
              | succ m =>
                obtain ⟨cells, B, G, hR, _⟩ := hr
                obtain ⟨A, cap, e, _⟩ := hR.slice
                exact ⟨A, _, cap, e⟩
            | _ => exact hin.elim
          obtain ⟨A, m, cap, rfl⟩ := hin
          exact ⟨by simp [pinIds, PF.pins], _, by simp [argAt], hp1⟩
      | _ => simp [PF.idAt] at h

theorem asIn_len : ∀ {pf : List PF} {ds : List (DV U)} {vals : List Value} {E D : List Nat}, AsIn w pf ds vals E D → vals.length = pf.length
  | [], [], [], _, _, _ => rfl
  | _ :: _, _ :: _, _ :: _, _, _, h => by obtain ⟨_, _, _, _, _, h, _⟩ := h; simp [asIn_len h]
  | [], [], _ :: _, _, _, h => h.elim
  | [], _ :: _, _, _, _, h => h.elim
  | _ :: _, [], _, _, _, h => h.elim
  | _ :: _, _ :: _, [], _, _, h => h.elim

/-- A FUNCTION. -/
theorem fun_ok (hB : Base P U tab sig CR) (hm : P.follows .mixedOrders = true) {R : Type} {E : Env U R} (hC : CalOk E CR) (ht : E.tab = tab) (hs : E.sig = sig) {f : FuncId} {fn : Func} {c : Code} (hf : P.funcs[f]? = some fn) (hb : fn.body = some c) (hn : fn.ntmps = E.n)
    {pf : List PF} {rf : List RF} {res : List ResultVar} (hr : fn.results.toList = res) (hl : pf.length ≤ E.n) (hL : ∀ (w0 : World) (M : Own), Pinned M (pinIds pf base) → LoopsOk P w0 M E c) {dec : DV U → List (DV U) → Option R} {enc : R → DV U × List (DV U)} (hdec : ∀ r m y, dec r m = some y → enc y = (r, m)) {ds : List (DV U)} {y : R} (h : runF E c pf rf res dec ds = some y) :
    Con P f pf rf ds (enc y).1 (enc y).2 := by
  unfold runF at h
  simp only [Option.bind_eq_some_iff] at h
  obtain ⟨st, he, h⟩ := h
  -- it answers, wherever it is called
  have key : ∀ (vals : List Value) (w : World) (Ex D : List Nat), AsIn w pf ds vals Ex D → Ex.Nodup → (∀ b ∈ Ex, b ∉ D) → DoorOk w Ex →
      Calls P f vals.toArray w fun e w' => ∃ r m, dec r m = some y ∧ ∃ rs vs G E', r = .agg rs ∧ RMany (argAt w vals) w' rf rs vs G ∧ e = .returned (tupV vs) ∧ AsOut w w' pf ds m vals E' ∧ Fr w Ex w' ∧ (G ++ E').Nodup ∧ ∀ b ∈ G ++ E', b ∈ Ex ∨ w.heap.size ≤ b := fun vals w Ex D hin hEn hED hDr => by
    have hlen := asIn_len hin
    obtain ⟨M, hMb, hMp, hpins, hS⟩ := entry_sat he hin hEn hED hDr (N := E.n) (by omega)
    have he' := he
    unfold entSt at he'
    simp only [Option.bind_eq_some_iff] at he'
    obtain ⟨x, he', _⟩ := he'
    refine calls_of_wp hf hb ?_
    rw [hn]
    refine exec_sound hB hm hC ht hs c (hL w M hMp) st _ y _ _ w h hS fun ex s' a' w' hk hs' => ?_
    obtain ⟨ρ, F, hS'⟩ := hs'
    have fin : ∀ {z : Option R}, z = some y → z = ((finish E.tab pf rf res).run s').bind (fun x => dec x.1 x.2) → a'.defers = [] ∧ ∃ v, (results fn a'.tmps).run P w' = .ok v w' ∧ (∃ r m, dec r m = some y ∧ ∃ rs vs G E', r = .agg rs ∧ RMany (argAt w vals) w' rf rs vs G ∧ Ending.returned v = .returned (tupV vs) ∧ AsOut w w' pf ds m vals E' ∧ Fr w Ex w' ∧ (G ++ E').Nodup ∧ ∀ b ∈ G ++ E', b ∈ Ex ∨ w.heap.size ≤ b) := fun {z} hz hz' => by
      rw [hz'] at hz
      simp only [Option.bind_eq_some_iff] at hz
      obtain ⟨⟨r, m⟩, h1, h2⟩ := hz
      unfold finish at h1
      have hq := Rd.run_bind h1; clear h1; obtain ⟨rs, h3, h1⟩ := hq
      have hq := Rd.run_bind h1; clear h1; obtain ⟨os, h4, h1⟩ := hq
      cases hd : distinct (rs.flatMap (·.ex) ++ os.flatMap (·.ex)) with
      | false => rw [hd] at h1; simp [Rd.run] at h1
      | true =>
        rw [hd] at h1
        simp [Rd.run] at h1
        obtain ⟨rfl, rfl⟩ := h1
        rw [ht] at h3
        have hA : ArgPin M (argAt w vals) pf base := fun j c i hi => by
          obtain ⟨g1, v, g2, g3⟩ := idAt_ok hin hpins hi
          exact ⟨v, g2, g3 g1⟩
        obtain ⟨vs, G, a1, a4, a2, a3⟩ := outMany_ok hB.tabs hB.kinds hS' hA h3
        obtain ⟨b1, b2⟩ := backMany_ok hB.kinds hS' h4 hin he' hpins (fun _ h => h)
        refine ⟨hS'.defers, _, run_results hr a3, _, _, h2, _, _, _, _, rfl, a1, rfl, b1, ?_, ?_, fun b hb => ?_⟩
        · have := hS'.fr; rw [hMb] at this; exact this
        · refine (a4.app (Sb.refl _)).2 ?_; rw [← List.flatMap_append]; exact distinct_own hS' hd (a2.app b2)
        · replace hb := (a4.app (Sb.refl _)).1 b hb
          rw [← List.flatMap_append] at hb
          obtain ⟨i, hi, hb⟩ := List.mem_flatMap.1 hb
          have := hS'.mine i ((a2.app b2) i hi) b hb
          rwa [hMb] at this
    cases ex with
    | exit _ => simp at hk
    | normal => obtain ⟨h1, v, h2, h3⟩ := fin hk rfl; exact ⟨h1, v, h2, h3⟩
    | ret => obtain ⟨h1, v, h2, h3⟩ := fin hk rfl; exact ⟨h1, v, h2, h3⟩
  intro vals w Ex D hin hEn hED hDr
  refine (key vals w Ex D hin hEn hED hDr).mono fun e w' ⟨r, m, h1, h2⟩ => ?_
  rw [hdec r m y h1]
  exact h2

end
end Go.Proofs.YtchohkelpjfpcaaDoor.AX

/- What has been proved of functions, as a table for those that call them. No conditions. -/
namespace Go.Proofs.YtchohkelpjfpcaaDoor.AX
open Go Go.RowKit

def findLoop (id : Nat) : Code → Option Code
  | .block i (.loop c) => bif Nat.beq i id then some c else findLoop id c
  | .block _ c => findLoop id c
  | .seq a b => (findLoop id a).or (findLoop id b)
  | .cond _ a b => (findLoop id a).or (findLoop id b)
  | _ => none
def loopAt (id : Nat) (c : Code) : Code := (findLoop id c).getD .skip

def isId (id : Nat) : Option Nat → Bool
  | some n => Nat.beq n id
  | none => false
def findTail (id : Nat) : Code → Option Code
  | .seq a b => bif isId id (firstR b) then some b else (findTail id a).or (findTail id b)
  | .cond _ a b => (findTail id a).or (findTail id b)
  | .block _ c => findTail id c
  | .loop c => findTail id c
  | _ => none
def tailAt (id : Nat) (c : Code) : Code := (findTail id c).getD .skip

def bodyOf (f : Func) : Code := match f.body with
  | some c => c
  | none => .skip

structure Ent (P : Program) (U : Uni) where
  f : FuncId
  pf : List PF
  rf : List RF
  R : List (DV U) → DV U → List (DV U) → Prop
  cal : {Q : Type} → List (DV U) → (DV U → List (DV U) → Option Q) → Option Q
  con : ∀ ds r m, R ds r m → Con P f pf rf ds r m
  enters : ∀ args w, (callFunc f args).run P w = .ok (.enter f args) w
  calOk : ∀ {Q : Type} ds (K : DV U → List (DV U) → Option Q) q, cal ds K = some q → ∃ r m, R ds r m ∧ K r m = some q

section
variable {P : Program} {U : Uni}

def findE : List (Ent P U) → FuncId → Option (Ent P U)
  | [], _ => none
  | e :: r, f => bif Nat.beq e.f f then some e else findE r f

def sigE (es : List (Ent P U)) : Sig := fun f => match findE es f with
  | some e => some (e.pf, e.rf)
  | none => none
def CRE (es : List (Ent P U)) (f : FuncId) (ds : List (DV U)) (r : DV U) (m : List (DV U)) : Prop := ∃ e, findE es f = some e ∧ e.R ds r m
def calE (es : List (Ent P U)) {Q : Type} (f : FuncId) (ds : List (DV U)) (K : DV U → List (DV U) → Option Q) : Option Q := match findE es f with
  | some e => e.cal ds K
  | none => none

def mkE (tab : Tab) (es : List (Ent P U)) (n : Nat) {R : Type} (loops tails : List (Nat × Option (Oracle U R))) : Env U R :=
  { n := n, tab := tab, sig := sigE es, cal := calE es, loops := look none loops, tails := look none tails }

theorem findE_f : ∀ {es : List (Ent P U)} {f : FuncId} {e : Ent P U}, findE es f = some e → e.f = f
  | [], _, _, h => by simp [findE] at h
  | x :: r, f, e, h => by
    simp only [findE] at h
    cases hb : Nat.beq x.f f with
    | true => rw [hb] at h; simp at h; subst h; exact Nat.eq_of_beq_eq_true hb
    | false => rw [hb] at h; exact findE_f h

theorem base_of {tab : Tab} (hT : TabOk P U tab) (hU : UniOk U) (es : List (Ent P U)) : Base P U tab (sigE es) (CRE es) := by
  refine ⟨hT, hU, fun f pr h args w => ?_, fun f pf rf ds r m h hc => ?_⟩
  · unfold sigE at h
    cases e : findE es f with
    | none => rw [e] at h; simp at h
    | some x => have := x.enters args w; rw [findE_f e] at this; exact this
  · obtain ⟨x, e, hR⟩ := hc
    unfold sigE at h
    rw [e] at h
    simp only [Option.some.injEq, Prod.mk.injEq] at h
    obtain ⟨rfl, rfl⟩ := h
    have := x.con ds r m hR
    rw [findE_f e] at this
    exact this

theorem cal_of {tab : Tab} {es : List (Ent P U)} {n : Nat} {R : Type} {loops tails : List (Nat × Option (Oracle U R))} : CalOk (mkE tab es n loops tails) (CRE es) := fun f ds K r h => by
  simp only [mkE, calE] at h
  cases e : findE es f with
  | none => rw [e] at h; simp at h
  | some x =>
    rw [e] at h
    obtain ⟨q, m, h1, h2⟩ := x.calOk ds K r h
    exact ⟨q, m, ⟨x, e, h1⟩, h2⟩

/- Results as values of a type. -/
structure Coz (U : Uni) (Y : Type) where
  enc : Y → DV U × List (DV U)
  dec : DV U → List (DV U) → Option Y
  ok : ∀ {r m y}, dec r m = some y → enc y = (r, m)

/-- No more than results. -/
def cozR {A : Type} (c : Cod U A) (d : Cod U Unit) : Coz U A where
  enc a := (.agg (c.enc a), d.enc ())
  dec r m := match r with
    | .agg l => (d.dec m).bind fun _ => c.dec l
    | _ => none
  ok {r m y} h := by
    split at h
    · simp only [Option.bind_eq_some_iff] at h
      obtain ⟨u, h1, h2⟩ := h
      rw [c.ok h2, d.ok h1]
    · simp at h

/-- Results and what was turned. -/
def cozRM {A B : Type} (c : Cod U A) (d : Cod U B) : Coz U (A × B) where
  enc a := (.agg (c.enc a.1), d.enc a.2)
  dec r m := match r with
    | .agg l => (c.dec l).bind fun x => (d.dec m).bind fun y => some (x, y)
    | _ => none
  ok {r m y} h := by
    split at h
    · simp only [Option.bind_eq_some_iff, Option.some.injEq] at h
      obtain ⟨u, h1, v, h2, rfl⟩ := h
      rw [c.ok h1, d.ok h2]
    · simp at h

/-- No more than what was turned. -/
def cozM {B : Type} (d : Cod U B) : Coz U B where
  enc a := (.agg [], d.enc a)
  dec r m := match r with
    | .agg [] => d.dec m
    | _ => none
  ok {r m y} h := by
    split at h
    · rw [d.ok h]
    · simp at h

/-- A place that tells nothing. -/
def codD {X : Type} (c : Cod U X) : Cod U X where
  enc x := .agg [] :: c.enc x
  dec l := match l with
    | .agg [] :: r => c.dec r
    | _ => none
  ok {d a} h := by
    split at h
    · rw [c.ok h]
    · simp at h

/-- Parts, or a box's cells. -/
def iAgg {X : Type} (c : Cod U X) : Itm U X where
  enc x := .agg (c.enc x)
  dec d := match d with
    | .agg l => c.dec l
    | _ => none
  ok {d a} h := by
    split at h
    · rw [c.ok h]
    · simp at h

def Ent.of (f : FuncId) (pf : List PF) (rf : List RF) {X Y : Type} (cp : Cod U X) (cr : Coz U Y) (F : X → Option Y) (hc : ∀ x y, F x = some y → Con P f pf rf (cp.enc x) (cr.enc y).1 (cr.enc y).2) (hf : ∀ args w, (callFunc f args).run P w = .ok (.enter f args) w) : Ent P U where
  f := f
  pf := pf
  rf := rf
  R ds r m := ∃ x y, ds = cp.enc x ∧ F x = some y ∧ cr.enc y = (r, m)
  cal ds K := (cp.dec ds).bind fun x => (F x).bind fun y => K (cr.enc y).1 (cr.enc y).2
  con := fun ds r m ⟨x, y, h1, h2, h3⟩ => by
    have := hc x y h2
    rw [h3] at this
    rw [h1]; exact this
  enters := hf
  calOk := fun {Q} ds K q h => by
    simp only [Option.bind_eq_some_iff] at h
    obtain ⟨x, h1, y, h2, h3⟩ := h
    exact ⟨_, _, ⟨x, y, cp.ok h1, h2, rfl⟩, h3⟩

/-- .. where the answer has one form or another. -/
def Ent.ofS (f : FuncId) (pf : List PF) (rf : List RF) {X A B : Type} (cp : Cod U X) (cr : Coz U (A ⊕ B)) (F : X → Option (A ⊕ B)) (hc : ∀ x y, F x = some y → Con P f pf rf (cp.enc x) (cr.enc y).1 (cr.enc y).2) (hf : ∀ args w, (callFunc f args).run P w = .ok (.enter f args) w) : Ent P U where
  f := f
  pf := pf
  rf := rf
  R ds r m := ∃ x y, ds = cp.enc x ∧ F x = some y ∧ cr.enc y = (r, m)
  cal ds K := (cp.dec ds).bind fun x => (F x).bind fun y => match y with
    | .inl a => K (cr.enc (.inl a)).1 (cr.enc (.inl a)).2
    | .inr b => K (cr.enc (.inr b)).1 (cr.enc (.inr b)).2
  con := fun ds r m ⟨x, y, h1, h2, h3⟩ => by
    have := hc x y h2
    rw [h3] at this
    rw [h1]; exact this
  enters := hf
  calOk := fun {Q} ds K q h => by
    simp only [Option.bind_eq_some_iff] at h
    obtain ⟨x, h1, y, h2, h3⟩ := h
    refine ⟨_, _, ⟨x, y, cp.ok h1, h2, rfl⟩, ?_⟩
    cases y with
    | inl _ => exact h3
    | inr _ => exact h3

/- What is owed for loops and tails. -/
def owed {R : Type} (E : Env U R) : Code → List (Code × Oracle U R)
  | .seq a b => owed E a ++ match (firstR b).bind E.tails with
    | some o => [(b, o)]
    | none => owed E b
  | .cond _ a b => owed E a ++ owed E b
  | .block id (.loop c) => match E.loops id with
    | some o => [(.block id (.loop c), o)]
    | none => []
  | .block _ c => owed E c
  | _ => []

theorem owed_ok {w0 : World} {M : Own} {R : Type} {E : Env U R} : ∀ (c : Code), (∀ x ∈ owed E c, SoundO P w0 M E.n x.1 x.2) → LoopsOk P w0 M E c
  | .seq a b, h => by
    simp only [owed, List.mem_append] at h
    refine ⟨owed_ok a fun x hx => h x (.inl hx), fun o ho => ?_, fun hn => owed_ok b fun x hx => h x (.inr ?_)⟩
    · rw [ho] at h; exact h (b, o) (.inr (by simp))
    · rw [hn]; exact hx
  | .cond _ a b, h => by
    simp only [owed, List.mem_append] at h
    exact ⟨owed_ok a fun x hx => h x (.inl hx), owed_ok b fun x hx => h x (.inr hx)⟩
  | .block id c, h => by
    have key : (∀ x ∈ owed E c, SoundO P w0 M E.n x.1 x.2) → LoopsOk P w0 M E c := owed_ok c
    cases c with
    | loop c =>
      simp only [LoopsOk]
      intro o ho
      simp only [owed, ho] at h
      exact h (.block id (.loop c), o) (by simp)
    | _ => exact key h
  | .skip, _ | .region _ _ _, _ | .loop _, _ | .rangeFunc _ _ _ _, _ | .exit _, _ | .scope _, _ | .label _, _ | .goto _, _ | .ret, _ | .refuse _, _ => trivial

/-- A loop, with its round told. -/
theorem loop_ok {tab : Tab} {es : List (Ent P U)} (hT : TabOk P U tab) (hU : UniOk U) (hm : P.follows .mixedOrders = true) {n : Nat} {X Y : Type} {loops tails : List (Nat × Option (Oracle U (X ⊕ Y)))} {w0 : World} {M : Own} {id : Nat} {c : Code} {A : Cut U X} {B : Cuts U Y} {f : X → Option (X ⊕ Y)}
    (hf : ∀ x, f x = roundX (mkE tab es n loops tails) c A B x) (hA : Pinned M A.pins) (hB : Pinned M B.pins) (ho : ∀ x ∈ owed (mkE tab es n loops tails) c, SoundO P w0 M n x.1 x.2) {R : Type} : SoundO P w0 M n (.block id (.loop c)) (loopO (R := R) id A B (lim f)) :=
  loop_sound (exec_sound (base_of hT hU es) hm cal_of rfl rfl c (owed_ok c ho)) hf hA hB

theorem tail_ok {tab : Tab} {es : List (Ent P U)} (hT : TabOk P U tab) (hU : UniOk U) (hm : P.follows .mixedOrders = true) {n : Nat} {X Y : Type} {loops tails : List (Nat × Option (Oracle U Y))} {w0 : World} {M : Own} {c : Code} {A : Cut U X} {B : Cuts U Y} {f : X → Option Y}
    (hf : ∀ x, f x = tailX (mkE tab es n loops tails) c A B x) (hA : Pinned M A.pins) (hB : Pinned M B.pins) (ho : ∀ x ∈ owed (mkE tab es n loops tails) c, SoundO P w0 M n x.1 x.2) {R : Type} : SoundO P w0 M n c (tailO (R := R) A B f) :=
  tail_sound (exec_sound (base_of hT hU es) hm cal_of rfl rfl c (owed_ok c ho)) hf hA hB

theorem func_ok {tab : Tab} {es : List (Ent P U)} (hT : TabOk P U tab) (hU : UniOk U) (hm : P.follows .mixedOrders = true) {f : FuncId} {fn : Func} {c : Code} (hf : P.funcs[f]? = some fn) (hb : fn.body = some c) {n : Nat} (hn : fn.ntmps = n) {pf : List PF} {rf : List RF} {res : List ResultVar} (hr : fn.results.toList = res) (hl : pf.length ≤ n)
    {X Y : Type} {cp : Cod U X} {cr : Coz U Y} {loops tails : List (Nat × Option (Oracle U Y))} {F : X → Option Y} (hF : ∀ x, F x = runF (mkE tab es n loops tails) c pf rf res cr.dec (cp.enc x))
    (ho : ∀ (w0 : World) (M : Own), Pinned M (pinIds pf base) → ∀ x ∈ owed (mkE tab es n loops tails) c, SoundO P w0 M n x.1 x.2) : ∀ x y, F x = some y → Con P f pf rf (cp.enc x) (cr.enc y).1 (cr.enc y).2 := fun x y h =>
  fun_ok (base_of hT hU es) hm (E := mkE tab es n loops tails) cal_of rfl rfl hf hb hn hr hl (fun w0 M hM => owed_ok c (ho w0 M hM)) (fun r m y h => cr.ok h) ((hF x).symm.trans h)

end
end Go.Proofs.YtchohkelpjfpcaaDoor.AX

/- A table's facts, entry by entry. No conditions. -/
namespace Go.Proofs.YtchohkelpjfpcaaDoor.AX
open Go Go.RowKit

section
variable {P : Program} {U : Uni}

def FieldsOk (P : Program) : List Field → List (Nat × Nat × Bool) → Prop
  | [], [] => True
  | fd :: r, (off, n, g) :: s => fd.offset = off ∧ (∃ (i : TypeInfo) (d : TypeDesc), P.info? fd.type = some i ∧ i.size = n ∧ n ≠ 0 ∧ P.underlying fd.type = some d ∧ descAgg d = g) ∧ FieldsOk P r s
  | _, _ => False

theorem fieldsOk_get : ∀ {l : List Field} {fs : List (Nat × Nat × Bool)}, FieldsOk P l fs → l.length = fs.length ∧ ∀ (f off n : Nat) (g : Bool), fs[f]? = some (off, n, g) → ∃ (fd : Field) (i : TypeInfo) (d : TypeDesc), l[f]? = some fd ∧ fd.offset = off ∧ P.info? fd.type = some i ∧ i.size = n ∧ n ≠ 0 ∧ P.underlying fd.type = some d ∧ descAgg d = g
  | [], [], _ => ⟨rfl, fun f off n g h => by simp at h⟩
  | fd :: r, (off, n, g) :: s, h => by
    obtain ⟨h1, ⟨i, d, h2, h3, h4, h5, h6⟩, h7⟩ := h
    obtain ⟨k1, k2⟩ := fieldsOk_get h7
    refine ⟨by simp [k1], fun f off' n' g' hf => ?_⟩
    cases f with
    | zero => simp at hf; obtain ⟨rfl, rfl, rfl⟩ := hf; exact ⟨fd, i, d, rfl, h1, h2, h3, h4, h5, h6⟩
    | succ f => exact k2 f off' n' g' (by simpa using hf)
  | [], _ :: _, h => h.elim
  | _ :: _, [], h => h.elim

def TyOk (P : Program) (U : Uni) (t : TypeId) : Ty → Prop
  | .int k => P.underlying t = some (.int k)
  | .bool => P.underlying t = some .bool
  | .str => P.underlying t = some .string
  | .slice k => P.underlying t = some (.slice (U.ty k)) ∧ ∃ i z, P.info? (U.ty k) = some i ∧ i.zero = some z ∧ i.size = U.sz k ∧ z.cells.size = U.sz k ∧ 0 < U.sz k ∧ i.bytes ≤ 512 ∧ ZeroL z.cells.toList (U.enc k (U.dfl k))
  | .agg fs => ∃ fields : Array Field, P.underlying t = some (.struct fields) ∧ FieldsOk P fields.toList fs
  | .map k => MapTy P U t k
  | .arr n m g => ∃ (n' : Nat) (e : TypeId) (i : TypeInfo), P.underlying t = some (.array n' e) ∧ P.info? e = some i ∧ i.size = m
  | .other => True

def LayOk (P : Program) (t : TypeId) : Option Lay → Prop
  | some L => ∃ (i : TypeInfo) (z : Value) (d : TypeDesc), P.info? t = some i ∧ i.size = L.size ∧ i.zero = some z ∧ z.cells.toList = L.zero ∧ P.underlying t = some d ∧ descAgg d = L.agg
  | none => True

def AllP {α : Type} (Q : Nat → α → Prop) : List (Nat × α) → Prop
  | [] => True
  | x :: r => Q x.1 x.2 ∧ AllP Q r

theorem look_all {α : Type} {Q : Nat → α → Prop} {d : α} (hd : ∀ t, Q t d) : ∀ {l : List (Nat × α)}, AllP Q l → ∀ t, Q t (look d l t)
  | [], _, t => hd t
  | (j, x) :: r, h, t => by
    rw [look_cons]
    by_cases e : j = t
    · subst e; rw [if_pos rfl]; exact h.1
    · rw [if_neg e]; exact look_all hd h.2 t

def CmpOk (P : Program) (t : TypeId) : Option (List CK) → Prop
  | some cs => cmpAt P 20 t = some cs ∧ P.eqGuardType P.depth t = false ∧ ∃ fs, P.underlying t = some (.struct fs)
  | none => True

theorem tab_of {l1 : List (Nat × Ty)} {l2 : List (Nat × Option Lay)} {l3 : List (Nat × Option (List CK))} (h1 : AllP (TyOk P U) l1) (h2 : AllP (LayOk P) l2) (h3 : AllP (CmpOk P) l3) : TabOk P U { ty := look .other l1, lay := look none l2, cmp := look none l3 } := by
  have a := look_all (Q := TyOk P U) (d := Ty.other) (fun t => trivial) h1
  have b := look_all (Q := LayOk P) (d := none) (fun t => trivial) h2
  have c := look_all (Q := CmpOk P) (d := none) (fun t => trivial) h3
  refine ⟨fun t k e => ?_, fun t e => ?_, fun t e => ?_, fun t k e => ?_, fun t fs e => ?_, fun t L e => ?_, fun t k e => ?_, fun t n m g e => ?_, fun t cs e => ?_⟩
  · have := a t; dsimp only at e; rw [e] at this; exact this
  · have := a t; dsimp only at e; rw [e] at this; exact this
  · have := a t; dsimp only at e; rw [e] at this; exact this
  · have := a t; dsimp only at e; rw [e] at this; exact this
  · have := a t; dsimp only at e; rw [e] at this
    obtain ⟨fields, h1, h2⟩ := this
    obtain ⟨k1, k2⟩ := fieldsOk_get h2
    exact ⟨fields, h1, by simpa using k1, fun f off n g h => by obtain ⟨fd, i, d, q, r⟩ := k2 f off n g h; exact ⟨fd, i, d, by simpa using q, r⟩⟩
  · have := b t; dsimp only at e; rw [e] at this; exact this
  · have := a t; dsimp only at e; rw [e] at this; exact this
  · have := a t; dsimp only at e; rw [e] at this; exact this
  · have := c t; dsimp only at e; rw [e] at this; exact this

theorem Pinned.sub {M : Own} {a b : List Nat} (h : Pinned M a) (hs : (a.all fun i => b.any (Nat.beq i)) = true) : Pinned M b := fun i v hv => by
  have := List.all_eq_true.1 hs i (h i v hv)
  obtain ⟨j, hj, e⟩ := List.any_eq_true.1 this
  have := Nat.eq_of_beq_eq_true e
  subst this; exact hj

end
end Go.Proofs.YtchohkelpjfpcaaDoor.AX

/- The facts of the table. No conditions. -/
set_option maxRecDepth 100000
namespace Go.Proofs.YtchohkelpjfpcaaDoor.AX
open Go Go.Proofs.Tryd
theorem ty2 : TyOk prog uni 2 (.int .i64) := underlying2
theorem ty3 : TyOk prog uni 3 (.int .i64) := underlying3
theorem ty4 : TyOk prog uni 4 (.bool) := underlying4
theorem ty5 : TyOk prog uni 5 (.int .u8) := underlying5
theorem ty6 : TyOk prog uni 6 (.int .u8) := underlying6
theorem ty7 : TyOk prog uni 7 (.agg [(0, 1, false), (1, 1, false), (2, 1, false), (3, 1, false)]) := ⟨_, underlying7, rfl, ⟨_, _, type2, rfl, by decide, underlying2, rfl⟩, rfl, ⟨_, _, type3, rfl, by decide, underlying3, rfl⟩, rfl, ⟨_, _, type4, rfl, by decide, underlying4, rfl⟩, rfl, ⟨_, _, type6, rfl, by decide, underlying6, rfl⟩, trivial⟩
theorem ty8 : TyOk prog uni 8 (.agg [(0, 1, false), (1, 1, false), (2, 1, false), (3, 1, false)]) := ⟨_, underlying8, rfl, ⟨_, _, type2, rfl, by decide, underlying2, rfl⟩, rfl, ⟨_, _, type3, rfl, by decide, underlying3, rfl⟩, rfl, ⟨_, _, type4, rfl, by decide, underlying4, rfl⟩, rfl, ⟨_, _, type6, rfl, by decide, underlying6, rfl⟩, trivial⟩
theorem ty9 : TyOk prog uni 9 (.str) := underlying9
theorem ty10 : TyOk prog uni 10 (.str) := underlying10
theorem ty11 : TyOk prog uni 11 (.str) := underlying11
theorem ty12 : TyOk prog uni 12 (.int .u64) := underlying12
theorem ty13 : TyOk prog uni 13 (.agg [(0, 1, false), (1, 1, false)]) := ⟨_, underlying13, rfl, ⟨_, _, type9, rfl, by decide, underlying9, rfl⟩, rfl, ⟨_, _, type12, rfl, by decide, underlying12, rfl⟩, trivial⟩
theorem ty14 : TyOk prog uni 14 (.agg [(0, 1, false), (1, 1, false)]) := ⟨_, underlying14, rfl, ⟨_, _, type9, rfl, by decide, underlying9, rfl⟩, rfl, ⟨_, _, type12, rfl, by decide, underlying12, rfl⟩, trivial⟩
theorem ty18 : TyOk prog uni 18 (.agg [(0, 1, false)]) := ⟨_, underlying18, rfl, ⟨_, _, type17, rfl, by decide, underlying17, rfl⟩, trivial⟩
theorem ty19 : TyOk prog uni 19 (.agg [(0, 1, false)]) := ⟨_, underlying19, rfl, ⟨_, _, type17, rfl, by decide, underlying17, rfl⟩, trivial⟩
theorem ty21 : TyOk prog uni 21 (.int .i32) := underlying21
theorem ty22 : TyOk prog uni 22 (.agg [(0, 1, false), (1, 1, false), (2, 1, false)]) := ⟨_, underlying22, rfl, ⟨_, _, type3, rfl, by decide, underlying3, rfl⟩, rfl, ⟨_, _, type3, rfl, by decide, underlying3, rfl⟩, rfl, ⟨_, _, type3, rfl, by decide, underlying3, rfl⟩, trivial⟩
theorem ty23 : TyOk prog uni 23 (.agg [(0, 1, false), (1, 1, false), (2, 1, false)]) := ⟨_, underlying23, rfl, ⟨_, _, type3, rfl, by decide, underlying3, rfl⟩, rfl, ⟨_, _, type3, rfl, by decide, underlying3, rfl⟩, rfl, ⟨_, _, type3, rfl, by decide, underlying3, rfl⟩, trivial⟩
theorem ty24 : TyOk prog uni 24 (.slice 0) := ⟨underlying24, _, _, type65, rfl, rfl, rfl, by decide, by decide, ⟨rfl, rfl, rfl, rfl, trivial⟩⟩
theorem ty25 : TyOk prog uni 25 (.slice 1) := ⟨underlying25, _, _, type77, rfl, rfl, rfl, by decide, by decide, ⟨rfl, rfl, rfl, rfl, rfl, rfl, trivial⟩⟩
theorem ty30 : TyOk prog uni 30 (.agg [(0, 1, false), (1, 1, false), (2, 1, false)]) := ⟨_, underlying30, rfl, ⟨_, _, type3, rfl, by decide, underlying3, rfl⟩, rfl, ⟨_, _, type3, rfl, by decide, underlying3, rfl⟩, rfl, ⟨_, _, type3, rfl, by decide, underlying3, rfl⟩, trivial⟩
theorem ty32 : TyOk prog uni 32 (.slice 2) := ⟨underlying32, _, _, type55, rfl, rfl, rfl, by decide, by decide, ⟨rfl, rfl, rfl, rfl, trivial⟩⟩
theorem ty34 : TyOk prog uni 34 (.slice 3) := ⟨underlying34, _, _, type57, rfl, rfl, rfl, by decide, by decide, ⟨rfl, rfl, rfl, rfl, rfl, rfl, trivial⟩⟩
theorem ty44 : TyOk prog uni 44 (.slice 4) := ⟨underlying44, _, _, type5, rfl, rfl, rfl, by decide, by decide, ⟨rfl, trivial⟩⟩
theorem ty47 : TyOk prog uni 47 (.slice 5) := ⟨underlying47, _, _, type3, rfl, rfl, rfl, by decide, by decide, ⟨rfl, trivial⟩⟩
theorem ty48 : TyOk prog uni 48 (.agg [(0, 1, false), (1, 1, false), (2, 1, false), (3, 1, false), (4, 1, false)]) := ⟨_, underlying48, rfl, ⟨_, _, type3, rfl, by decide, underlying3, rfl⟩, rfl, ⟨_, _, type3, rfl, by decide, underlying3, rfl⟩, rfl, ⟨_, _, type3, rfl, by decide, underlying3, rfl⟩, rfl, ⟨_, _, type3, rfl, by decide, underlying3, rfl⟩, rfl, ⟨_, _, type47, rfl, by decide, underlying47, rfl⟩, trivial⟩
theorem ty49 : TyOk prog uni 49 (.agg [(0, 1, false), (1, 1, false), (2, 1, false), (3, 1, false), (4, 1, false)]) := ⟨_, underlying49, rfl, ⟨_, _, type3, rfl, by decide, underlying3, rfl⟩, rfl, ⟨_, _, type3, rfl, by decide, underlying3, rfl⟩, rfl, ⟨_, _, type3, rfl, by decide, underlying3, rfl⟩, rfl, ⟨_, _, type3, rfl, by decide, underlying3, rfl⟩, rfl, ⟨_, _, type47, rfl, by decide, underlying47, rfl⟩, trivial⟩
theorem ty53 : TyOk prog uni 53 (.slice 6) := ⟨underlying53, _, _, type70, rfl, rfl, rfl, by decide, by decide, ⟨rfl, rfl, rfl, rfl, trivial⟩⟩
theorem ty54 : TyOk prog uni 54 (.agg [(0, 1, false), (1, 1, false), (2, 1, false)]) := ⟨_, underlying54, rfl, ⟨_, _, type9, rfl, by decide, underlying9, rfl⟩, rfl, ⟨_, _, type3, rfl, by decide, underlying3, rfl⟩, rfl, ⟨_, _, type53, rfl, by decide, underlying53, rfl⟩, trivial⟩
theorem ty55 : TyOk prog uni 55 (.agg [(0, 1, false), (1, 1, false), (2, 1, false)]) := ⟨_, underlying55, rfl, ⟨_, _, type9, rfl, by decide, underlying9, rfl⟩, rfl, ⟨_, _, type3, rfl, by decide, underlying3, rfl⟩, rfl, ⟨_, _, type53, rfl, by decide, underlying53, rfl⟩, trivial⟩
theorem ty56 : TyOk prog uni 56 (.agg [(0, 1, false), (1, 1, false), (2, 1, false), (3, 1, false), (4, 1, false), (5, 1, false)]) := ⟨_, underlying56, rfl, ⟨_, _, type3, rfl, by decide, underlying3, rfl⟩, rfl, ⟨_, _, type3, rfl, by decide, underlying3, rfl⟩, rfl, ⟨_, _, type3, rfl, by decide, underlying3, rfl⟩, rfl, ⟨_, _, type3, rfl, by decide, underlying3, rfl⟩, rfl, ⟨_, _, type3, rfl, by decide, underlying3, rfl⟩, rfl, ⟨_, _, type4, rfl, by decide, underlying4, rfl⟩, trivial⟩
theorem ty57 : TyOk prog uni 57 (.agg [(0, 1, false), (1, 1, false), (2, 1, false), (3, 1, false), (4, 1, false), (5, 1, false)]) := ⟨_, underlying57, rfl, ⟨_, _, type3, rfl, by decide, underlying3, rfl⟩, rfl, ⟨_, _, type3, rfl, by decide, underlying3, rfl⟩, rfl, ⟨_, _, type3, rfl, by decide, underlying3, rfl⟩, rfl, ⟨_, _, type3, rfl, by decide, underlying3, rfl⟩, rfl, ⟨_, _, type3, rfl, by decide, underlying3, rfl⟩, rfl, ⟨_, _, type4, rfl, by decide, underlying4, rfl⟩, trivial⟩
theorem ty63 : TyOk prog uni 63 (.slice 7) := ⟨underlying63, _, _, type114, rfl, rfl, rfl, by decide, by decide, ⟨rfl, rfl, rfl, rfl, trivial⟩⟩
theorem ty64 : TyOk prog uni 64 (.agg [(0, 1, false), (1, 1, false), (2, 1, false)]) := ⟨_, underlying64, rfl, ⟨_, _, type9, rfl, by decide, underlying9, rfl⟩, rfl, ⟨_, _, type3, rfl, by decide, underlying3, rfl⟩, rfl, ⟨_, _, type63, rfl, by decide, underlying63, rfl⟩, trivial⟩
theorem ty65 : TyOk prog uni 65 (.agg [(0, 1, false), (1, 1, false), (2, 1, false)]) := ⟨_, underlying65, rfl, ⟨_, _, type9, rfl, by decide, underlying9, rfl⟩, rfl, ⟨_, _, type3, rfl, by decide, underlying3, rfl⟩, rfl, ⟨_, _, type63, rfl, by decide, underlying63, rfl⟩, trivial⟩
theorem ty67 : TyOk prog uni 67 (.slice 8) := ⟨underlying67, _, _, type72, rfl, rfl, rfl, by decide, by decide, ⟨rfl, rfl, rfl, trivial⟩⟩
theorem ty69 : TyOk prog uni 69 (.agg [(0, 1, false), (1, 1, false), (2, 1, false), (3, 1, false)]) := ⟨_, underlying69, rfl, ⟨_, _, type3, rfl, by decide, underlying3, rfl⟩, rfl, ⟨_, _, type3, rfl, by decide, underlying3, rfl⟩, rfl, ⟨_, _, type3, rfl, by decide, underlying3, rfl⟩, rfl, ⟨_, _, type3, rfl, by decide, underlying3, rfl⟩, trivial⟩
theorem ty70 : TyOk prog uni 70 (.agg [(0, 1, false), (1, 1, false), (2, 1, false), (3, 1, false)]) := ⟨_, underlying70, rfl, ⟨_, _, type3, rfl, by decide, underlying3, rfl⟩, rfl, ⟨_, _, type3, rfl, by decide, underlying3, rfl⟩, rfl, ⟨_, _, type3, rfl, by decide, underlying3, rfl⟩, rfl, ⟨_, _, type3, rfl, by decide, underlying3, rfl⟩, trivial⟩
theorem ty71 : TyOk prog uni 71 (.agg [(0, 1, false), (1, 1, false), (2, 1, false)]) := ⟨_, underlying71, rfl, ⟨_, _, type3, rfl, by decide, underlying3, rfl⟩, rfl, ⟨_, _, type3, rfl, by decide, underlying3, rfl⟩, rfl, ⟨_, _, type3, rfl, by decide, underlying3, rfl⟩, trivial⟩
theorem ty72 : TyOk prog uni 72 (.agg [(0, 1, false), (1, 1, false), (2, 1, false)]) := ⟨_, underlying72, rfl, ⟨_, _, type3, rfl, by decide, underlying3, rfl⟩, rfl, ⟨_, _, type3, rfl, by decide, underlying3, rfl⟩, rfl, ⟨_, _, type3, rfl, by decide, underlying3, rfl⟩, trivial⟩
theorem ty77 : TyOk prog uni 77 (.agg [(0, 1, false), (1, 1, false), (2, 1, false), (3, 1, false), (4, 1, false), (5, 1, false)]) := ⟨_, underlying77, rfl, ⟨_, _, type3, rfl, by decide, underlying3, rfl⟩, rfl, ⟨_, _, type3, rfl, by decide, underlying3, rfl⟩, rfl, ⟨_, _, type3, rfl, by decide, underlying3, rfl⟩, rfl, ⟨_, _, type3, rfl, by decide, underlying3, rfl⟩, rfl, ⟨_, _, type3, rfl, by decide, underlying3, rfl⟩, rfl, ⟨_, _, type4, rfl, by decide, underlying4, rfl⟩, trivial⟩
theorem ty78 : TyOk prog uni 78 (.map 12) := ⟨82, 3, _, _, _, _, _, _, [.int .i64 0, .int .i64 0], [.int .i64 0], underlying78, rfl, by kernel_rfl, underlying82, rfl, type3, rfl, rfl, rfl, rfl⟩
theorem ty79 : TyOk prog uni 79 (.slice 9) := ⟨underlying79, _, _, type86, rfl, rfl, rfl, by decide, by decide, ⟨rfl, rfl, rfl, trivial⟩⟩
theorem ty81 : TyOk prog uni 81 (.agg [(0, 1, false), (1, 1, false)]) := ⟨_, underlying81, rfl, ⟨_, _, type3, rfl, by decide, underlying3, rfl⟩, rfl, ⟨_, _, type3, rfl, by decide, underlying3, rfl⟩, trivial⟩
theorem ty82 : TyOk prog uni 82 (.agg [(0, 1, false), (1, 1, false)]) := ⟨_, underlying82, rfl, ⟨_, _, type3, rfl, by decide, underlying3, rfl⟩, rfl, ⟨_, _, type3, rfl, by decide, underlying3, rfl⟩, trivial⟩
theorem ty85 : TyOk prog uni 85 (.agg [(0, 1, false), (1, 1, false), (2, 1, false)]) := ⟨_, underlying85, rfl, ⟨_, _, type3, rfl, by decide, underlying3, rfl⟩, rfl, ⟨_, _, type3, rfl, by decide, underlying3, rfl⟩, rfl, ⟨_, _, type3, rfl, by decide, underlying3, rfl⟩, trivial⟩
theorem ty86 : TyOk prog uni 86 (.agg [(0, 1, false), (1, 1, false), (2, 1, false)]) := ⟨_, underlying86, rfl, ⟨_, _, type3, rfl, by decide, underlying3, rfl⟩, rfl, ⟨_, _, type3, rfl, by decide, underlying3, rfl⟩, rfl, ⟨_, _, type3, rfl, by decide, underlying3, rfl⟩, trivial⟩
theorem ty95 : TyOk prog uni 95 (.map 13) := ⟨96, 4, _, _, _, _, _, _, [.int .i64 0, .int .i64 0], [.bool false], underlying95, rfl, by kernel_rfl, underlying96, rfl, type4, rfl, rfl, rfl, rfl⟩
theorem ty96 : TyOk prog uni 96 (.arr 2 1 false) := ⟨_, 3, _, underlying96, type3, rfl⟩
theorem ty97 : TyOk prog uni 97 (.slice 10) := ⟨underlying97, _, _, type4, rfl, rfl, rfl, by decide, by decide, ⟨rfl, trivial⟩⟩
theorem ty104 : TyOk prog uni 104 (.map 14) := ⟨9, 4, _, _, _, _, _, _, [.string ⟨#[]⟩], [.bool false], underlying104, rfl, by kernel_rfl, underlying9, rfl, type4, rfl, rfl, rfl, rfl⟩
theorem ty106 : TyOk prog uni 106 (.agg [(0, 1, false), (1, 1, false), (2, 1, false)]) := ⟨_, underlying106, rfl, ⟨_, _, type44, rfl, by decide, underlying44, rfl⟩, rfl, ⟨_, _, type3, rfl, by decide, underlying3, rfl⟩, rfl, ⟨_, _, type3, rfl, by decide, underlying3, rfl⟩, trivial⟩
theorem ty107 : TyOk prog uni 107 (.agg [(0, 1, false), (1, 1, false), (2, 1, false)]) := ⟨_, underlying107, rfl, ⟨_, _, type44, rfl, by decide, underlying44, rfl⟩, rfl, ⟨_, _, type3, rfl, by decide, underlying3, rfl⟩, rfl, ⟨_, _, type3, rfl, by decide, underlying3, rfl⟩, trivial⟩
theorem ty109 : TyOk prog uni 109 (.slice 11) := ⟨underlying109, _, _, type9, rfl, rfl, rfl, by decide, by decide, ⟨rfl, trivial⟩⟩
theorem ty114 : TyOk prog uni 114 (.agg [(0, 1, false), (1, 1, false), (2, 1, false), (3, 1, false)]) := ⟨_, underlying114, rfl, ⟨_, _, type3, rfl, by decide, underlying3, rfl⟩, rfl, ⟨_, _, type3, rfl, by decide, underlying3, rfl⟩, rfl, ⟨_, _, type3, rfl, by decide, underlying3, rfl⟩, rfl, ⟨_, _, type3, rfl, by decide, underlying3, rfl⟩, trivial⟩
theorem ty121 : TyOk prog uni 121 (.int .u64) := underlying121
theorem ty122 : TyOk prog uni 122 (.agg [(0, 1, false), (1, 1, false)]) := ⟨_, underlying122, rfl, ⟨_, _, type5, rfl, by decide, underlying5, rfl⟩, rfl, ⟨_, _, type5, rfl, by decide, underlying5, rfl⟩, trivial⟩
theorem ty123 : TyOk prog uni 123 (.agg [(0, 1, false), (1, 1, false)]) := ⟨_, underlying123, rfl, ⟨_, _, type5, rfl, by decide, underlying5, rfl⟩, rfl, ⟨_, _, type5, rfl, by decide, underlying5, rfl⟩, trivial⟩
theorem ty126 : TyOk prog uni 126 (.agg [(0, 1, false), (1, 1, false), (2, 1, false), (3, 1, false)]) := ⟨_, underlying126, rfl, ⟨_, _, type17, rfl, by decide, underlying17, rfl⟩, rfl, ⟨_, _, type17, rfl, by decide, underlying17, rfl⟩, rfl, ⟨_, _, type17, rfl, by decide, underlying17, rfl⟩, rfl, ⟨_, _, type9, rfl, by decide, underlying9, rfl⟩, trivial⟩
theorem ty127 : TyOk prog uni 127 (.agg [(0, 1, false), (1, 1, false), (2, 1, false), (3, 1, false)]) := ⟨_, underlying127, rfl, ⟨_, _, type17, rfl, by decide, underlying17, rfl⟩, rfl, ⟨_, _, type17, rfl, by decide, underlying17, rfl⟩, rfl, ⟨_, _, type17, rfl, by decide, underlying17, rfl⟩, rfl, ⟨_, _, type9, rfl, by decide, underlying9, rfl⟩, trivial⟩
theorem ty131 : TyOk prog uni 131 (.int .u32) := underlying131
theorem ty132 : TyOk prog uni 132 (.int .u8) := underlying132
theorem ty133 : TyOk prog uni 133 (.int .u8) := underlying133
theorem ty136 : TyOk prog uni 136 (.int .i32) := underlying136
theorem ty137 : TyOk prog uni 137 (.int .i32) := underlying137
theorem lay2 : LayOk prog 2 (some ⟨1, false, [.int .i64 0]⟩) := ⟨_, _, _, type2, rfl, rfl, rfl, underlying2, rfl⟩
theorem lay3 : LayOk prog 3 (some ⟨1, false, [.int .i64 0]⟩) := ⟨_, _, _, type3, rfl, rfl, rfl, underlying3, rfl⟩
theorem lay4 : LayOk prog 4 (some ⟨1, false, [.bool false]⟩) := ⟨_, _, _, type4, rfl, rfl, rfl, underlying4, rfl⟩
theorem lay5 : LayOk prog 5 (some ⟨1, false, [.int .u8 0]⟩) := ⟨_, _, _, type5, rfl, rfl, rfl, underlying5, rfl⟩
theorem lay6 : LayOk prog 6 (some ⟨1, false, [.int .u8 0]⟩) := ⟨_, _, _, type6, rfl, rfl, rfl, underlying6, rfl⟩
theorem lay7 : LayOk prog 7 (some ⟨4, true, [.int .i64 0, .int .i64 0, .bool false, .int .u8 0]⟩) := ⟨_, _, _, type7, rfl, rfl, rfl, underlying7, rfl⟩
theorem lay8 : LayOk prog 8 (some ⟨4, true, [.int .i64 0, .int .i64 0, .bool false, .int .u8 0]⟩) := ⟨_, _, _, type8, rfl, rfl, rfl, underlying8, rfl⟩
theorem lay9 : LayOk prog 9 (some ⟨1, false, [.string ⟨#[]⟩]⟩) := ⟨_, _, _, type9, rfl, rfl, rfl, underlying9, rfl⟩
theorem lay10 : LayOk prog 10 (some ⟨1, false, [.string ⟨#[]⟩]⟩) := ⟨_, _, _, type10, rfl, rfl, rfl, underlying10, rfl⟩
theorem lay11 : LayOk prog 11 (some ⟨1, false, [.string ⟨#[]⟩]⟩) := ⟨_, _, _, type11, rfl, rfl, rfl, underlying11, rfl⟩
theorem lay12 : LayOk prog 12 (some ⟨1, false, [.int .u64 0]⟩) := ⟨_, _, _, type12, rfl, rfl, rfl, underlying12, rfl⟩
theorem lay13 : LayOk prog 13 (some ⟨2, true, [.string ⟨#[]⟩, .int .u64 0]⟩) := ⟨_, _, _, type13, rfl, rfl, rfl, underlying13, rfl⟩
theorem lay14 : LayOk prog 14 (some ⟨2, true, [.string ⟨#[]⟩, .int .u64 0]⟩) := ⟨_, _, _, type14, rfl, rfl, rfl, underlying14, rfl⟩
theorem lay15 : LayOk prog 15 (some ⟨1, false, [.pointer none]⟩) := ⟨_, _, _, type15, rfl, rfl, rfl, underlying15, rfl⟩
theorem lay16 : LayOk prog 16 (some ⟨1, false, [.pointer none]⟩) := ⟨_, _, _, type16, rfl, rfl, rfl, underlying16, rfl⟩
theorem lay17 : LayOk prog 17 (some ⟨1, false, [.pointer none]⟩) := ⟨_, _, _, type17, rfl, rfl, rfl, underlying17, rfl⟩
theorem lay18 : LayOk prog 18 (some ⟨1, true, [.pointer none]⟩) := ⟨_, _, _, type18, rfl, rfl, rfl, underlying18, rfl⟩
theorem lay19 : LayOk prog 19 (some ⟨1, true, [.pointer none]⟩) := ⟨_, _, _, type19, rfl, rfl, rfl, underlying19, rfl⟩
theorem lay21 : LayOk prog 21 (some ⟨1, false, [.int .i32 0]⟩) := ⟨_, _, _, type21, rfl, rfl, rfl, underlying21, rfl⟩
theorem lay22 : LayOk prog 22 (some ⟨3, true, [.int .i64 0, .int .i64 0, .int .i64 0]⟩) := ⟨_, _, _, type22, rfl, rfl, rfl, underlying22, rfl⟩
theorem lay23 : LayOk prog 23 (some ⟨3, true, [.int .i64 0, .int .i64 0, .int .i64 0]⟩) := ⟨_, _, _, type23, rfl, rfl, rfl, underlying23, rfl⟩
theorem lay24 : LayOk prog 24 (some ⟨1, false, [.slice none 0 0]⟩) := ⟨_, _, _, type24, rfl, rfl, rfl, underlying24, rfl⟩
theorem lay25 : LayOk prog 25 (some ⟨1, false, [.slice none 0 0]⟩) := ⟨_, _, _, type25, rfl, rfl, rfl, underlying25, rfl⟩
theorem lay30 : LayOk prog 30 (some ⟨3, true, [.int .i64 0, .int .i64 0, .int .i64 0]⟩) := ⟨_, _, _, type30, rfl, rfl, rfl, underlying30, rfl⟩
theorem lay32 : LayOk prog 32 (some ⟨1, false, [.slice none 0 0]⟩) := ⟨_, _, _, type32, rfl, rfl, rfl, underlying32, rfl⟩
theorem lay34 : LayOk prog 34 (some ⟨1, false, [.slice none 0 0]⟩) := ⟨_, _, _, type34, rfl, rfl, rfl, underlying34, rfl⟩
theorem lay44 : LayOk prog 44 (some ⟨1, false, [.slice none 0 0]⟩) := ⟨_, _, _, type44, rfl, rfl, rfl, underlying44, rfl⟩
theorem lay47 : LayOk prog 47 (some ⟨1, false, [.slice none 0 0]⟩) := ⟨_, _, _, type47, rfl, rfl, rfl, underlying47, rfl⟩
theorem lay48 : LayOk prog 48 (some ⟨5, true, [.int .i64 0, .int .i64 0, .int .i64 0, .int .i64 0, .slice none 0 0]⟩) := ⟨_, _, _, type48, rfl, rfl, rfl, underlying48, rfl⟩
theorem lay49 : LayOk prog 49 (some ⟨5, true, [.int .i64 0, .int .i64 0, .int .i64 0, .int .i64 0, .slice none 0 0]⟩) := ⟨_, _, _, type49, rfl, rfl, rfl, underlying49, rfl⟩
theorem lay53 : LayOk prog 53 (some ⟨1, false, [.slice none 0 0]⟩) := ⟨_, _, _, type53, rfl, rfl, rfl, underlying53, rfl⟩
theorem lay54 : LayOk prog 54 (some ⟨3, true, [.string ⟨#[]⟩, .int .i64 0, .slice none 0 0]⟩) := ⟨_, _, _, type54, rfl, rfl, rfl, underlying54, rfl⟩
theorem lay55 : LayOk prog 55 (some ⟨3, true, [.string ⟨#[]⟩, .int .i64 0, .slice none 0 0]⟩) := ⟨_, _, _, type55, rfl, rfl, rfl, underlying55, rfl⟩
theorem lay56 : LayOk prog 56 (some ⟨6, true, [.int .i64 0, .int .i64 0, .int .i64 0, .int .i64 0, .int .i64 0, .bool false]⟩) := ⟨_, _, _, type56, rfl, rfl, rfl, underlying56, rfl⟩
theorem lay57 : LayOk prog 57 (some ⟨6, true, [.int .i64 0, .int .i64 0, .int .i64 0, .int .i64 0, .int .i64 0, .bool false]⟩) := ⟨_, _, _, type57, rfl, rfl, rfl, underlying57, rfl⟩
theorem lay63 : LayOk prog 63 (some ⟨1, false, [.slice none 0 0]⟩) := ⟨_, _, _, type63, rfl, rfl, rfl, underlying63, rfl⟩
theorem lay64 : LayOk prog 64 (some ⟨3, true, [.string ⟨#[]⟩, .int .i64 0, .slice none 0 0]⟩) := ⟨_, _, _, type64, rfl, rfl, rfl, underlying64, rfl⟩
theorem lay65 : LayOk prog 65 (some ⟨3, true, [.string ⟨#[]⟩, .int .i64 0, .slice none 0 0]⟩) := ⟨_, _, _, type65, rfl, rfl, rfl, underlying65, rfl⟩
theorem lay67 : LayOk prog 67 (some ⟨1, false, [.slice none 0 0]⟩) := ⟨_, _, _, type67, rfl, rfl, rfl, underlying67, rfl⟩
theorem lay69 : LayOk prog 69 (some ⟨4, true, [.int .i64 0, .int .i64 0, .int .i64 0, .int .i64 0]⟩) := ⟨_, _, _, type69, rfl, rfl, rfl, underlying69, rfl⟩
theorem lay70 : LayOk prog 70 (some ⟨4, true, [.int .i64 0, .int .i64 0, .int .i64 0, .int .i64 0]⟩) := ⟨_, _, _, type70, rfl, rfl, rfl, underlying70, rfl⟩
theorem lay71 : LayOk prog 71 (some ⟨3, true, [.int .i64 0, .int .i64 0, .int .i64 0]⟩) := ⟨_, _, _, type71, rfl, rfl, rfl, underlying71, rfl⟩
theorem lay72 : LayOk prog 72 (some ⟨3, true, [.int .i64 0, .int .i64 0, .int .i64 0]⟩) := ⟨_, _, _, type72, rfl, rfl, rfl, underlying72, rfl⟩
theorem lay77 : LayOk prog 77 (some ⟨6, true, [.int .i64 0, .int .i64 0, .int .i64 0, .int .i64 0, .int .i64 0, .bool false]⟩) := ⟨_, _, _, type77, rfl, rfl, rfl, underlying77, rfl⟩
theorem lay78 : LayOk prog 78 (some ⟨1, false, [.map none]⟩) := ⟨_, _, _, type78, rfl, rfl, rfl, underlying78, rfl⟩
theorem lay79 : LayOk prog 79 (some ⟨1, false, [.slice none 0 0]⟩) := ⟨_, _, _, type79, rfl, rfl, rfl, underlying79, rfl⟩
theorem lay81 : LayOk prog 81 (some ⟨2, true, [.int .i64 0, .int .i64 0]⟩) := ⟨_, _, _, type81, rfl, rfl, rfl, underlying81, rfl⟩
theorem lay82 : LayOk prog 82 (some ⟨2, true, [.int .i64 0, .int .i64 0]⟩) := ⟨_, _, _, type82, rfl, rfl, rfl, underlying82, rfl⟩
theorem lay84 : LayOk prog 84 (some ⟨1, false, [.pointer none]⟩) := ⟨_, _, _, type84, rfl, rfl, rfl, underlying84, rfl⟩
theorem lay85 : LayOk prog 85 (some ⟨3, true, [.int .i64 0, .int .i64 0, .int .i64 0]⟩) := ⟨_, _, _, type85, rfl, rfl, rfl, underlying85, rfl⟩
theorem lay86 : LayOk prog 86 (some ⟨3, true, [.int .i64 0, .int .i64 0, .int .i64 0]⟩) := ⟨_, _, _, type86, rfl, rfl, rfl, underlying86, rfl⟩
theorem lay92 : LayOk prog 92 (some ⟨1, false, [.pointer none]⟩) := ⟨_, _, _, type92, rfl, rfl, rfl, underlying92, rfl⟩
theorem lay95 : LayOk prog 95 (some ⟨1, false, [.map none]⟩) := ⟨_, _, _, type95, rfl, rfl, rfl, underlying95, rfl⟩
theorem lay96 : LayOk prog 96 (some ⟨2, true, [.int .i64 0, .int .i64 0]⟩) := ⟨_, _, _, type96, rfl, rfl, rfl, underlying96, rfl⟩
theorem lay97 : LayOk prog 97 (some ⟨1, false, [.slice none 0 0]⟩) := ⟨_, _, _, type97, rfl, rfl, rfl, underlying97, rfl⟩
theorem lay104 : LayOk prog 104 (some ⟨1, false, [.map none]⟩) := ⟨_, _, _, type104, rfl, rfl, rfl, underlying104, rfl⟩
theorem lay106 : LayOk prog 106 (some ⟨3, true, [.slice none 0 0, .int .i64 0, .int .i64 0]⟩) := ⟨_, _, _, type106, rfl, rfl, rfl, underlying106, rfl⟩
theorem lay107 : LayOk prog 107 (some ⟨3, true, [.slice none 0 0, .int .i64 0, .int .i64 0]⟩) := ⟨_, _, _, type107, rfl, rfl, rfl, underlying107, rfl⟩
theorem lay109 : LayOk prog 109 (some ⟨1, false, [.slice none 0 0]⟩) := ⟨_, _, _, type109, rfl, rfl, rfl, underlying109, rfl⟩
theorem lay114 : LayOk prog 114 (some ⟨4, true, [.int .i64 0, .int .i64 0, .int .i64 0, .int .i64 0]⟩) := ⟨_, _, _, type114, rfl, rfl, rfl, underlying114, rfl⟩
theorem lay121 : LayOk prog 121 (some ⟨1, false, [.int .u64 0]⟩) := ⟨_, _, _, type121, rfl, rfl, rfl, underlying121, rfl⟩
theorem lay122 : LayOk prog 122 (some ⟨2, true, [.int .u8 0, .int .u8 0]⟩) := ⟨_, _, _, type122, rfl, rfl, rfl, underlying122, rfl⟩
theorem lay123 : LayOk prog 123 (some ⟨2, true, [.int .u8 0, .int .u8 0]⟩) := ⟨_, _, _, type123, rfl, rfl, rfl, underlying123, rfl⟩
theorem lay126 : LayOk prog 126 (some ⟨4, true, [.pointer none, .pointer none, .pointer none, .string ⟨#[]⟩]⟩) := ⟨_, _, _, type126, rfl, rfl, rfl, underlying126, rfl⟩
theorem lay127 : LayOk prog 127 (some ⟨4, true, [.pointer none, .pointer none, .pointer none, .string ⟨#[]⟩]⟩) := ⟨_, _, _, type127, rfl, rfl, rfl, underlying127, rfl⟩
theorem lay131 : LayOk prog 131 (some ⟨1, false, [.int .u32 0]⟩) := ⟨_, _, _, type131, rfl, rfl, rfl, underlying131, rfl⟩
theorem lay132 : LayOk prog 132 (some ⟨1, false, [.int .u8 0]⟩) := ⟨_, _, _, type132, rfl, rfl, rfl, underlying132, rfl⟩
theorem lay133 : LayOk prog 133 (some ⟨1, false, [.int .u8 0]⟩) := ⟨_, _, _, type133, rfl, rfl, rfl, underlying133, rfl⟩
theorem lay135 : LayOk prog 135 (some ⟨1, false, [.pointer none]⟩) := ⟨_, _, _, type135, rfl, rfl, rfl, underlying135, rfl⟩
theorem lay136 : LayOk prog 136 (some ⟨1, false, [.int .i32 0]⟩) := ⟨_, _, _, type136, rfl, rfl, rfl, underlying136, rfl⟩
theorem lay137 : LayOk prog 137 (some ⟨1, false, [.int .i32 0]⟩) := ⟨_, _, _, type137, rfl, rfl, rfl, underlying137, rfl⟩
theorem cmp57 : CmpOk prog 57 (some [.int .i64, .int .i64, .int .i64, .int .i64, .int .i64, .bool]) := ⟨by kernel_rfl, by kernel_rfl, _, underlying57⟩
theorem tabOk : TabOk prog uni tab := tab_of (l1 := tyL) (l2 := layL) (l3 := cmpL) ⟨ty2, ty3, ty4, ty5, ty6, ty7, ty8, ty9, ty10, ty11, ty12, ty13, ty14, ty18, ty19, ty21, ty22, ty23, ty24, ty25, ty30, ty32, ty34, ty44, ty47, ty48, ty49, ty53, ty54, ty55, ty56, ty57, ty63, ty64, ty65, ty67, ty69, ty70, ty71, ty72, ty77, ty78, ty79, ty81, ty82, ty85, ty86, ty95, ty96, ty97, ty104, ty106, ty107, ty109, ty114, ty121, ty122, ty123, ty126, ty127, ty131, ty132, ty133, ty136, ty137, trivial⟩ ⟨lay2, lay3, lay4, lay5, lay6, lay7, lay8, lay9, lay10, lay11, lay12, lay13, lay14, lay15, lay16, lay17, lay18, lay19, lay21, lay22, lay23, lay24, lay25, lay30, lay32, lay34, lay44, lay47, lay48, lay49, lay53, lay54, lay55, lay56, lay57, lay63, lay64, lay65, lay67, lay69, lay70, lay71, lay72, lay77, lay78, lay79, lay81, lay82, lay84, lay85, lay86, lay92, lay95, lay96, lay97, lay104, lay106, lay107, lay109, lay114, lay121, lay122, lay123, lay126, lay127, lay131, lay132, lay133, lay135, lay136, lay137, trivial⟩ ⟨cmp57, trivial⟩
theorem dec0_ok (cs : List (T El)) (x : S64) (h : dec0 cs = some x) : ([.lit (.string x.f0), .lit (.int .i64 x.f1), .row 7 x.f2] : List (T El)) = cs := by
  unfold dec0 at h
  split at h
  · injection h with h; subst h; rfl
  · simp at h
theorem one0 (x : S64) (v : Value) (h : T.lit v ∈ ([.lit (.string x.f0), .lit (.int .i64 x.f1), .row 7 x.f2] : List (T El))) : v.oneCell' = true := by
  simp at h
  rcases h with rfl | rfl <;> rfl
theorem dec1_ok (cs : List (T El)) (x : S56) (h : dec1 cs = some x) : ([.lit (.int .i64 x.f0), .lit (.int .i64 x.f1), .lit (.int .i64 x.f2), .lit (.int .i64 x.f3), .lit (.int .i64 x.f4), .lit (.bool x.f5)] : List (T El)) = cs := by
  unfold dec1 at h
  split at h
  · injection h with h; subst h; rfl
  · simp at h
theorem one1 (x : S56) (v : Value) (h : T.lit v ∈ ([.lit (.int .i64 x.f0), .lit (.int .i64 x.f1), .lit (.int .i64 x.f2), .lit (.int .i64 x.f3), .lit (.int .i64 x.f4), .lit (.bool x.f5)] : List (T El))) : v.oneCell' = true := by
  simp at h
  rcases h with rfl | rfl | rfl | rfl | rfl | rfl <;> rfl
theorem flat1 (x : S56) (t : T El) (h : t ∈ ([.lit (.int .i64 x.f0), .lit (.int .i64 x.f1), .lit (.int .i64 x.f2), .lit (.int .i64 x.f3), .lit (.int .i64 x.f4), .lit (.bool x.f5)] : List (T El))) : ∃ v, t = .lit v := by
  simp at h
  rcases h with rfl | rfl | rfl | rfl | rfl | rfl <;> exact ⟨_, rfl⟩
theorem dec2_ok (cs : List (T El)) (x : S54) (h : dec2 cs = some x) : ([.lit (.string x.f0), .lit (.int .i64 x.f1), .row 6 x.f2] : List (T El)) = cs := by
  unfold dec2 at h
  split at h
  · injection h with h; subst h; rfl
  · simp at h
theorem one2 (x : S54) (v : Value) (h : T.lit v ∈ ([.lit (.string x.f0), .lit (.int .i64 x.f1), .row 6 x.f2] : List (T El))) : v.oneCell' = true := by
  simp at h
  rcases h with rfl | rfl <;> rfl
theorem dec3_ok (cs : List (T El)) (x : S56) (h : dec3 cs = some x) : ([.lit (.int .i64 x.f0), .lit (.int .i64 x.f1), .lit (.int .i64 x.f2), .lit (.int .i64 x.f3), .lit (.int .i64 x.f4), .lit (.bool x.f5)] : List (T El)) = cs := by
  unfold dec3 at h
  split at h
  · injection h with h; subst h; rfl
  · simp at h
theorem one3 (x : S56) (v : Value) (h : T.lit v ∈ ([.lit (.int .i64 x.f0), .lit (.int .i64 x.f1), .lit (.int .i64 x.f2), .lit (.int .i64 x.f3), .lit (.int .i64 x.f4), .lit (.bool x.f5)] : List (T El))) : v.oneCell' = true := by
  simp at h
  rcases h with rfl | rfl | rfl | rfl | rfl | rfl <;> rfl
theorem flat3 (x : S56) (t : T El) (h : t ∈ ([.lit (.int .i64 x.f0), .lit (.int .i64 x.f1), .lit (.int .i64 x.f2), .lit (.int .i64 x.f3), .lit (.int .i64 x.f4), .lit (.bool x.f5)] : List (T El))) : ∃ v, t = .lit v := by
  simp at h
  rcases h with rfl | rfl | rfl | rfl | rfl | rfl <;> exact ⟨_, rfl⟩
theorem dec4_ok (cs : List (T El)) (x : Int) (h : dec4 cs = some x) : ([.lit (.int .u8 x)] : List (T El)) = cs := by
  unfold dec4 at h
  split at h
  · injection h with h; subst h; rfl
  · simp at h
theorem one4 (x : Int) (v : Value) (h : T.lit v ∈ ([.lit (.int .u8 x)] : List (T El))) : v.oneCell' = true := by
  simp at h
  subst h; rfl
theorem flat4 (x : Int) (t : T El) (h : t ∈ ([.lit (.int .u8 x)] : List (T El))) : ∃ v, t = .lit v := by
  simp at h
  subst h; exact ⟨_, rfl⟩
theorem dec5_ok (cs : List (T El)) (x : Int) (h : dec5 cs = some x) : ([.lit (.int .i64 x)] : List (T El)) = cs := by
  unfold dec5 at h
  split at h
  · injection h with h; subst h; rfl
  · simp at h
theorem one5 (x : Int) (v : Value) (h : T.lit v ∈ ([.lit (.int .i64 x)] : List (T El))) : v.oneCell' = true := by
  simp at h
  subst h; rfl
theorem flat5 (x : Int) (t : T El) (h : t ∈ ([.lit (.int .i64 x)] : List (T El))) : ∃ v, t = .lit v := by
  simp at h
  subst h; exact ⟨_, rfl⟩
theorem dec6_ok (cs : List (T El)) (x : S69) (h : dec6 cs = some x) : ([.lit (.int .i64 x.f0), .lit (.int .i64 x.f1), .lit (.int .i64 x.f2), .lit (.int .i64 x.f3)] : List (T El)) = cs := by
  unfold dec6 at h
  split at h
  · injection h with h; subst h; rfl
  · simp at h
theorem one6 (x : S69) (v : Value) (h : T.lit v ∈ ([.lit (.int .i64 x.f0), .lit (.int .i64 x.f1), .lit (.int .i64 x.f2), .lit (.int .i64 x.f3)] : List (T El))) : v.oneCell' = true := by
  simp at h
  rcases h with rfl | rfl | rfl | rfl <;> rfl
theorem flat6 (x : S69) (t : T El) (h : t ∈ ([.lit (.int .i64 x.f0), .lit (.int .i64 x.f1), .lit (.int .i64 x.f2), .lit (.int .i64 x.f3)] : List (T El))) : ∃ v, t = .lit v := by
  simp at h
  rcases h with rfl | rfl | rfl | rfl <;> exact ⟨_, rfl⟩
theorem dec7_ok (cs : List (T El)) (x : S69) (h : dec7 cs = some x) : ([.lit (.int .i64 x.f0), .lit (.int .i64 x.f1), .lit (.int .i64 x.f2), .lit (.int .i64 x.f3)] : List (T El)) = cs := by
  unfold dec7 at h
  split at h
  · injection h with h; subst h; rfl
  · simp at h
theorem one7 (x : S69) (v : Value) (h : T.lit v ∈ ([.lit (.int .i64 x.f0), .lit (.int .i64 x.f1), .lit (.int .i64 x.f2), .lit (.int .i64 x.f3)] : List (T El))) : v.oneCell' = true := by
  simp at h
  rcases h with rfl | rfl | rfl | rfl <;> rfl
theorem flat7 (x : S69) (t : T El) (h : t ∈ ([.lit (.int .i64 x.f0), .lit (.int .i64 x.f1), .lit (.int .i64 x.f2), .lit (.int .i64 x.f3)] : List (T El))) : ∃ v, t = .lit v := by
  simp at h
  rcases h with rfl | rfl | rfl | rfl <;> exact ⟨_, rfl⟩
theorem dec8_ok (cs : List (T El)) (x : S71) (h : dec8 cs = some x) : ([.lit (.int .i64 x.f0), .lit (.int .i64 x.f1), .lit (.int .i64 x.f2)] : List (T El)) = cs := by
  unfold dec8 at h
  split at h
  · injection h with h; subst h; rfl
  · simp at h
theorem one8 (x : S71) (v : Value) (h : T.lit v ∈ ([.lit (.int .i64 x.f0), .lit (.int .i64 x.f1), .lit (.int .i64 x.f2)] : List (T El))) : v.oneCell' = true := by
  simp at h
  rcases h with rfl | rfl | rfl <;> rfl
theorem flat8 (x : S71) (t : T El) (h : t ∈ ([.lit (.int .i64 x.f0), .lit (.int .i64 x.f1), .lit (.int .i64 x.f2)] : List (T El))) : ∃ v, t = .lit v := by
  simp at h
  rcases h with rfl | rfl | rfl <;> exact ⟨_, rfl⟩
theorem dec9_ok (cs : List (T El)) (x : S85) (h : dec9 cs = some x) : ([.lit (.int .i64 x.f0), .lit (.int .i64 x.f1), .lit (.int .i64 x.f2)] : List (T El)) = cs := by
  unfold dec9 at h
  split at h
  · injection h with h; subst h; rfl
  · simp at h
theorem one9 (x : S85) (v : Value) (h : T.lit v ∈ ([.lit (.int .i64 x.f0), .lit (.int .i64 x.f1), .lit (.int .i64 x.f2)] : List (T El))) : v.oneCell' = true := by
  simp at h
  rcases h with rfl | rfl | rfl <;> rfl
theorem flat9 (x : S85) (t : T El) (h : t ∈ ([.lit (.int .i64 x.f0), .lit (.int .i64 x.f1), .lit (.int .i64 x.f2)] : List (T El))) : ∃ v, t = .lit v := by
  simp at h
  rcases h with rfl | rfl | rfl <;> exact ⟨_, rfl⟩
theorem dec10_ok (cs : List (T El)) (x : Bool) (h : dec10 cs = some x) : ([.lit (.bool x)] : List (T El)) = cs := by
  unfold dec10 at h
  split at h
  · injection h with h; subst h; rfl
  · simp at h
theorem one10 (x : Bool) (v : Value) (h : T.lit v ∈ ([.lit (.bool x)] : List (T El))) : v.oneCell' = true := by
  simp at h
  subst h; rfl
theorem flat10 (x : Bool) (t : T El) (h : t ∈ ([.lit (.bool x)] : List (T El))) : ∃ v, t = .lit v := by
  simp at h
  subst h; exact ⟨_, rfl⟩
theorem dec11_ok (cs : List (T El)) (x : ByteArray) (h : dec11 cs = some x) : ([.lit (.string x)] : List (T El)) = cs := by
  unfold dec11 at h
  split at h
  · injection h with h; subst h; rfl
  · simp at h
theorem one11 (x : ByteArray) (v : Value) (h : T.lit v ∈ ([.lit (.string x)] : List (T El))) : v.oneCell' = true := by
  simp at h
  subst h; rfl
theorem flat11 (x : ByteArray) (t : T El) (h : t ∈ ([.lit (.string x)] : List (T El))) : ∃ v, t = .lit v := by
  simp at h
  subst h; exact ⟨_, rfl⟩
theorem dec12_ok (cs : List (T El)) (x : S78) (h : dec12 cs = some x) : ([.lit (.int .i64 x.f0), .lit (.int .i64 x.f1), .lit (.int .i64 x.f2)] : List (T El)) = cs := by
  unfold dec12 at h
  split at h
  · injection h with h; subst h; rfl
  · simp at h
theorem one12 (x : S78) (v : Value) (h : T.lit v ∈ ([.lit (.int .i64 x.f0), .lit (.int .i64 x.f1), .lit (.int .i64 x.f2)] : List (T El))) : v.oneCell' = true := by
  simp at h
  rcases h with rfl | rfl | rfl <;> rfl
theorem flat12 (x : S78) (t : T El) (h : t ∈ ([.lit (.int .i64 x.f0), .lit (.int .i64 x.f1), .lit (.int .i64 x.f2)] : List (T El))) : ∃ v, t = .lit v := by
  simp at h
  rcases h with rfl | rfl | rfl <;> exact ⟨_, rfl⟩
theorem dec13_ok (cs : List (T El)) (x : S95) (h : dec13 cs = some x) : ([.lit (.int .i64 x.f0), .lit (.int .i64 x.f1), .lit (.bool x.f2)] : List (T El)) = cs := by
  unfold dec13 at h
  split at h
  · injection h with h; subst h; rfl
  · simp at h
theorem one13 (x : S95) (v : Value) (h : T.lit v ∈ ([.lit (.int .i64 x.f0), .lit (.int .i64 x.f1), .lit (.bool x.f2)] : List (T El))) : v.oneCell' = true := by
  simp at h
  rcases h with rfl | rfl | rfl <;> rfl
theorem flat13 (x : S95) (t : T El) (h : t ∈ ([.lit (.int .i64 x.f0), .lit (.int .i64 x.f1), .lit (.bool x.f2)] : List (T El))) : ∃ v, t = .lit v := by
  simp at h
  rcases h with rfl | rfl | rfl <;> exact ⟨_, rfl⟩
theorem dec14_ok (cs : List (T El)) (x : S104) (h : dec14 cs = some x) : ([.lit (.string x.f0), .lit (.bool x.f1)] : List (T El)) = cs := by
  unfold dec14 at h
  split at h
  · injection h with h; subst h; rfl
  · simp at h
theorem one14 (x : S104) (v : Value) (h : T.lit v ∈ ([.lit (.string x.f0), .lit (.bool x.f1)] : List (T El))) : v.oneCell' = true := by
  simp at h
  rcases h with rfl | rfl <;> rfl
theorem flat14 (x : S104) (t : T El) (h : t ∈ ([.lit (.string x.f0), .lit (.bool x.f1)] : List (T El))) : ∃ v, t = .lit v := by
  simp at h
  rcases h with rfl | rfl <;> exact ⟨_, rfl⟩
theorem uniOk : UniOk uni where
  len k x := match k, x with
    | 0, x => rfl
    | 1, x => rfl
    | 2, x => rfl
    | 3, x => rfl
    | 4, x => rfl
    | 5, x => rfl
    | 6, x => rfl
    | 7, x => rfl
    | 8, x => rfl
    | 9, x => rfl
    | 10, x => rfl
    | 11, x => rfl
    | 12, x => rfl
    | 13, x => rfl
    | 14, x => rfl
    | k + 15, x => rfl
  dec k cs x h := match k, x, h with
    | 0, x, h => dec0_ok cs x h
    | 1, x, h => dec1_ok cs x h
    | 2, x, h => dec2_ok cs x h
    | 3, x, h => dec3_ok cs x h
    | 4, x, h => dec4_ok cs x h
    | 5, x, h => dec5_ok cs x h
    | 6, x, h => dec6_ok cs x h
    | 7, x, h => dec7_ok cs x h
    | 8, x, h => dec8_ok cs x h
    | 9, x, h => dec9_ok cs x h
    | 10, x, h => dec10_ok cs x h
    | 11, x, h => dec11_ok cs x h
    | 12, x, h => dec12_ok cs x h
    | 13, x, h => dec13_ok cs x h
    | 14, x, h => dec14_ok cs x h
    | k + 15, x, h => by cases h
  one k x v h := match k, x, h with
    | 0, x, h => one0 x v h
    | 1, x, h => one1 x v h
    | 2, x, h => one2 x v h
    | 3, x, h => one3 x v h
    | 4, x, h => one4 x v h
    | 5, x, h => one5 x v h
    | 6, x, h => one6 x v h
    | 7, x, h => one7 x v h
    | 8, x, h => one8 x v h
    | 9, x, h => one9 x v h
    | 10, x, h => one10 x v h
    | 11, x, h => one11 x v h
    | 12, x, h => one12 x v h
    | 13, x, h => one13 x v h
    | 14, x, h => one14 x v h
    | k + 15, x, h => by cases h
  flat k x hn t h := match k, x, hn, h with
    | 0, x, hn, h => by cases hn
    | 1, x, hn, h => flat1 x t h
    | 2, x, hn, h => by cases hn
    | 3, x, hn, h => flat3 x t h
    | 4, x, hn, h => flat4 x t h
    | 5, x, hn, h => flat5 x t h
    | 6, x, hn, h => flat6 x t h
    | 7, x, hn, h => flat7 x t h
    | 8, x, hn, h => flat8 x t h
    | 9, x, hn, h => flat9 x t h
    | 10, x, hn, h => flat10 x t h
    | 11, x, hn, h => flat11 x t h
    | 12, x, hn, h => flat12 x t h
    | 13, x, hn, h => flat13 x t h
    | 14, x, hn, h => flat14 x t h
    | k + 15, x, hn, h => by cases h
  byt k h x := match k, h, x with
    | 0, h, _ => by cases h
    | 1, h, _ => by cases h
    | 2, h, _ => by cases h
    | 3, h, _ => by cases h
    | 4, _, x => ⟨_, rfl⟩
    | 5, h, _ => by cases h
    | 6, h, _ => by cases h
    | 7, h, _ => by cases h
    | 8, h, _ => by cases h
    | 9, h, _ => by cases h
    | 10, h, _ => by cases h
    | 11, h, _ => by cases h
    | 12, h, _ => by cases h
    | 13, h, _ => by cases h
    | 14, h, _ => by cases h
    | k + 15, h, _ => by cases h
  byd k h n := match k, h, n with
    | 0, h, _ => by cases h
    | 1, h, _ => by cases h
    | 2, h, _ => by cases h
    | 3, h, _ => by cases h
    | 4, _, n => ⟨_, rfl⟩
    | 5, h, _ => by cases h
    | 6, h, _ => by cases h
    | 7, h, _ => by cases h
    | 8, h, _ => by cases h
    | 9, h, _ => by cases h
    | 10, h, _ => by cases h
    | 11, h, _ => by cases h
    | 12, h, _ => by cases h
    | 13, h, _ => by cases h
    | 14, h, _ => by cases h
    | k + 15, h, _ => by cases h
theorem mixed : prog.follows .mixedOrders = true := by kernel_rfl
end Go.Proofs.YtchohkelpjfpcaaDoor.AX

/- What a law's arguments are in the small machine: memory that is read, told. No conditions. (under way) -/
namespace Go.Proofs.YtchohkelpjfpcaaDoor.AX
open Go Go.RowKit

inductive Cl where
  | int (k : IntKind)
  | bool
  | str
  | row (k : Nat)

section
variable {U : Uni}

def TOf (R : (k : Nat) → List (U.El k) → Prop) : Cl → T U.El → Prop
  | .int k, .lit (.int k' n) => k' = k ∧ (Lit.int k n).wf = true
  | .bool, .lit (.bool _) => True
  | .str, .lit (.string s) => s.size ≤ maxLen
  | .row k, .row k' l => ∃ h : k' = k, R k (h ▸ l)
  | _, _ => False

def TsOf (R : (k : Nat) → List (U.El k) → Prop) : List Cl → List (T U.El) → Prop
  | [], [] => True
  | c :: cs, t :: ts => TOf R c t ∧ TsOf R cs ts
  | _, _ => False

theorem ts_nil {R : (k : Nat) → List (U.El k) → Prop} {ts : List (T U.El)} (h : TsOf R [] ts) : ts = [] := by
  cases ts with
  | nil => rfl
  | cons _ _ => exact h.elim
theorem ts_int {R : (k : Nat) → List (U.El k) → Prop} {k : IntKind} {cs : List Cl} {ts : List (T U.El)} (h : TsOf R (.int k :: cs) ts) : ∃ x r, ts = .lit (.int k x) :: r ∧ TsOf R cs r := by
  cases ts with
  | nil => exact h.elim
  | cons t r =>
    obtain ⟨h1, h2⟩ := h
    unfold TOf at h1
    split at h1
    · rename_i e1; injection e1 with e1; subst e1; obtain ⟨rfl, _⟩ := h1; exact ⟨_, _, rfl, h2⟩
    all_goals first | exact h1.elim | (rename_i e1; cases e1)
theorem ts_bool {R : (k : Nat) → List (U.El k) → Prop} {cs : List Cl} {ts : List (T U.El)} (h : TsOf R (.bool :: cs) ts) : ∃ x r, ts = .lit (.bool x) :: r ∧ TsOf R cs r := by
  cases ts with
  | nil => exact h.elim
  | cons t r =>
    obtain ⟨h1, h2⟩ := h
    unfold TOf at h1
    split at h1
    case h_2 => exact ⟨_, _, rfl, h2⟩
    all_goals first | exact h1.elim | (rename_i e1; cases e1)
theorem ts_str {R : (k : Nat) → List (U.El k) → Prop} {cs : List Cl} {ts : List (T U.El)} (h : TsOf R (.str :: cs) ts) : ∃ x r, ts = .lit (.string x) :: r ∧ TsOf R cs r := by
  cases ts with
  | nil => exact h.elim
  | cons t r =>
    obtain ⟨h1, h2⟩ := h
    unfold TOf at h1
    split at h1
    case h_3 => exact ⟨_, _, rfl, h2⟩
    all_goals first | exact h1.elim | (rename_i e1; cases e1)
theorem ts_row {R : (k : Nat) → List (U.El k) → Prop} {k : Nat} {cs : List Cl} {ts : List (T U.El)} (h : TsOf R (.row k :: cs) ts) : ∃ x r, ts = .row k x :: r ∧ TsOf R cs r := by
  cases ts with
  | nil => exact h.elim
  | cons t r =>
    obtain ⟨h1, h2⟩ := h
    unfold TOf at h1
    split at h1
    case h_4 => rename_i e1; injection e1 with e1; subst e1; obtain ⟨rfl, _⟩ := h1; exact ⟨_, _, rfl, h2⟩
    all_goals first | exact h1.elim | (rename_i e1; cases e1)

def ElOk (ky : Nat → List Cl) : Nat → (k : Nat) → U.El k → Prop
  | 0, _, _ => True
  | n + 1, k, x => TsOf (fun k l => l.length ≤ maxLen ∧ ∀ x ∈ l, ElOk ky n k x) (ky k) (U.enc k x)

def RowOk (ky : Nat → List Cl) (n : Nat) (k : Nat) (l : List (U.El k)) : Prop := l.length ≤ maxLen ∧ ∀ x ∈ l, ElOk ky n k x

mutual
inductive Flat (P : Program) (U : Uni) (ky : Nat → List Cl) : TypeId → List Cl → Prop where
  | int (t k) (h : P.underlying t = some (.int k)) : Flat P U ky t [.int k]
  | bool (t) (h : P.underlying t = some .bool) : Flat P U ky t [.bool]
  | str (t) (h : P.underlying t = some .string) : Flat P U ky t [.str]
  | slice (t k) (h : P.underlying t = some (.slice (U.ty k))) (hg : ky k ≠ []) : Flat P U ky t [.row k]
  | struct (t fs cls) (h : P.underlying t = some (.struct fs)) (hc : P.cellsOf t = cls.length) (hf : FlatL P U ky fs.toList 0 cls) : Flat P U ky t cls
inductive FlatL (P : Program) (U : Uni) (ky : Nat → List Cl) : List Field → Nat → List Cl → Prop where
  | nil (off) : FlatL P U ky [] off []
  | cons (fd r off cls rest) (ho : fd.offset = off) (h : Flat P U ky fd.type cls) (hc : P.cellsOf fd.type = cls.length) (hr : FlatL P U ky r (off + cls.length) rest) : FlatL P U ky (fd :: r) off (cls ++ rest)
end

theorem tsOf_app {R : (k : Nat) → List (U.El k) → Prop} : ∀ {c1 c2 : List Cl} {t1 t2 : List (T U.El)}, TsOf R c1 t1 → TsOf R c2 t2 → TsOf R (c1 ++ c2) (t1 ++ t2)
  | [], _, [], _, _, h => h
  | c :: cs, _, t :: ts, _, h, h' => ⟨h.1, tsOf_app h.2 h'⟩
  | [], _, _ :: _, _, h, _ => h.elim
  | _ :: _, _, [], _, h, _ => h.elim

theorem tsOf_len {R : (k : Nat) → List (U.El k) → Prop} : ∀ {cs : List Cl} {ts : List (T U.El)}, TsOf R cs ts → ts.length = cs.length
  | [], [], _ => rfl
  | _ :: _, _ :: _, h => by simp [tsOf_len h.2]
  | [], _ :: _, h => h.elim
  | _ :: _, [], h => h.elim

theorem choose_list {α : Type} {Q : Nat → α → Prop} : ∀ {n : Nat}, (∀ i, i < n → ∃ x, Q i x) → ∃ l : List α, l.length = n ∧ ∀ i x, l[i]? = some x → Q i x
  | 0, _ => ⟨[], rfl, fun i x h => by simp at h⟩
  | n + 1, h => by
    obtain ⟨l, h1, h2⟩ := choose_list (n := n) fun i hi => h i (by omega)
    obtain ⟨x, hx⟩ := h n (by omega)
    refine ⟨l ++ [x], by simp [h1], fun i y hy => ?_⟩
    rcases Nat.lt_trichotomy i n with hi | hi | hi
    · rw [List.getElem?_append_left (by omega)] at hy; exact h2 i y hy
    · subst hi
      rw [List.getElem?_append_right (by omega), h1] at hy
      simp at hy; subst hy; exact hx
    · rw [List.getElem?_eq_none (by simp [h1]; omega)] at hy; simp at hy

structure Kinds (P : Program) (U : Uni) (ky : Nat → List Cl) : Prop where
  flat : ∀ k, ky k ≠ [] → Flat P U ky (U.ty k) (ky k)
  size : ∀ k, ky k ≠ [] → P.cellsOf (U.ty k) = U.sz k
  full : ∀ k ts R, ky k ≠ [] → TsOf R (ky k) ts → ∃ x, U.enc k x = ts

section
variable {k0 : Nat} {P : Program} {ky : Nat → List Cl} {H : Type} {enc : TypeId × Value → H} {w : World} {base : Nat} {spare : Nat → Bool} {held : Bool}

theorem repL_mono {d d' : Nat} (hd : d ≤ d') {cs : List Value} {ts : List (T U.El)} {F : List Nat} (h : RepL (RepT false d w) cs ts F) : RepL (RepT false d' w) cs ts F := h.imp fun v t G h _ => RepT.mono h hd

theorem flatL_ok {fuel : Nat} (ih : ∀ {t : TypeId} {cls : List Cl} {cs : List Value} {x : DataW H × List MemPlace}, Flat P U ky t cls → DataW.trod enc P w base spare held fuel t cs = some x → ∃ ts F, RepL (RepT false fuel w) cs ts F ∧ ∀ n, TsOf (RowOk (U := U) ky n) cls ts) {cs : List Value} :
    ∀ {fs : List Field} {off : Nat} {cls : List Cl}, FlatL P U ky fs off cls → (∀ (i : Nat) (f : Field), fs[i]? = some f → ∃ y, DataW.trod enc P w base spare held fuel f.type ((cs.drop f.offset).take (P.cellsOf f.type)) = some y) →
      ∃ ts F, RepL (RepT false fuel w) ((cs.drop off).take cls.length) ts F ∧ ∀ n, TsOf (RowOk (U := U) ky n) cls ts
  | _, _, _, .nil off, _ => ⟨[], [], by simp [RepL], fun n => trivial⟩
  | _, _, _, .cons fd r off cls rest ho h hc hr, hf => by
    obtain ⟨y, hy⟩ := hf 0 fd rfl
    obtain ⟨t1, F1, a1, a2⟩ := ih h hy
    obtain ⟨t2, F2, b1, b2⟩ := flatL_ok ih hr fun i f hi => hf (i + 1) f (by simpa using hi)
    refine ⟨t1 ++ t2, F1 ++ F2, ?_, fun n => tsOf_app (a2 n) (b2 n)⟩
    have : (cs.drop off).take (cls ++ rest).length = (cs.drop fd.offset).take (P.cellsOf fd.type) ++ (cs.drop (off + cls.length)).take rest.length := by
      rw [ho, hc, List.length_append, ← List.drop_drop, List.take_add]
    rw [this]
    exact a1.join b1

theorem flat_cells {a : Addr} {sz : Nat} : ∀ {L : List (List Value × U.El k0 × List Nat)} {st : Nat}, (∀ i t, L[i]? = some t → t.1.length = sz ∧ ∀ c u, t.1[c]? = some u → w.cell? (a.add ((st + i) * sz + c)) = some u) → ∀ j u, (L.flatMap (·.1))[j]? = some u → w.cell? (a.add (st * sz + j)) = some u
  | [], st, h, j, u, hj => by simp at hj
  | t :: L, st, h, j, u, hj => by
    obtain ⟨h1, h2⟩ := h 0 t rfl
    rw [List.flatMap_cons] at hj
    rcases Nat.lt_or_ge j sz with hlt | hge
    · rw [List.getElem?_append_left (by omega)] at hj
      exact h2 j u hj
    · rw [List.getElem?_append_right (by omega), h1] at hj
      have := flat_cells (L := L) (st := st + 1) (fun i t ht => by
        have := h (i + 1) t (by simpa using ht)
        rw [show st + (i + 1) = st + 1 + i by omega] at this; exact this) (j - sz) u hj
      rw [show st * sz + j = (st + 1) * sz + (j - sz) by rw [Nat.add_mul]; omega]
      exact this

theorem flat_rep {fuel : Nat} {k : Nat} : ∀ {L : List (List Value × U.El k × List Nat)}, (∀ t ∈ L, RepL (RepT false fuel w) t.1 (U.enc k t.2.1) t.2.2) → RepL (RepT false fuel w) (L.flatMap (·.1)) ((L.map (·.2.1)).flatMap (U.enc k)) (L.flatMap (·.2.2))
  | [], _ => by simp [RepL]
  | t :: L, h => by
    simp only [List.flatMap_cons, List.map_cons]
    exact (h t (by simp)).join (flat_rep fun t ht => h t (by simp [ht]))

theorem trod_flat (hK : Kinds P U ky) : ∀ (fuel : Nat) {t : TypeId} {cls : List Cl} {cs : List Value} {x : DataW H × List MemPlace}, Flat P U ky t cls → DataW.trod enc P w base spare held fuel t cs = some x → ∃ ts F, RepL (RepT false fuel w) cs ts F ∧ ∀ n, TsOf (RowOk (U := U) ky n) cls ts
  | 0, t, cls, cs, x, _, h => by simp [DataW.trod] at h
  | fuel + 1, t, cls, cs, x, hfl, h => by
    cases hfl with
    | int _ k hu =>
      obtain ⟨n, rfl, _, hw⟩ := DataW.trod_int hu h
      exact ⟨[.lit (.int k n)], [], by simp [RepL, RepT], fun _ => ⟨⟨rfl, hw⟩, trivial⟩⟩
    | bool _ hu =>
      obtain ⟨b, rfl, _⟩ := DataW.trod_bool hu h
      exact ⟨[.lit (.bool b)], [], by simp [RepL, RepT], fun _ => ⟨trivial, trivial⟩⟩
    | str _ hu =>
      obtain ⟨b, rfl, _, hs⟩ := DataW.trod_string hu h
      exact ⟨[.lit (.string b)], [], by simp [RepL, RepT], fun _ => ⟨hs, trivial⟩⟩
    | struct _ fs _ hu hcl hf =>
      obtain ⟨xs, n, e, rfl, hl, hxl, hx⟩ := DataW.trod_struct hu h
      injection e with e; subst e
      obtain ⟨ts, F, a1, a2⟩ := flatL_ok (fun hfl h => trod_flat hK fuel hfl h) hf fun i f hi => by
        have hi' : fs[i]? = some f := by rw [← Array.getElem?_toList]; exact hi
        have hlt : i < xs.length := by rw [hxl]; exact (Array.getElem?_eq_some_iff.1 hi').1
        have := hx i f hi'
        rw [List.getElem?_eq_getElem hlt] at this
        exact ⟨_, this⟩
      rw [List.drop_zero] at a1
      have hlen := a1.len
      have h2 := tsOf_len (a2 0)
      refine ⟨ts, F, ?_, a2⟩
      have : cs.take cls.length = cs := by
        apply List.take_of_length_le
        rw [hl, hcl]; exact Nat.le_refl _
      rw [this] at a1
      exact repL_mono (Nat.le_succ _) a1
    | slice _ k hu hg =>
      rcases DataW.trod_slice hu h with ⟨rfl, _⟩ | ⟨a, len, cap, elems, rest, n, e, rfl, rfl, hb, hl, hm, hlen, hel, _, _⟩
      · exact ⟨[.row k []], [], ⟨[], [], ⟨[], [], [], ⟨none, 0, rfl, Nat.le_refl _, Nat.zero_le _, by simp, by simp, fun h => absurd rfl h⟩, by simp [RepL], rfl, fun h => by simp at h⟩, by simp [RepL], rfl⟩, fun n => ⟨⟨rfl, Nat.zero_le _, fun x hx => by simp at hx⟩, trivial⟩⟩
      · injection e with e; subst e
        obtain ⟨L, hL1, hL2⟩ := choose_list (n := len) (Q := fun i (t : List Value × U.El k × List Nat) => w.cells? base (a.add (i * P.cellsOf (U.ty k))) (P.cellsOf (U.ty k)) = some t.1 ∧ RepL (RepT false fuel w) t.1 (U.enc k t.2.1) t.2.2 ∧ ∀ n, TsOf (RowOk ky n) (ky k) (U.enc k t.2.1)) fun i hi => by
          have hi' : i < elems.length := by omega
          have := hel i hi
          rw [List.getElem?_eq_getElem hi', Option.bind_eq_some_iff] at this
          obtain ⟨cs, h1, h2⟩ := this
          obtain ⟨ts, F, h3, h4⟩ := trod_flat hK fuel (hK.flat k hg) h2
          obtain ⟨x, hx⟩ := hK.full k ts _ hg (h4 0)
          subst hx
          exact ⟨(cs, x, F), h1, h3, h4⟩
        have hsz := hK.size k hg
        have hcells := flat_cells (w := w) (a := a) (sz := U.sz k) (L := L) (st := 0) fun i t ht => by
          obtain ⟨h1, _⟩ := hL2 i t ht
          obtain ⟨_, h2, h3⟩ := World.cells?_some h1
          rw [hsz] at h2 h3
          refine ⟨h2, fun c u hc => ?_⟩
          have hlt : c < U.sz k := by rw [← h2]; exact (List.getElem?_eq_some_iff.1 hc).1
          have := h3 c hlt
          rw [hc, add_add] at this
          rw [Nat.zero_add]; exact this
        have hlenc : (L.flatMap (·.1)).length = len * U.sz k := by
          rw [← hL1]
          have : ∀ t ∈ L, t.1.length = U.sz k := fun t ht => by
            obtain ⟨i, hi⟩ := List.getElem?_of_mem ht
            have := (World.cells?_some (hL2 i t hi).1).2.1
            rw [hsz] at this; exact this
          clear hL2 hcells hL1
          induction L with
          | nil => simp
          | cons t L ih =>
            rw [List.flatMap_cons, List.length_append, this t (by simp), ih fun t ht => this t (by simp [ht]), List.length_cons, Nat.add_mul]; omega
        have hrep := flat_rep (w := w) (fuel := fuel) (L := L) fun t ht => by
          obtain ⟨i, hi⟩ := List.getElem?_of_mem ht
          exact (hL2 i t hi).2.1
        refine ⟨[.row k (L.map (·.2.1))], _, ⟨_, [], ⟨L.flatMap (·.1), _, _, ⟨some a, cap, by simp [hL1], by simpa [hL1] using hl, hm, by simp [hL1, hlenc], rfl, fun _ => ⟨a, rfl, fun j u hj => by simpa using hcells j u hj⟩⟩, hrep, rfl, fun h => by simp at h⟩, by simp [RepL], rfl⟩, fun n => ⟨⟨rfl, ?_, fun x hx => ?_⟩, trivial⟩⟩
        · simp only [List.length_map, hL1]; omega
        · obtain ⟨t, ht, rfl⟩ := List.mem_map.1 hx
          obtain ⟨i, hi⟩ := List.getElem?_of_mem ht
          cases n with
          | zero => trivial
          | succ n => exact (hL2 i t hi).2.2 n

end

end
end Go.Proofs.YtchohkelpjfpcaaDoor.AX

/- From a law's arguments to the small machine, and back. No conditions. -/
namespace Go.Proofs.YtchohkelpjfpcaaDoor.AX
open Go Go.RowKit Go.WideShapes

section
variable {U : Uni} {P : Program} {ky : Nat → List Cl} {H : Type} {enc : TypeId × Value → H} {w : World} {base : Nat} {spare : Nat → Bool} {held : Bool}

theorem below_of {w' : World} (h : Fr w [] w') : Below w.heap.size w w' := ⟨h.os, h.tape, h.output, h.size, fun k hk => h.block k hk (by simp)⟩

/-- An argument that is a slice. -/
theorem open_slice (hK : Kinds P U ky) {r : Reach} {b0 : Nat} {t : TypeId} {k : Nat} {v : Value} {d : DataW H} {ps : List MemPlace} (ht : P.underlying t = some (.slice (U.ty k))) (hg : ky k ≠ []) (hval : Value.okWide P w r b0 t v) (h : DataW.Trod enc P w base spare held t v d ps) :
    ∃ (l : List (U.El k)) (F : List Nat), AIn w (.row k 0) (.row k l) v [] F ∧ ∀ n, RowOk ky n k l := by
  obtain ⟨a, len, cap, rfl⟩ := okWide_slice ht hval
  obtain ⟨fuel, hf⟩ := h
  obtain ⟨ts, F, h1, h2⟩ := trod_flat hK fuel (.slice t k ht hg) hf
  have h0 := h2 0
  match ts, h0, h1, h2 with
  | [.row k' l], ⟨⟨e, _⟩, _⟩, h1, h2 =>
    subst e
    obtain ⟨G1, G2, g1, g2, rfl⟩ := h1
    exact ⟨l, G1, ⟨⟨fuel, g1⟩, rfl⟩, fun n => by obtain ⟨⟨_, h⟩, _⟩ := h2 n; exact h⟩

def pfC : Cl → PF
  | .row k => .row k 0
  | _ => .sc
def dvT : T U.El → DV U
  | .lit v => .val v
  | .row k l => .row k l

theorem csIn_of {n : Nat} {R : (k : Nat) → List (U.El k) → Prop} : ∀ {cls : List Cl} {ts : List (T U.El)} {vs : List Value} {F : List Nat}, TsOf R cls ts → RepL (RepT false n w) vs ts F → CsIn w (cls.map pfC) (ts.map dvT) vs [] F
  | [], [], [], F, _, h => ⟨rfl, h⟩
  | c :: cls, t :: ts, v :: vs, F, h, h' => by
    obtain ⟨F1, F2, g1, g2, rfl⟩ := h'
    refine ⟨[], [], F1, F2, ?_, csIn_of h.2 g2, rfl, rfl⟩
    have hc := h.1
    match c, t, hc, g1 with
    | .int k, .lit (.int k' m), _, g1 => simp only [RepT] at g1; exact ⟨g1.1, rfl, g1.2⟩
    | .bool, .lit (.bool b), _, g1 => simp only [RepT] at g1; exact ⟨g1.1, rfl, g1.2⟩
    | .str, .lit (.string b), _, g1 => simp only [RepT] at g1; exact ⟨g1.1, rfl, g1.2⟩
    | .row k, .row k' l, ⟨e, _⟩, g1 => subst e; exact ⟨⟨n, g1⟩, rfl⟩
  | [], _ :: _, _, _, h, _ => h.elim
  | _ :: _, [], _, _, h, _ => h.elim
  | [], [], _ :: _, _, _, h => h.elim
  | _ :: _, _ :: _, [], _, _, h => h.elim

/-- An argument that is a struct. -/
theorem open_parts (hK : Kinds P U ky) {r : Reach} {b0 : Nat} {t : TypeId} {fs : Array Field} {cls : List Cl} {v : Value} {d : DataW H} {ps : List MemPlace} (ht : P.underlying t = some (.struct fs)) (hfl : Flat P U ky t cls) (hval : Value.okWide P w r b0 t v) (h : DataW.Trod enc P w base spare held t v d ps) :
    ∃ (ts : List (T U.El)) (F : List Nat), AIn w (.agg (cls.map pfC)) (.agg (ts.map dvT)) v [] F ∧ ∀ n, TsOf (RowOk (U := U) ky n) cls ts := by
  obtain ⟨cs, rfl, _⟩ := okWide_struct ht hval
  obtain ⟨fuel, hf⟩ := h
  obtain ⟨ts, F, h1, h2⟩ := trod_flat hK fuel hfl hf
  exact ⟨ts, F, ⟨cs.toList, rfl, csIn_of (h2 0) h1⟩, h2⟩

end
end Go.Proofs.YtchohkelpjfpcaaDoor.AX

/- How this program's values lie. No conditions. -/
set_option maxRecDepth 100000
namespace Go.Proofs.YtchohkelpjfpcaaDoor.AX
open Go Go.Proofs.Tryd
def ky : Nat → List Cl := look [] [(0, [.str, .int .i64, .row 7]), (1, [.int .i64, .int .i64, .int .i64, .int .i64, .int .i64, .bool]), (2, [.str, .int .i64, .row 6]), (3, [.int .i64, .int .i64, .int .i64, .int .i64, .int .i64, .bool]), (4, [.int .u8]), (5, [.int .i64]), (6, [.int .i64, .int .i64, .int .i64, .int .i64]), (7, [.int .i64, .int .i64, .int .i64, .int .i64]), (8, [.int .i64, .int .i64, .int .i64]), (9, [.int .i64, .int .i64, .int .i64]), (10, [.bool]), (11, [.str])]
theorem flat9t : Flat prog uni ky 9 [.str] := .str 9 underlying9
theorem flat3t : Flat prog uni ky 3 [.int .i64] := .int 3 .i64 underlying3
theorem flat63t : Flat prog uni ky 63 [.row 7] := .slice 63 7 underlying63 (List.cons_ne_nil _ _)
theorem flat65t : Flat prog uni ky 65 [.str, .int .i64, .row 7] := .struct 65 _ [.str, .int .i64, .row 7] underlying65 rfl (.cons _ _ _ [.str] _ rfl flat9t rfl (.cons _ _ _ [.int .i64] _ rfl flat3t rfl (.cons _ _ _ [.row 7] _ rfl flat63t rfl (.nil _))))
theorem flat4t : Flat prog uni ky 4 [.bool] := .bool 4 underlying4
theorem flat77t : Flat prog uni ky 77 [.int .i64, .int .i64, .int .i64, .int .i64, .int .i64, .bool] := .struct 77 _ [.int .i64, .int .i64, .int .i64, .int .i64, .int .i64, .bool] underlying77 rfl (.cons _ _ _ [.int .i64] _ rfl flat3t rfl (.cons _ _ _ [.int .i64] _ rfl flat3t rfl (.cons _ _ _ [.int .i64] _ rfl flat3t rfl (.cons _ _ _ [.int .i64] _ rfl flat3t rfl (.cons _ _ _ [.int .i64] _ rfl flat3t rfl (.cons _ _ _ [.bool] _ rfl flat4t rfl (.nil _)))))))
theorem flat53t : Flat prog uni ky 53 [.row 6] := .slice 53 6 underlying53 (List.cons_ne_nil _ _)
theorem flat55t : Flat prog uni ky 55 [.str, .int .i64, .row 6] := .struct 55 _ [.str, .int .i64, .row 6] underlying55 rfl (.cons _ _ _ [.str] _ rfl flat9t rfl (.cons _ _ _ [.int .i64] _ rfl flat3t rfl (.cons _ _ _ [.row 6] _ rfl flat53t rfl (.nil _))))
theorem flat57t : Flat prog uni ky 57 [.int .i64, .int .i64, .int .i64, .int .i64, .int .i64, .bool] := .struct 57 _ [.int .i64, .int .i64, .int .i64, .int .i64, .int .i64, .bool] underlying57 rfl (.cons _ _ _ [.int .i64] _ rfl flat3t rfl (.cons _ _ _ [.int .i64] _ rfl flat3t rfl (.cons _ _ _ [.int .i64] _ rfl flat3t rfl (.cons _ _ _ [.int .i64] _ rfl flat3t rfl (.cons _ _ _ [.int .i64] _ rfl flat3t rfl (.cons _ _ _ [.bool] _ rfl flat4t rfl (.nil _)))))))
theorem flat5t : Flat prog uni ky 5 [.int .u8] := .int 5 .u8 underlying5
theorem flat70t : Flat prog uni ky 70 [.int .i64, .int .i64, .int .i64, .int .i64] := .struct 70 _ [.int .i64, .int .i64, .int .i64, .int .i64] underlying70 rfl (.cons _ _ _ [.int .i64] _ rfl flat3t rfl (.cons _ _ _ [.int .i64] _ rfl flat3t rfl (.cons _ _ _ [.int .i64] _ rfl flat3t rfl (.cons _ _ _ [.int .i64] _ rfl flat3t rfl (.nil _)))))
theorem flat114t : Flat prog uni ky 114 [.int .i64, .int .i64, .int .i64, .int .i64] := .struct 114 _ [.int .i64, .int .i64, .int .i64, .int .i64] underlying114 rfl (.cons _ _ _ [.int .i64] _ rfl flat3t rfl (.cons _ _ _ [.int .i64] _ rfl flat3t rfl (.cons _ _ _ [.int .i64] _ rfl flat3t rfl (.cons _ _ _ [.int .i64] _ rfl flat3t rfl (.nil _)))))
theorem flat72t : Flat prog uni ky 72 [.int .i64, .int .i64, .int .i64] := .struct 72 _ [.int .i64, .int .i64, .int .i64] underlying72 rfl (.cons _ _ _ [.int .i64] _ rfl flat3t rfl (.cons _ _ _ [.int .i64] _ rfl flat3t rfl (.cons _ _ _ [.int .i64] _ rfl flat3t rfl (.nil _))))
theorem flat86t : Flat prog uni ky 86 [.int .i64, .int .i64, .int .i64] := .struct 86 _ [.int .i64, .int .i64, .int .i64] underlying86 rfl (.cons _ _ _ [.int .i64] _ rfl flat3t rfl (.cons _ _ _ [.int .i64] _ rfl flat3t rfl (.cons _ _ _ [.int .i64] _ rfl flat3t rfl (.nil _))))
theorem full0 (ts : List (T El)) (R : (k : Nat) → List (El k) → Prop) (h0 : TsOf (U := uni) R [.str, .int .i64, .row 7] ts) : ∃ x : S64, elEnc 0 x = ts := by
  obtain ⟨x0, r0, e0, h1⟩ := ts_str h0
  subst e0
  obtain ⟨x1, r1, e1, h2⟩ := ts_int h1
  subst e1
  obtain ⟨x2, r2, e2, h3⟩ := ts_row h2
  subst e2
  have e_ := ts_nil h3; subst e_; exact ⟨⟨x0, x1, x2⟩, rfl⟩
theorem full1 (ts : List (T El)) (R : (k : Nat) → List (El k) → Prop) (h0 : TsOf (U := uni) R [.int .i64, .int .i64, .int .i64, .int .i64, .int .i64, .bool] ts) : ∃ x : S56, elEnc 1 x = ts := by
  obtain ⟨x0, r0, e0, h1⟩ := ts_int h0
  subst e0
  obtain ⟨x1, r1, e1, h2⟩ := ts_int h1
  subst e1
  obtain ⟨x2, r2, e2, h3⟩ := ts_int h2
  subst e2
  obtain ⟨x3, r3, e3, h4⟩ := ts_int h3
  subst e3
  obtain ⟨x4, r4, e4, h5⟩ := ts_int h4
  subst e4
  obtain ⟨x5, r5, e5, h6⟩ := ts_bool h5
  subst e5
  have e_ := ts_nil h6; subst e_; exact ⟨⟨x0, x1, x2, x3, x4, x5⟩, rfl⟩
theorem full2 (ts : List (T El)) (R : (k : Nat) → List (El k) → Prop) (h0 : TsOf (U := uni) R [.str, .int .i64, .row 6] ts) : ∃ x : S54, elEnc 2 x = ts := by
  obtain ⟨x0, r0, e0, h1⟩ := ts_str h0
  subst e0
  obtain ⟨x1, r1, e1, h2⟩ := ts_int h1
  subst e1
  obtain ⟨x2, r2, e2, h3⟩ := ts_row h2
  subst e2
  have e_ := ts_nil h3; subst e_; exact ⟨⟨x0, x1, x2⟩, rfl⟩
theorem full3 (ts : List (T El)) (R : (k : Nat) → List (El k) → Prop) (h0 : TsOf (U := uni) R [.int .i64, .int .i64, .int .i64, .int .i64, .int .i64, .bool] ts) : ∃ x : S56, elEnc 3 x = ts := by
  obtain ⟨x0, r0, e0, h1⟩ := ts_int h0
  subst e0
  obtain ⟨x1, r1, e1, h2⟩ := ts_int h1
  subst e1
  obtain ⟨x2, r2, e2, h3⟩ := ts_int h2
  subst e2
  obtain ⟨x3, r3, e3, h4⟩ := ts_int h3
  subst e3
  obtain ⟨x4, r4, e4, h5⟩ := ts_int h4
  subst e4
  obtain ⟨x5, r5, e5, h6⟩ := ts_bool h5
  subst e5
  have e_ := ts_nil h6; subst e_; exact ⟨⟨x0, x1, x2, x3, x4, x5⟩, rfl⟩
theorem full4 (ts : List (T El)) (R : (k : Nat) → List (El k) → Prop) (h0 : TsOf (U := uni) R [.int .u8] ts) : ∃ x : Int, elEnc 4 x = ts := by
  obtain ⟨x0, r0, e0, h1⟩ := ts_int h0
  subst e0
  have e_ := ts_nil h1; subst e_; exact ⟨x0, rfl⟩
theorem full5 (ts : List (T El)) (R : (k : Nat) → List (El k) → Prop) (h0 : TsOf (U := uni) R [.int .i64] ts) : ∃ x : Int, elEnc 5 x = ts := by
  obtain ⟨x0, r0, e0, h1⟩ := ts_int h0
  subst e0
  have e_ := ts_nil h1; subst e_; exact ⟨x0, rfl⟩
theorem full6 (ts : List (T El)) (R : (k : Nat) → List (El k) → Prop) (h0 : TsOf (U := uni) R [.int .i64, .int .i64, .int .i64, .int .i64] ts) : ∃ x : S69, elEnc 6 x = ts := by
  obtain ⟨x0, r0, e0, h1⟩ := ts_int h0
  subst e0
  obtain ⟨x1, r1, e1, h2⟩ := ts_int h1
  subst e1
  obtain ⟨x2, r2, e2, h3⟩ := ts_int h2
  subst e2
  obtain ⟨x3, r3, e3, h4⟩ := ts_int h3
  subst e3
  have e_ := ts_nil h4; subst e_; exact ⟨⟨x0, x1, x2, x3⟩, rfl⟩
theorem full7 (ts : List (T El)) (R : (k : Nat) → List (El k) → Prop) (h0 : TsOf (U := uni) R [.int .i64, .int .i64, .int .i64, .int .i64] ts) : ∃ x : S69, elEnc 7 x = ts := by
  obtain ⟨x0, r0, e0, h1⟩ := ts_int h0
  subst e0
  obtain ⟨x1, r1, e1, h2⟩ := ts_int h1
  subst e1
  obtain ⟨x2, r2, e2, h3⟩ := ts_int h2
  subst e2
  obtain ⟨x3, r3, e3, h4⟩ := ts_int h3
  subst e3
  have e_ := ts_nil h4; subst e_; exact ⟨⟨x0, x1, x2, x3⟩, rfl⟩
theorem full8 (ts : List (T El)) (R : (k : Nat) → List (El k) → Prop) (h0 : TsOf (U := uni) R [.int .i64, .int .i64, .int .i64] ts) : ∃ x : S71, elEnc 8 x = ts := by
  obtain ⟨x0, r0, e0, h1⟩ := ts_int h0
  subst e0
  obtain ⟨x1, r1, e1, h2⟩ := ts_int h1
  subst e1
  obtain ⟨x2, r2, e2, h3⟩ := ts_int h2
  subst e2
  have e_ := ts_nil h3; subst e_; exact ⟨⟨x0, x1, x2⟩, rfl⟩
theorem full9 (ts : List (T El)) (R : (k : Nat) → List (El k) → Prop) (h0 : TsOf (U := uni) R [.int .i64, .int .i64, .int .i64] ts) : ∃ x : S85, elEnc 9 x = ts := by
  obtain ⟨x0, r0, e0, h1⟩ := ts_int h0
  subst e0
  obtain ⟨x1, r1, e1, h2⟩ := ts_int h1
  subst e1
  obtain ⟨x2, r2, e2, h3⟩ := ts_int h2
  subst e2
  have e_ := ts_nil h3; subst e_; exact ⟨⟨x0, x1, x2⟩, rfl⟩
theorem full10 (ts : List (T El)) (R : (k : Nat) → List (El k) → Prop) (h0 : TsOf (U := uni) R [.bool] ts) : ∃ x : Bool, elEnc 10 x = ts := by
  obtain ⟨x0, r0, e0, h1⟩ := ts_bool h0
  subst e0
  have e_ := ts_nil h1; subst e_; exact ⟨x0, rfl⟩
theorem full11 (ts : List (T El)) (R : (k : Nat) → List (El k) → Prop) (h0 : TsOf (U := uni) R [.str] ts) : ∃ x : ByteArray, elEnc 11 x = ts := by
  obtain ⟨x0, r0, e0, h1⟩ := ts_str h0
  subst e0
  have e_ := ts_nil h1; subst e_; exact ⟨x0, rfl⟩
theorem kindsOk : Kinds prog uni ky where
  flat k h := match k, h with
    | 0, _ => flat65t
    | 1, _ => flat77t
    | 2, _ => flat55t
    | 3, _ => flat57t
    | 4, _ => flat5t
    | 5, _ => flat3t
    | 6, _ => flat70t
    | 7, _ => flat114t
    | 8, _ => flat72t
    | 9, _ => flat86t
    | 10, _ => flat4t
    | 11, _ => flat9t
    | 12, h => absurd rfl h
    | 13, h => absurd rfl h
    | 14, h => absurd rfl h
    | k + 15, h => absurd rfl h
  size k h := match k, h with
    | 0, _ => rfl
    | 1, _ => rfl
    | 2, _ => rfl
    | 3, _ => rfl
    | 4, _ => rfl
    | 5, _ => rfl
    | 6, _ => rfl
    | 7, _ => rfl
    | 8, _ => rfl
    | 9, _ => rfl
    | 10, _ => rfl
    | 11, _ => rfl
    | 12, h => absurd rfl h
    | 13, h => absurd rfl h
    | 14, h => absurd rfl h
    | k + 15, h => absurd rfl h
  full k ts R h h' := match k, h, h' with
    | 0, _, h' => full0 ts R h'
    | 1, _, h' => full1 ts R h'
    | 2, _, h' => full2 ts R h'
    | 3, _, h' => full3 ts R h'
    | 4, _, h' => full4 ts R h'
    | 5, _, h' => full5 ts R h'
    | 6, _, h' => full6 ts R h'
    | 7, _, h' => full7 ts R h'
    | 8, _, h' => full8 ts R h'
    | 9, _, h' => full9 ts R h'
    | 10, _, h' => full10 ts R h'
    | 11, _, h' => full11 ts R h'
    | 12, h, _ => absurd rfl h
    | 13, h, _ => absurd rfl h
    | 14, h, _ => absurd rfl h
    | k + 15, h, _ => absurd rfl h
end Go.Proofs.YtchohkelpjfpcaaDoor.AX

/- The function 45 of the program in the small machine. No conditions. -/
namespace Go.Proofs.YtchohkelpjfpcaaDoor.AX.F45
open Go Go.Proofs.Tryd
noncomputable def code : Code := bodyOf f45
abbrev Y : Type := (Int × Int)
def cp : Cod uni (List Int) := (cod1 (iRow 4))
def cr : Coz uni (Int × Int) := (cozR (cod1 (iAgg (codD (codC (iInt .i64) (cod1 (iInt .i64)))))) (codD cod0))
noncomputable def es : List (Ent prog uni) := []
theorem get : prog.funcs[45]? = some f45 := by kernel_rfl

noncomputable def F : (List Int) → Option ((Int × Int))
  | p0 =>
  some (0, (Int.tmod ((List.length p0) : Int) 1000))
theorem F.eq : ∀ x, F x = runF (mkE tab es 9 [] []) code [.ro 4] [.box 107 [.same 0 0, .sc, .sc]] [.tmp 2] (Coz.dec cr) (cp.enc x) := fun x => by kernel_rfl
theorem F.owed : owed (mkE (R := (Int × Int)) tab es 9 [] []) code = [] := by kernel_rfl
theorem con : ∀ x y, F x = some y → Con prog 45 [.ro 4] [.box 107 [.same 0 0, .sc, .sc]] (cp.enc x) (cr.enc y).1 (cr.enc y).2 :=
  func_ok (c := code) (n := 9) (pf := [.ro 4]) (res := [.tmp 2]) tabOk uniOk mixed get (by kernel_rfl) (by kernel_rfl) (by kernel_rfl) (by decide) F.eq fun w0 M h x hx => by rw [F.owed] at hx; exact absurd hx List.not_mem_nil
noncomputable def ent : Ent prog uni := Ent.of 45 [.ro 4] [.box 107 [.same 0 0, .sc, .sc]] cp cr F con fun args w => enters_of get (by kernel_rfl) rfl args w
end Go.Proofs.YtchohkelpjfpcaaDoor.AX.F45

/- The function 65 of the program in the small machine. No conditions. -/
namespace Go.Proofs.YtchohkelpjfpcaaDoor.AX.F65
open Go Go.Proofs.Tryd
noncomputable def code : Code := bodyOf f65
abbrev Y : Type := (Int × (Int × Int))
def cp : Cod uni ((List Int) × Int × Int) := (cod1 (iAgg (codC (iRow 4) (codC (iInt .i64) (cod1 (iInt .i64))))))
def cr : Coz uni (Int × (Int × Int)) := (cozRM (cod1 (iInt .i64)) (cod1 (iAgg (codD (codC (iInt .i64) (cod1 (iInt .i64)))))))
noncomputable def es : List (Ent prog uni) := []
theorem get : prog.funcs[65]? = some f65 := by kernel_rfl

noncomputable def F : ((List Int) × Int × Int) → Option ((Int × (Int × Int)))
  | (p0_0, p0_1, p0_2) =>
  let x4 := (Go.IntKind.wrap (Go.IntKind.i64 ) (p0_1 + 1))
  let x5 := ((List.length p0_0) : Int)
  cond (decide (x4 ≤ x5)) (
   let x3 := (Go.IntKind.wrap (Go.IntKind.i64 ) (x4 - 1))
   let x0 := ((decide (0 ≤ x3)) && (decide (x3 < x5)))
   cond x0 (
    cond x0 (
     let x1 := (Go.IntKind.wrap (Go.IntKind.i64 ) (List.getD p0_0 (Int.toNat x3) 0))
     some (x1, (x4, (Int.tmod (Go.IntKind.wrap (Go.IntKind.i64 ) ((Go.IntKind.wrap (Go.IntKind.i64 ) ((Go.IntKind.wrap (Go.IntKind.i64 ) (p0_2 * 31)) + x1)) + 7)) 2147483648)))) none) none) (
   cond (decide (x4 > 3000)) (
    some (0, (x4, p0_2))) (
    let x2 := (Int.tmod (Go.IntKind.wrap (Go.IntKind.i64 ) ((Go.IntKind.wrap (Go.IntKind.i64 ) (p0_2 * 1103515245)) + 12345)) 2147483648)
    some ((Int.tmod (Go.IntKind.wrap (Go.IntKind.i64 ) (Int.tdiv x2 65536)) 256), (x4, x2))))
theorem F.eq : ∀ x, F x = runF (mkE tab es 76 [] []) code [.box 107 [.ro 4, .sc, .sc]] [.sc] [.tmp 2] (Coz.dec cr) (cp.enc x) := fun x => by kernel_rfl
theorem F.owed : owed (mkE (R := (Int × (Int × Int))) tab es 76 [] []) code = [] := by kernel_rfl
theorem con : ∀ x y, F x = some y → Con prog 65 [.box 107 [.ro 4, .sc, .sc]] [.sc] (cp.enc x) (cr.enc y).1 (cr.enc y).2 :=
  func_ok (c := code) (n := 76) (pf := [.box 107 [.ro 4, .sc, .sc]]) (res := [.tmp 2]) tabOk uniOk mixed get (by kernel_rfl) (by kernel_rfl) (by kernel_rfl) (by decide) F.eq fun w0 M h x hx => by rw [F.owed] at hx; exact absurd hx List.not_mem_nil
noncomputable def ent : Ent prog uni := Ent.of 65 [.box 107 [.ro 4, .sc, .sc]] [.sc] cp cr F con fun args w => enters_of get (by kernel_rfl) rfl args w
end Go.Proofs.YtchohkelpjfpcaaDoor.AX.F65

/- The function 56 of the program in the small machine. No conditions. -/
namespace Go.Proofs.YtchohkelpjfpcaaDoor.AX.F56
open Go Go.Proofs.Tryd
noncomputable def code : Code := bodyOf f56
abbrev Y : Type := (Int × ((Int × Int) × Unit))
def cp : Cod uni (((List Int) × Int × Int) × Int) := (codC (iAgg (codC (iRow 4) (codC (iInt .i64) (cod1 (iInt .i64))))) (cod1 (iInt .i64)))
def cr : Coz uni (Int × ((Int × Int) × Unit)) := (cozRM (cod1 (iInt .i64)) (codC (iAgg (codD (codC (iInt .i64) (cod1 (iInt .i64))))) (codD cod0)))
noncomputable def es : List (Ent prog uni) := [F65.ent]
theorem get : prog.funcs[56]? = some f56 := by kernel_rfl

noncomputable def F : (((List Int) × Int × Int) × Int) → Option ((Int × ((Int × Int) × Unit)))
  | ((p0_0, p0_1, p0_2), p1) =>
  cond (decide (p1 ≤ 1)) (
   some (0, ((p0_1, p0_2), ()))) (
   let x0 := (F65.F (p0_0, (p0_1, p0_2)))
   cond (decide (p1 ≤ 256)) (
    x0.bind fun y65 =>
    cond (!(decide (p1 = 0))) (
     some ((Int.tmod y65.1 p1), ((y65.2.1, y65.2.2), ()))) none) (
    x0.bind fun y65 =>
    (F65.F (p0_0, (y65.2.1, y65.2.2))).bind fun y65x2 =>
    (F65.F (p0_0, (y65x2.2.1, y65x2.2.2))).bind fun y65x3 =>
    cond (!(decide (p1 = 0))) (
     some ((Int.tmod (Go.IntKind.wrap (Go.IntKind.i64 ) ((Go.IntKind.wrap (Go.IntKind.i64 ) ((Go.IntKind.wrap (Go.IntKind.i64 ) (y65.1 * 65536)) + (Go.IntKind.wrap (Go.IntKind.i64 ) (y65x2.1 * 256)))) + y65x3.1)) p1), ((y65x3.2.1, y65x3.2.2), ()))) none))
theorem F.eq : ∀ x, F x = runF (mkE tab es 31 [] []) code [.box 107 [.ro 4, .sc, .sc], .sc] [.sc] [.tmp 4] (Coz.dec cr) (cp.enc x) := fun x => by kernel_rfl
theorem F.owed : owed (mkE (R := (Int × ((Int × Int) × Unit))) tab es 31 [] []) code = [] := by kernel_rfl
theorem con : ∀ x y, F x = some y → Con prog 56 [.box 107 [.ro 4, .sc, .sc], .sc] [.sc] (cp.enc x) (cr.enc y).1 (cr.enc y).2 :=
  func_ok (c := code) (n := 31) (pf := [.box 107 [.ro 4, .sc, .sc], .sc]) (res := [.tmp 4]) tabOk uniOk mixed get (by kernel_rfl) (by kernel_rfl) (by kernel_rfl) (by decide) F.eq fun w0 M h x hx => by rw [F.owed] at hx; exact absurd hx List.not_mem_nil
noncomputable def ent : Ent prog uni := Ent.of 56 [.box 107 [.ro 4, .sc, .sc], .sc] [.sc] cp cr F con fun args w => enters_of get (by kernel_rfl) rfl args w
end Go.Proofs.YtchohkelpjfpcaaDoor.AX.F56

/- The function 57 of the program in the small machine. No conditions. -/
namespace Go.Proofs.YtchohkelpjfpcaaDoor.AX.F57
open Go Go.Proofs.Tryd
noncomputable def code : Code := bodyOf f57
abbrev Y : Type := (Int × ((Int × Int) × Unit))
def cp : Cod uni (((List Int) × Int × Int) × Int) := (codC (iAgg (codC (iRow 4) (codC (iInt .i64) (cod1 (iInt .i64))))) (cod1 (iInt .i64)))
def cr : Coz uni (Int × ((Int × Int) × Unit)) := (cozRM (cod1 (iInt .i64)) (codC (iAgg (codD (codC (iInt .i64) (cod1 (iInt .i64))))) (codD cod0)))
noncomputable def es : List (Ent prog uni) := []
theorem get : prog.funcs[57]? = some f57 := by kernel_rfl

noncomputable def F : (((List Int) × Int × Int) × Int) → Option ((Int × ((Int × Int) × Unit)))
  | ((p0_0, p0_1, p0_2), p1) =>
  some ((if (p1 < (Go.IntKind.wrap (Go.IntKind.i64 ) (1 + (Go.IntKind.wrap (Go.IntKind.i64 ) (Int.tdiv ((List.length p0_0) : Int) 12))))) then p1 else (Go.IntKind.wrap (Go.IntKind.i64 ) (1 + (Go.IntKind.wrap (Go.IntKind.i64 ) (Int.tdiv ((List.length p0_0) : Int) 12))))), ((p0_1, p0_2), ()))
theorem F.eq : ∀ x, F x = runF (mkE tab es 14 [] []) code [.box 107 [.ro 4, .sc, .sc], .sc] [.sc] [.tmp 4] (Coz.dec cr) (cp.enc x) := fun x => by kernel_rfl
theorem F.owed : owed (mkE (R := (Int × ((Int × Int) × Unit))) tab es 14 [] []) code = [] := by kernel_rfl
theorem con : ∀ x y, F x = some y → Con prog 57 [.box 107 [.ro 4, .sc, .sc], .sc] [.sc] (cp.enc x) (cr.enc y).1 (cr.enc y).2 :=
  func_ok (c := code) (n := 14) (pf := [.box 107 [.ro 4, .sc, .sc], .sc]) (res := [.tmp 4]) tabOk uniOk mixed get (by kernel_rfl) (by kernel_rfl) (by kernel_rfl) (by decide) F.eq fun w0 M h x hx => by rw [F.owed] at hx; exact absurd hx List.not_mem_nil
noncomputable def ent : Ent prog uni := Ent.of 57 [.box 107 [.ro 4, .sc, .sc], .sc] [.sc] cp cr F con fun args w => enters_of get (by kernel_rfl) rfl args w
end Go.Proofs.YtchohkelpjfpcaaDoor.AX.F57

/- The function 58 of the program in the small machine. No conditions. -/
namespace Go.Proofs.YtchohkelpjfpcaaDoor.AX.F58
open Go Go.Proofs.Tryd
noncomputable def code : Code := bodyOf f58
abbrev Y : Type := (ByteArray × ((Int × Int) × Unit))
def cp : Cod uni (((List Int) × Int × Int) × (List ByteArray)) := (codC (iAgg (codC (iRow 4) (codC (iInt .i64) (cod1 (iInt .i64))))) (cod1 (iRow 11)))
def cr : Coz uni (ByteArray × ((Int × Int) × Unit)) := (cozRM (cod1 iStr) (codC (iAgg (codD (codC (iInt .i64) (cod1 (iInt .i64))))) (codD cod0)))
noncomputable def es : List (Ent prog uni) := [F56.ent]
theorem get : prog.funcs[58]? = some f58 := by kernel_rfl

noncomputable def F : (((List Int) × Int × Int) × (List ByteArray)) → Option ((ByteArray × ((Int × Int) × Unit)))
  | ((p0_0, p0_1, p0_2), p1) =>
  let x0 := ((List.length p1) : Int)
  cond (x0 == 0) (
   some ((ByteArray.mk (Array.mk ([] : List UInt8))), ((p0_1, p0_2), ()))) (
   (F56.F ((p0_0, (p0_1, p0_2)), x0)).bind fun y56 =>
   cond ((decide (0 ≤ y56.1)) && (decide (y56.1 < x0))) (
    some ((List.getD p1 (Int.toNat y56.1) (ByteArray.mk (Array.mk ([] : List UInt8)))), ((y56.2.1.1, y56.2.1.2), ()))) none)
theorem F.eq : ∀ x, F x = runF (mkE tab es 15 [] []) code [.box 107 [.ro 4, .sc, .sc], .row 11 0] [.sc] [.tmp 4] (Coz.dec cr) (cp.enc x) := fun x => by kernel_rfl
theorem F.owed : owed (mkE (R := (ByteArray × ((Int × Int) × Unit))) tab es 15 [] []) code = [] := by kernel_rfl
theorem con : ∀ x y, F x = some y → Con prog 58 [.box 107 [.ro 4, .sc, .sc], .row 11 0] [.sc] (cp.enc x) (cr.enc y).1 (cr.enc y).2 :=
  func_ok (c := code) (n := 15) (pf := [.box 107 [.ro 4, .sc, .sc], .row 11 0]) (res := [.tmp 4]) tabOk uniOk mixed get (by kernel_rfl) (by kernel_rfl) (by kernel_rfl) (by decide) F.eq fun w0 M h x hx => by rw [F.owed] at hx; exact absurd hx List.not_mem_nil
noncomputable def ent : Ent prog uni := Ent.of 58 [.box 107 [.ro 4, .sc, .sc], .row 11 0] [.sc] cp cr F con fun args w => enters_of get (by kernel_rfl) rfl args w
end Go.Proofs.YtchohkelpjfpcaaDoor.AX.F58

/- The function 59 of the program in the small machine. No conditions. -/
namespace Go.Proofs.YtchohkelpjfpcaaDoor.AX.F59
open Go Go.Proofs.Tryd
noncomputable def code : Code := bodyOf f59
abbrev Y : Type := (Int × (Int × Int))
def cp : Cod uni ((List Int) × Int × Int) := (cod1 (iAgg (codC (iRow 4) (codC (iInt .i64) (cod1 (iInt .i64))))))
def cr : Coz uni (Int × (Int × Int)) := (cozRM (cod1 (iInt .i64)) (cod1 (iAgg (codD (codC (iInt .i64) (cod1 (iInt .i64)))))))
noncomputable def es : List (Ent prog uni) := [F56.ent]
theorem get : prog.funcs[59]? = some f59 := by kernel_rfl

noncomputable def F : ((List Int) × Int × Int) → Option ((Int × (Int × Int)))
  | (p0_0, p0_1, p0_2) =>
  (F56.F ((p0_0, (p0_1, p0_2)), 12)).bind fun y56 =>
  cond ((decide (0 ≤ y56.1)) && (decide (y56.1 < ((List.length (0 :: ((-1) :: (1 :: (2 :: (63 :: (64 :: (65 :: (4096 :: (4097 :: (9223372036854775807 :: ((-9223372036854775808) :: (30 :: []))))))))))))) : Int)))) (
   some ((List.getD (0 :: ((-1) :: (1 :: (2 :: (63 :: (64 :: (65 :: (4096 :: (4097 :: (9223372036854775807 :: ((-9223372036854775808) :: (30 :: [])))))))))))) (Int.toNat y56.1) 0), (y56.2.1.1, y56.2.1.2))) none
theorem F.eq : ∀ x, F x = runF (mkE tab es 8 [] []) code [.box 107 [.ro 4, .sc, .sc]] [.sc] [.tmp 2] (Coz.dec cr) (cp.enc x) := fun x => by kernel_rfl
theorem F.owed : owed (mkE (R := (Int × (Int × Int))) tab es 8 [] []) code = [] := by kernel_rfl
theorem con : ∀ x y, F x = some y → Con prog 59 [.box 107 [.ro 4, .sc, .sc]] [.sc] (cp.enc x) (cr.enc y).1 (cr.enc y).2 :=
  func_ok (c := code) (n := 8) (pf := [.box 107 [.ro 4, .sc, .sc]]) (res := [.tmp 2]) tabOk uniOk mixed get (by kernel_rfl) (by kernel_rfl) (by kernel_rfl) (by decide) F.eq fun w0 M h x hx => by rw [F.owed] at hx; exact absurd hx List.not_mem_nil
noncomputable def ent : Ent prog uni := Ent.of 59 [.box 107 [.ro 4, .sc, .sc]] [.sc] cp cr F con fun args w => enters_of get (by kernel_rfl) rfl args w
end Go.Proofs.YtchohkelpjfpcaaDoor.AX.F59

/- The function 60 of the program in the small machine. No conditions. -/
namespace Go.Proofs.YtchohkelpjfpcaaDoor.AX.F60
open Go Go.Proofs.Tryd
noncomputable def code : Code := bodyOf f60
abbrev Y : Type := ByteArray
def cp : Cod uni Int := (cod1 (iInt .i64))
def cr : Coz uni ByteArray := (cozR (cod1 iStr) (codD cod0))
theorem get : prog.funcs[60]? = some f60 := by kernel_rfl
section
variable (G : Int → Option (ByteArray)) (hG : ∀ x y, G x = some y → Con prog 60 [.sc] [.sc] (cp.enc x) (cr.enc y).1 (cr.enc y).2)
noncomputable def es : List (Ent prog uni) := [Ent.of 60 [.sc] [.sc] cp cr G hG fun args w => enters_of get (by kernel_rfl) rfl args w]

noncomputable def S : Int → Option (ByteArray)
  | p0 =>
  cond (p0 == (-9223372036854775808)) (
   some (ByteArray.mk (Array.mk (45 :: (57 :: (50 :: (50 :: (51 :: (51 :: (55 :: (50 :: (48 :: (51 :: (54 :: (56 :: (53 :: (52 :: (55 :: (55 :: (53 :: (56 :: (48 :: (56 :: []))))))))))))))))))))))) (
   cond (decide (p0 < 0)) (
    (G (Go.IntKind.wrap (Go.IntKind.i64 ) (0 - p0))).bind fun y60 =>
    cond (decide (((ByteArray.size (ByteArray.mk (Array.mk (45 :: [])))) + (ByteArray.size y60)) ≤ 274877906944)) (
     some ((ByteArray.mk (Array.mk (45 :: []))) ++ y60)) none) (
    cond (decide (p0 < 10)) (
     some (strRow (U := uni) 4 ((Go.IntKind.wrap (Go.IntKind.u8 ) (Go.IntKind.wrap (Go.IntKind.i64 ) (48 + p0))) :: []))) (
     (G (Go.IntKind.wrap (Go.IntKind.i64 ) (Int.tdiv p0 10))).bind fun y60 =>
     let x0 := (strRow (U := uni) 4 ((Go.IntKind.wrap (Go.IntKind.u8 ) (Go.IntKind.wrap (Go.IntKind.i64 ) (48 + (Int.tmod p0 10)))) :: []))
     cond (decide (((ByteArray.size y60) + (ByteArray.size x0)) ≤ 274877906944)) (
      some (y60 ++ x0)) none)))
theorem S.eq : ∀ x, S G x = runF (mkE tab (es G hG) 28 [] []) code [.sc] [.sc] [.tmp 2] (Coz.dec cr) (cp.enc x) := fun x => by kernel_rfl
theorem S.owed : owed (mkE (R := ByteArray) tab (es G hG) 28 [] []) code = [] := by kernel_rfl
include hG in
theorem S.con : ∀ x y, S G x = some y → Con prog 60 [.sc] [.sc] (cp.enc x) (cr.enc y).1 (cr.enc y).2 :=
  func_ok (c := code) (n := 28) (pf := [.sc]) (res := [.tmp 2]) tabOk uniOk mixed get (by kernel_rfl) (by kernel_rfl) (by kernel_rfl) (by decide) (S.eq G hG) fun w0 M h x hx => by rw [S.owed] at hx; exact absurd hx List.not_mem_nil
end
noncomputable def lev : Nat → Int → Option (ByteArray)
  | 0 => fun _ => none
  | n + 1 => S (lev n)
theorem lev.con : ∀ n, ∀ x y, lev n x = some y → Con prog 60 [.sc] [.sc] (cp.enc x) (cr.enc y).1 (cr.enc y).2
  | 0 => fun _ _ h => nomatch h
  | n + 1 => S.con (lev n) (lev.con n)
noncomputable def F : Int → Option (ByteArray) := lev 24
theorem con : ∀ x y, F x = some y → Con prog 60 [.sc] [.sc] (cp.enc x) (cr.enc y).1 (cr.enc y).2 := lev.con 24
noncomputable def ent : Ent prog uni := Ent.of 60 [.sc] [.sc] cp cr F con fun args w => enters_of get (by kernel_rfl) rfl args w
end Go.Proofs.YtchohkelpjfpcaaDoor.AX.F60

/- The function 46 of the program in the small machine. No conditions. -/
namespace Go.Proofs.YtchohkelpjfpcaaDoor.AX.F46
open Go Go.Proofs.Tryd
noncomputable def code : Code := bodyOf f46
abbrev Y : Type := (((Int × Int × Int) × (List S54)) × (Int × Int))
def cp : Cod uni ((List Int) × Int × Int) := (cod1 (iAgg (codC (iRow 4) (codC (iInt .i64) (cod1 (iInt .i64))))))
def cr : Coz uni (((Int × Int × Int) × (List S54)) × (Int × Int)) := (cozRM (codC (iAgg (codC (iInt .i64) (codC (iInt .i64) (cod1 (iInt .i64))))) (cod1 (iRow 2))) (cod1 (iAgg (codD (codC (iInt .i64) (cod1 (iInt .i64)))))))
noncomputable def es : List (Ent prog uni) := [F56.ent, F57.ent, F58.ent, F59.ent, F60.ent]
theorem get : prog.funcs[46]? = some f46 := by kernel_rfl

def l2.A : Ann := ⟨[(0, .box 4194304 0), (2, .box 5000128 0), (4, .box 5000256 0), (5, .slc 5000320 []), (6, .slc 5000384 []), (7, .sc), (8, .box 5000512 0), (9, .sc)], [(4194304, 107, [.slc 4194305 [], .sc, .sc]), (5000128, 30, [.sc, .sc, .sc]), (5000256, 30, [.sc, .sc, .sc]), (5000512, 55, [.sc, .sc, .slc 5000524 []])], [(5000320, true, 11), (5000384, true, 2), (4194305, false, 4), (5000524, true, 6)], [4194304, 4194305]⟩
def l2.c : Cod uni (Int × Int × Int × Int × Int × Int × Int × Int × Int × Int × ByteArray × Int × (List ByteArray) × (List S54) × (List Int) × (List S69)) := (codC (iInt .i64) (codC (iInt .i64) (codC (iInt .i64) (codC (iInt .i64) (codC (iInt .i64) (codC (iInt .i64) (codC (iInt .i64) (codC (iInt .i64) (codC (iInt .i64) (codC (iInt .i64) (codC iStr (codC (iInt .i64) (codC (iRow 11) (codC (iRow 2) (codC (iRow 4) (cod1 (iRow 6)))))))))))))))))
def l2.xs : List (AExit × Ann) := [((.exit 2), ⟨[(0, .box 4194304 0), (2, .box 5000128 0), (4, .box 5000256 0), (5, .slc 5000320 []), (6, .slc 5000384 []), (7, .sc), (8, .box 5000512 0)], [(4194304, 107, [.slc 4194305 [], .sc, .sc]), (5000128, 30, [.sc, .sc, .sc]), (5000256, 30, [.sc, .sc, .sc]), (5000512, 55, [.sc, .sc, .slc 5000524 []])], [(5000320, true, 11), (5000384, true, 2), (4194305, false, 4), (5000524, true, 6)], [4194304, 4194305]⟩)]
def l2.y : Coy uni ((Int × Int × Int × Int × Int × Int × Int × Int × Int × ByteArray × Int × (List ByteArray) × (List S54) × (List Int) × (List S69))) := (coy1 (codC (iInt .i64) (codC (iInt .i64) (codC (iInt .i64) (codC (iInt .i64) (codC (iInt .i64) (codC (iInt .i64) (codC (iInt .i64) (codC (iInt .i64) (codC (iInt .i64) (codC iStr (codC (iInt .i64) (codC (iRow 11) (codC (iRow 2) (codC (iRow 4) (cod1 (iRow 6)))))))))))))))))
noncomputable def l2.b : Int × Int × Int × Int × Int × Int × Int × Int × Int × Int × ByteArray × Int × (List ByteArray) × (List S54) × (List Int) × (List S69) → Option ((Int × Int × Int × Int × Int × Int × Int × Int × Int × Int × ByteArray × Int × (List ByteArray) × (List S54) × (List Int) × (List S69)) ⊕ ((Int × Int × Int × Int × Int × Int × Int × Int × Int × ByteArray × Int × (List ByteArray) × (List S54) × (List Int) × (List S69))))
  | (v7, v9, b94304_1, b94304_2, b128_0, b128_1, b128_2, b256_0, b256_1, b256_2, b512_0, b512_1, r320, r384, r94305, r524) =>
  cond (decide (v9 > 0)) (
   (F56.F ((r94305, (b94304_1, b94304_2)), b256_0)).bind fun y56 =>
   (F56.F ((r94305, (y56.2.1.1, y56.2.1.2)), 12)).bind fun y56x2 =>
   (F56.F ((r94305, (y56x2.2.1.1, y56x2.2.1.2)), 3)).bind fun y56x3 =>
   (F56.F ((r94305, (y56x3.2.1.1, y56x3.2.1.2)), 5)).bind fun y56x4 =>
   let x0 := ((⟨y56.1, (Go.IntKind.wrap (Go.IntKind.i64 ) (1 + y56x2.1)), y56x3.1, y56x4.1⟩ : S69) :: [])
   cond (decide (((List.length r524) + (List.length x0)) ≤ 274877906944)) (
    some (.inl (v7, (Go.IntKind.wrap (Go.IntKind.i64 ) (v9 - 1)), y56x4.2.1.1, y56x4.2.1.2, b128_0, b128_1, b128_2, b256_0, b256_1, b256_2, b512_0, b512_1, r320, r384, r94305, (r524 ++ x0)))) none) (
   some (.inr (v7, b94304_1, b94304_2, b128_0, b128_1, b128_2, b256_0, b256_1, b256_2, b512_0, b512_1, r320, r384, r94305, r524)))
noncomputable def l2 (x : Int × Int × Int × Int × Int × Int × Int × Int × Int × Int × ByteArray × Int × (List ByteArray) × (List S54) × (List Int) × (List S69)) : Option ((Int × Int × Int × Int × Int × Int × Int × Int × Int × ByteArray × Int × (List ByteArray) × (List S54) × (List Int) × (List S69))) := lim l2.b x
theorem l2.eq : ∀ x, l2.b x = roundX (mkE tab es 209 [] []) (loopAt 2 code) (cutOf l2.A l2.c) (cutsOf l2.xs l2.y) x := fun x => by kernel_rfl
theorem l2.owed {R : Type} : owed (mkE (R := R) tab es 209 [] []) (loopAt 2 code) = [] := by kernel_rfl
theorem l2.ok (w0 : World) (M : Own) (h : Pinned M [4194304, 4194305]) {R : Type} : SoundO prog w0 M 209 (.block 2 (.loop (loopAt 2 code))) (loopO (R := R) 2 (cutOf l2.A l2.c) (cutsOf l2.xs l2.y) l2) :=
  loop_ok tabOk uniOk mixed l2.eq (h.sub rfl) (h.sub rfl) fun x hx => by rw [l2.owed] at hx; exact absurd hx List.not_mem_nil

def l0.A : Ann := ⟨[(0, .box 4194304 0), (2, .box 5000128 0), (4, .box 5000256 0), (5, .slc 5000320 []), (6, .slc 5000384 []), (7, .sc)], [(4194304, 107, [.slc 4194305 [], .sc, .sc]), (5000128, 30, [.sc, .sc, .sc]), (5000256, 30, [.sc, .sc, .sc])], [(5000320, true, 11), (5000384, true, 2), (4194305, false, 4)], [4194304, 4194305]⟩
def l0.c : Cod uni (Int × Int × Int × Int × Int × Int × Int × Int × Int × (List ByteArray) × (List S54) × (List Int)) := (codC (iInt .i64) (codC (iInt .i64) (codC (iInt .i64) (codC (iInt .i64) (codC (iInt .i64) (codC (iInt .i64) (codC (iInt .i64) (codC (iInt .i64) (codC (iInt .i64) (codC (iRow 11) (codC (iRow 2) (cod1 (iRow 4)))))))))))))
def l0.xs : List (AExit × Ann) := [((.exit 0), ⟨[(0, .box 4194304 0), (2, .box 5000128 0), (4, .box 5000256 0), (6, .slc 5000384 [])], [(4194304, 107, [.slc 4194305 [], .sc, .sc]), (5000128, 30, [.sc, .sc, .sc]), (5000256, 30, [.sc, .sc, .sc])], [(5000384, true, 2), (4194305, false, 4)], [4194304, 4194305]⟩)]
def l0.y : Coy uni ((Int × Int × Int × Int × Int × Int × Int × Int × (List S54) × (List Int))) := (coy1 (codC (iInt .i64) (codC (iInt .i64) (codC (iInt .i64) (codC (iInt .i64) (codC (iInt .i64) (codC (iInt .i64) (codC (iInt .i64) (codC (iInt .i64) (codC (iRow 2) (cod1 (iRow 4))))))))))))
noncomputable def l0.b : Int × Int × Int × Int × Int × Int × Int × Int × Int × (List ByteArray) × (List S54) × (List Int) → Option ((Int × Int × Int × Int × Int × Int × Int × Int × Int × (List ByteArray) × (List S54) × (List Int)) ⊕ ((Int × Int × Int × Int × Int × Int × Int × Int × (List S54) × (List Int))))
  | (v7, b94304_1, b94304_2, b128_0, b128_1, b128_2, b256_0, b256_1, b256_2, r320, r384, r94305) =>
  let x2 := ((List.length r384) : Int)
  let x1 := (decide (x2 < ((List.length r320) : Int)))
  cond ((decide (v7 > 0)) && x1) (
   cond ((decide (0 ≤ x2)) && x1) (
    (F56.F ((r94305, (b94304_1, b94304_2)), 60)).bind fun y56 =>
    (F56.F ((r94305, (y56.2.1.1, y56.2.1.2)), 4)).bind fun y56x2 =>
    (l2 (v7, (Go.IntKind.wrap (Go.IntKind.i64 ) (1 + y56x2.1)), y56x2.2.1.1, y56x2.2.1.2, b128_0, b128_1, b128_2, b256_0, b256_1, b256_2, (List.getD r320 (Int.toNat x2) (ByteArray.mk (Array.mk ([] : List UInt8)))), y56.1, r320, r384, r94305, ([] : List S69))).bind fun yl2 =>
    let x0 := ((⟨yl2.2.2.2.2.2.2.2.2.2.1, yl2.2.2.2.2.2.2.2.2.2.2.1, yl2.2.2.2.2.2.2.2.2.2.2.2.2.2.2⟩ : S54) :: [])
    cond (decide (((List.length yl2.2.2.2.2.2.2.2.2.2.2.2.2.1) + (List.length x0)) ≤ 274877906944)) (
     some (.inl ((Go.IntKind.wrap (Go.IntKind.i64 ) (yl2.1 - 1)), yl2.2.1, yl2.2.2.1, yl2.2.2.2.1, yl2.2.2.2.2.1, yl2.2.2.2.2.2.1, yl2.2.2.2.2.2.2.1, yl2.2.2.2.2.2.2.2.1, yl2.2.2.2.2.2.2.2.2.1, yl2.2.2.2.2.2.2.2.2.2.2.2.1, (yl2.2.2.2.2.2.2.2.2.2.2.2.2.1 ++ x0), yl2.2.2.2.2.2.2.2.2.2.2.2.2.2.1))) none) none) (
   some (.inr (b94304_1, b94304_2, b128_0, b128_1, b128_2, b256_0, b256_1, b256_2, r384, r94305)))
noncomputable def l0 (x : Int × Int × Int × Int × Int × Int × Int × Int × Int × (List ByteArray) × (List S54) × (List Int)) : Option ((Int × Int × Int × Int × Int × Int × Int × Int × (List S54) × (List Int))) := lim l0.b x
theorem l0.eq : ∀ x, l0.b x = roundX (mkE tab es 209 [(2, some (loopO 2 (cutOf l2.A l2.c) (cutsOf l2.xs l2.y) l2))] []) (loopAt 0 code) (cutOf l0.A l0.c) (cutsOf l0.xs l0.y) x := fun x => by kernel_rfl
theorem l0.owed {R : Type} : owed (mkE (R := R) tab es 209 [(2, some (loopO 2 (cutOf l2.A l2.c) (cutsOf l2.xs l2.y) l2))] []) (loopAt 0 code) = [((.block 2 (.loop (loopAt 2 code))), (loopO (R := _) 2 (cutOf l2.A l2.c) (cutsOf l2.xs l2.y) l2))] := by kernel_rfl
theorem l0.ok (w0 : World) (M : Own) (h : Pinned M [4194304, 4194305]) {R : Type} : SoundO prog w0 M 209 (.block 0 (.loop (loopAt 0 code))) (loopO (R := R) 0 (cutOf l0.A l0.c) (cutsOf l0.xs l0.y) l0) :=
  loop_ok tabOk uniOk mixed l0.eq (h.sub rfl) (h.sub rfl) fun x hx => by rw [l0.owed] at hx; rcases List.mem_cons.1 hx with rfl | hx; exact l2.ok w0 M h; exact absurd hx List.not_mem_nil

def l5.A : Ann := ⟨[(0, .box 4194304 0), (2, .box 5000128 0), (4, .box 5000256 0), (6, .slc 5000384 []), (10, .sc)], [(4194304, 107, [.slc 4194305 [], .sc, .sc]), (5000128, 30, [.sc, .sc, .sc]), (5000256, 30, [.sc, .sc, .sc])], [(5000384, true, 2), (4194305, false, 4)], [4194304, 4194305]⟩
def l5.c : Cod uni (Int × Int × Int × Int × Int × Int × Int × Int × Int × (List S54) × (List Int)) := (codC (iInt .i64) (codC (iInt .i64) (codC (iInt .i64) (codC (iInt .i64) (codC (iInt .i64) (codC (iInt .i64) (codC (iInt .i64) (codC (iInt .i64) (codC (iInt .i64) (codC (iRow 2) (cod1 (iRow 4))))))))))))
def l5.xs : List (AExit × Ann) := [((.exit 5), ⟨[(0, .box 4194304 0), (2, .box 5000128 0), (4, .box 5000256 0), (6, .slc 5000384 [])], [(4194304, 107, [.slc 4194305 [], .sc, .sc]), (5000128, 30, [.sc, .sc, .sc]), (5000256, 30, [.sc, .sc, .sc])], [(5000384, true, 2), (4194305, false, 4)], [4194304, 4194305]⟩)]
def l5.y : Coy uni ((Int × Int × Int × Int × Int × Int × Int × Int × (List S54) × (List Int))) := (coy1 (codC (iInt .i64) (codC (iInt .i64) (codC (iInt .i64) (codC (iInt .i64) (codC (iInt .i64) (codC (iInt .i64) (codC (iInt .i64) (codC (iInt .i64) (codC (iRow 2) (cod1 (iRow 4))))))))))))
noncomputable def l5.b : Int × Int × Int × Int × Int × Int × Int × Int × Int × (List S54) × (List Int) → Option ((Int × Int × Int × Int × Int × Int × Int × Int × Int × (List S54) × (List Int)) ⊕ ((Int × Int × Int × Int × Int × Int × Int × Int × (List S54) × (List Int))))
  | (v10, b94304_1, b94304_2, b128_0, b128_1, b128_2, b256_0, b256_1, b256_2, r384, r94305) =>
  let x2 := ((decide (0 ≤ v10)) && (decide (v10 < ((List.length r384) : Int))))
  cond x2 (
   (F56.F ((r94305, (b94304_1, b94304_2)), 2)).bind fun y56 =>
   let x5 := (List.getD r384 (Int.toNat v10) z54)
   let x4 := (List.length x5.f2)
   let x3 := (x4 : Int)
   cond (decide (x3 < (Go.IntKind.wrap (Go.IntKind.i64 ) (8 + y56.1)))) (
    cond x2 (
     cond x2 (
      cond ((decide (0 ≤ 0)) && (decide (0 < x3))) (
       let x1 := (List.getD x5.f2 (Int.toNat 0) z69)
       let x0 := ((⟨x1.f0, x1.f1, x1.f2, x1.f3⟩ : S69) :: [])
       cond (decide ((x4 + (List.length x0)) ≤ 274877906944)) (
        cond x2 (
         cond (decide (v10 = v10)) (
          some (.inl (v10, y56.2.1.1, y56.2.1.2, b128_0, b128_1, b128_2, b256_0, b256_1, b256_2, (List.set r384 (Int.toNat v10) (⟨x5.f0, x5.f1, (x5.f2 ++ x0)⟩ : S54)), r94305))) none) none) none) none) none) none) (
    some (.inr (y56.2.1.1, y56.2.1.2, b128_0, b128_1, b128_2, b256_0, b256_1, b256_2, r384, r94305)))) none
noncomputable def l5 (x : Int × Int × Int × Int × Int × Int × Int × Int × Int × (List S54) × (List Int)) : Option ((Int × Int × Int × Int × Int × Int × Int × Int × (List S54) × (List Int))) := lim l5.b x
theorem l5.eq : ∀ x, l5.b x = roundX (mkE tab es 209 [] []) (loopAt 5 code) (cutOf l5.A l5.c) (cutsOf l5.xs l5.y) x := fun x => by kernel_rfl
theorem l5.owed {R : Type} : owed (mkE (R := R) tab es 209 [] []) (loopAt 5 code) = [] := by kernel_rfl
theorem l5.ok (w0 : World) (M : Own) (h : Pinned M [4194304, 4194305]) {R : Type} : SoundO prog w0 M 209 (.block 5 (.loop (loopAt 5 code))) (loopO (R := R) 5 (cutOf l5.A l5.c) (cutsOf l5.xs l5.y) l5) :=
  loop_ok tabOk uniOk mixed l5.eq (h.sub rfl) (h.sub rfl) fun x hx => by rw [l5.owed] at hx; exact absurd hx List.not_mem_nil

def l7.A : Ann := ⟨[(0, .box 4194304 0), (2, .box 5000128 0), (4, .box 5000256 0), (6, .slc 5000384 [])], [(4194304, 107, [.slc 4194305 [], .sc, .sc]), (5000128, 30, [.sc, .sc, .sc]), (5000256, 30, [.sc, .sc, .sc])], [(5000384, true, 2), (4194305, false, 4)], [4194304, 4194305]⟩
def l7.c : Cod uni (Int × Int × Int × Int × Int × Int × Int × Int × (List S54) × (List Int)) := (codC (iInt .i64) (codC (iInt .i64) (codC (iInt .i64) (codC (iInt .i64) (codC (iInt .i64) (codC (iInt .i64) (codC (iInt .i64) (codC (iInt .i64) (codC (iRow 2) (cod1 (iRow 4)))))))))))
def l7.xs : List (AExit × Ann) := [((.exit 7), ⟨[(0, .box 4194304 0), (2, .box 5000128 0), (4, .box 5000256 0), (6, .slc 5000384 [])], [(4194304, 107, [.slc 4194305 [], .sc, .sc]), (5000128, 30, [.sc, .sc, .sc]), (5000256, 30, [.sc, .sc, .sc])], [(5000384, true, 2), (4194305, false, 4)], [4194304, 4194305]⟩)]
def l7.y : Coy uni ((Int × Int × Int × Int × Int × Int × Int × Int × (List S54) × (List Int))) := (coy1 (codC (iInt .i64) (codC (iInt .i64) (codC (iInt .i64) (codC (iInt .i64) (codC (iInt .i64) (codC (iInt .i64) (codC (iInt .i64) (codC (iInt .i64) (codC (iRow 2) (cod1 (iRow 4))))))))))))
noncomputable def l7.b : Int × Int × Int × Int × Int × Int × Int × Int × (List S54) × (List Int) → Option ((Int × Int × Int × Int × Int × Int × Int × Int × (List S54) × (List Int)) ⊕ ((Int × Int × Int × Int × Int × Int × Int × Int × (List S54) × (List Int))))
  | (b94304_1, b94304_2, b128_0, b128_1, b128_2, b256_0, b256_1, b256_2, r384, r94305) =>
  (F56.F ((r94305, (b94304_1, b94304_2)), 3)).bind fun y56 =>
  let x1 := ((List.length r384) : Int)
  cond (decide (x1 < (Go.IntKind.wrap (Go.IntKind.i64 ) (19 + y56.1)))) (
   (F60.F x1).bind fun y60 =>
   cond (decide (((ByteArray.size (ByteArray.mk (Array.mk (110 :: [])))) + (ByteArray.size y60)) ≤ 274877906944)) (
    let x0 := ((⟨((ByteArray.mk (Array.mk (110 :: []))) ++ y60), 0, ((⟨0, 1, 0, 0⟩ : S69) :: [])⟩ : S54) :: [])
    cond (decide (((List.length r384) + (List.length x0)) ≤ 274877906944)) (
     some (.inl (y56.2.1.1, y56.2.1.2, b128_0, b128_1, b128_2, b256_0, b256_1, b256_2, (r384 ++ x0), r94305))) none) none) (
   some (.inr (y56.2.1.1, y56.2.1.2, b128_0, b128_1, b128_2, b256_0, b256_1, b256_2, r384, r94305)))
noncomputable def l7 (x : Int × Int × Int × Int × Int × Int × Int × Int × (List S54) × (List Int)) : Option ((Int × Int × Int × Int × Int × Int × Int × Int × (List S54) × (List Int))) := lim l7.b x
theorem l7.eq : ∀ x, l7.b x = roundX (mkE tab es 209 [] []) (loopAt 7 code) (cutOf l7.A l7.c) (cutsOf l7.xs l7.y) x := fun x => by kernel_rfl
theorem l7.owed {R : Type} : owed (mkE (R := R) tab es 209 [] []) (loopAt 7 code) = [] := by kernel_rfl
theorem l7.ok (w0 : World) (M : Own) (h : Pinned M [4194304, 4194305]) {R : Type} : SoundO prog w0 M 209 (.block 7 (.loop (loopAt 7 code))) (loopO (R := R) 7 (cutOf l7.A l7.c) (cutsOf l7.xs l7.y) l7) :=
  loop_ok tabOk uniOk mixed l7.eq (h.sub rfl) (h.sub rfl) fun x hx => by rw [l7.owed] at hx; exact absurd hx List.not_mem_nil

def t36.A : Ann := ⟨[(0, .box 4194304 0), (2, .box 5000128 0), (4, .box 5000256 0), (6, .slc 5000384 [])], [(4194304, 107, [.slc 4194305 [], .sc, .sc]), (5000128, 30, [.sc, .sc, .sc]), (5000256, 30, [.sc, .sc, .sc])], [(5000384, true, 2), (4194305, false, 4)], [4194304, 4194305]⟩
def t36.c : Cod uni (Int × Int × Int × Int × Int × Int × Int × Int × (List S54) × (List Int)) := (codC (iInt .i64) (codC (iInt .i64) (codC (iInt .i64) (codC (iInt .i64) (codC (iInt .i64) (codC (iInt .i64) (codC (iInt .i64) (codC (iInt .i64) (codC (iRow 2) (cod1 (iRow 4)))))))))))
def t36.xs : List (AExit × Ann) := [(.ret, ⟨[(0, .box 4194304 0), (2, .box 5000128 0), (3, .slc 5000192 [])], [(4194304, 107, [.slc 4194305 [], .sc, .sc]), (5000128, 30, [.sc, .sc, .sc])], [(5000192, true, 2), (4194305, false, 4)], [4194304, 4194305]⟩)]
def t36.y : Coy uni ((Int × Int × Int × Int × Int × (List S54) × (List Int))) := (coy1 (codC (iInt .i64) (codC (iInt .i64) (codC (iInt .i64) (codC (iInt .i64) (codC (iInt .i64) (codC (iRow 2) (cod1 (iRow 4)))))))))
noncomputable def t36 : Int × Int × Int × Int × Int × Int × Int × Int × (List S54) × (List Int) → Option ((Int × Int × Int × Int × Int × (List S54) × (List Int)))
  | (b94304_1, b94304_2, b128_0, b128_1, b128_2, b256_0, b256_1, b256_2, r384, r94305) =>
  some (b94304_1, b94304_2, b256_0, b256_1, b256_2, r384, r94305)
theorem t36.eq : ∀ x, t36 x = tailX (mkE tab es 209 [] []) (tailAt 36 code) (cutOf t36.A t36.c) (cutsOf t36.xs t36.y) x := fun x => by kernel_rfl
theorem t36.owed {R : Type} : owed (mkE (R := R) tab es 209 [] []) (tailAt 36 code) = [] := by kernel_rfl
theorem t36.ok (w0 : World) (M : Own) (h : Pinned M [4194304, 4194305]) {R : Type} : SoundO prog w0 M 209 (tailAt 36 code) (tailO (R := R) (cutOf t36.A t36.c) (cutsOf t36.xs t36.y) t36) :=
  tail_ok tabOk uniOk mixed t36.eq (h.sub rfl) (h.sub rfl) fun x hx => by rw [t36.owed] at hx; exact absurd hx List.not_mem_nil

noncomputable def F : ((List Int) × Int × Int) → Option ((((Int × Int × Int) × (List S54)) × (Int × Int)))
  | (p0_0, p0_1, p0_2) =>
  (F56.F ((p0_0, (p0_1, p0_2)), 4)).bind fun y56 =>
  (F56.F ((p0_0, (y56.2.1.1, y56.2.1.2)), 6)).bind fun y56x2 =>
  (F56.F ((p0_0, (y56x2.2.1.1, y56x2.2.1.2)), 12)).bind fun y56x3 =>
  (F57.F ((p0_0, (y56x3.2.1.1, y56x3.2.1.2)), 5)).bind fun y57 =>
  (F56.F ((p0_0, (y57.2.1.1, y57.2.1.2)), (Go.IntKind.wrap (Go.IntKind.i64 ) (y57.1 + 2)))).bind fun y56x4 =>
  (l0 (y56x4.1, y56x4.2.1.1, y56x4.2.1.2, 0, 0, 0, (Go.IntKind.wrap (Go.IntKind.i64 ) (1 + y56.1)), y56x2.1, (Go.IntKind.wrap (Go.IntKind.i64 ) (4 + y56x3.1)), ((ByteArray.mk (Array.mk (97 :: []))) :: ((ByteArray.mk (Array.mk (98 :: []))) :: ((ByteArray.mk (Array.mk (99 :: []))) :: ((ByteArray.mk (Array.mk (208 :: (180 :: (208 :: (190 :: (208 :: (188 :: [])))))))) :: ((ByteArray.mk (Array.mk (101 :: []))) :: ((ByteArray.mk (Array.mk (206 :: (187 :: [])))) :: [])))))), ([] : List S54), p0_0)).bind fun yl0 =>
  let x8 := ((List.length yl0.2.2.2.2.2.2.2.2.1) : Int)
  cond (decide (x8 > 0)) (
   (F56.F ((yl0.2.2.2.2.2.2.2.2.2, (yl0.1, yl0.2.1)), x8)).bind fun y56x5 =>
   (F56.F ((yl0.2.2.2.2.2.2.2.2.2, (y56x5.2.1.1, y56x5.2.1.2)), 40)).bind fun y56x6 =>
   let x2 := ((decide (0 ≤ y56x5.1)) && (decide (y56x5.1 < x8)))
   let x7 := (List.getD yl0.2.2.2.2.2.2.2.2.1 (Int.toNat y56x5.1) z54)
   cond (y56x6.1 == 0) (
    (F58.F ((yl0.2.2.2.2.2.2.2.2.2, (y56x6.2.1.1, y56x6.2.1.2)), ((ByteArray.mk (Array.mk ([] : List UInt8))) :: ((ByteArray.mk (Array.mk (97 :: []))) :: ((ByteArray.mk (Array.mk (49 :: []))) :: []))))).bind fun y58 =>
    cond x2 (
     (t36 (y58.2.1.1, y58.2.1.2, yl0.2.2.1, yl0.2.2.2.1, yl0.2.2.2.2.1, yl0.2.2.2.2.2.1, yl0.2.2.2.2.2.2.1, yl0.2.2.2.2.2.2.2.1, (List.set yl0.2.2.2.2.2.2.2.2.1 (Int.toNat y56x5.1) (⟨y58.1, x7.f1, x7.f2⟩ : S54)), yl0.2.2.2.2.2.2.2.2.2)).bind fun yt36 =>
     some (((yt36.2.2.1, (yt36.2.2.2.1, yt36.2.2.2.2.1)), yt36.2.2.2.2.2.1), (yt36.1, yt36.2.1))) none) (
    let x6 := (F59.F (yl0.2.2.2.2.2.2.2.2.2, (y56x6.2.1.1, y56x6.2.1.2)))
    cond (y56x6.1 == 1) (
     x6.bind fun y59 =>
     cond x2 (
      (t36 (y59.2.1, y59.2.2, yl0.2.2.1, yl0.2.2.2.1, yl0.2.2.2.2.1, yl0.2.2.2.2.2.1, yl0.2.2.2.2.2.2.1, yl0.2.2.2.2.2.2.2.1, (List.set yl0.2.2.2.2.2.2.2.2.1 (Int.toNat y56x5.1) (⟨x7.f0, y59.1, x7.f2⟩ : S54)), yl0.2.2.2.2.2.2.2.2.2)).bind fun yt36 =>
      some (((yt36.2.2.1, (yt36.2.2.2.1, yt36.2.2.2.2.1)), yt36.2.2.2.2.2.1), (yt36.1, yt36.2.1))) none) (
     let x4 := (List.length x7.f2)
     cond (y56x6.1 == 2) (
      cond x2 (
       x6.bind fun y59 =>
       let x9 := ((⟨y59.1, 1, 0, 0⟩ : S69) :: [])
       cond (decide ((x4 + (List.length x9)) ≤ 274877906944)) (
        cond x2 (
         cond (decide (y56x5.1 = y56x5.1)) (
          (t36 (y59.2.1, y59.2.2, yl0.2.2.1, yl0.2.2.2.1, yl0.2.2.2.2.1, yl0.2.2.2.2.2.1, yl0.2.2.2.2.2.2.1, yl0.2.2.2.2.2.2.2.1, (List.set yl0.2.2.2.2.2.2.2.2.1 (Int.toNat y56x5.1) (⟨x7.f0, x7.f1, (x7.f2 ++ x9)⟩ : S54)), yl0.2.2.2.2.2.2.2.2.2)).bind fun yt36 =>
          some (((yt36.2.2.1, (yt36.2.2.2.1, yt36.2.2.2.2.1)), yt36.2.2.2.2.2.1), (yt36.1, yt36.2.1))) none) none) none) none) (
      let x0 := ((decide (0 ≤ 0)) && (decide (0 < (x4 : Int))))
      let x3 := (List.getD x7.f2 (Int.toNat 0) z69)
      let x5 := (F56.F ((yl0.2.2.2.2.2.2.2.2.2, (y56x6.2.1.1, y56x6.2.1.2)), 3))
      cond (y56x6.1 == 3) (
       cond x2 (
        x5.bind fun y56x7 =>
        let x1 := (yl0.2.2.2.2.2.2.2.1 :: ((Go.IntKind.wrap (Go.IntKind.i64 ) (yl0.2.2.2.2.2.2.2.1 + 1)) :: ((-1) :: [])))
        cond ((decide (0 ≤ y56x7.1)) && (decide (y56x7.1 < ((List.length x1) : Int)))) (
         cond x0 (
          (t36 (y56x7.2.1.1, y56x7.2.1.2, yl0.2.2.1, yl0.2.2.2.1, yl0.2.2.2.2.1, yl0.2.2.2.2.2.1, yl0.2.2.2.2.2.2.1, yl0.2.2.2.2.2.2.2.1, (List.set yl0.2.2.2.2.2.2.2.2.1 (Int.toNat y56x5.1) (⟨x7.f0, x7.f1, (List.set x7.f2 (Int.toNat 0) (⟨x3.f0, x3.f1, x3.f2, (List.getD x1 (Int.toNat y56x7.1) 0)⟩ : S69))⟩ : S54)), yl0.2.2.2.2.2.2.2.2.2)).bind fun yt36 =>
          some (((yt36.2.2.1, (yt36.2.2.2.1, yt36.2.2.2.2.1)), yt36.2.2.2.2.2.1), (yt36.1, yt36.2.1))) none) none) none) (
       cond (y56x6.1 == 4) (
        cond x2 (
         x5.bind fun y56x7 =>
         cond ((decide (0 ≤ y56x7.1)) && (decide (y56x7.1 < ((List.length (0 :: (1000 :: (1001 :: [])))) : Int)))) (
          cond x0 (
           (t36 (y56x7.2.1.1, y56x7.2.1.2, yl0.2.2.1, yl0.2.2.2.1, yl0.2.2.2.2.1, yl0.2.2.2.2.2.1, yl0.2.2.2.2.2.2.1, yl0.2.2.2.2.2.2.2.1, (List.set yl0.2.2.2.2.2.2.2.2.1 (Int.toNat y56x5.1) (⟨x7.f0, x7.f1, (List.set x7.f2 (Int.toNat 0) (⟨x3.f0, (List.getD (0 :: (1000 :: (1001 :: []))) (Int.toNat y56x7.1) 0), x3.f2, x3.f3⟩ : S69))⟩ : S54)), yl0.2.2.2.2.2.2.2.2.2)).bind fun yt36 =>
           some (((yt36.2.2.1, (yt36.2.2.2.1, yt36.2.2.2.2.1)), yt36.2.2.2.2.2.1), (yt36.1, yt36.2.1))) none) none) none) (
        cond (y56x6.1 == 5) (
         x6.bind fun y59 =>
         (t36 (y59.2.1, y59.2.2, yl0.2.2.1, yl0.2.2.2.1, yl0.2.2.2.2.1, y59.1, yl0.2.2.2.2.2.2.1, yl0.2.2.2.2.2.2.2.1, yl0.2.2.2.2.2.2.2.2.1, yl0.2.2.2.2.2.2.2.2.2)).bind fun yt36 =>
         some (((yt36.2.2.1, (yt36.2.2.2.1, yt36.2.2.2.2.1)), yt36.2.2.2.2.2.1), (yt36.1, yt36.2.1))) (
         cond (y56x6.1 == 6) (
          x6.bind fun y59 =>
          (t36 (y59.2.1, y59.2.2, yl0.2.2.1, yl0.2.2.2.1, yl0.2.2.2.2.1, yl0.2.2.2.2.2.1, yl0.2.2.2.2.2.2.1, y59.1, yl0.2.2.2.2.2.2.2.2.1, yl0.2.2.2.2.2.2.2.2.2)).bind fun yt36 =>
          some (((yt36.2.2.1, (yt36.2.2.2.1, yt36.2.2.2.2.1)), yt36.2.2.2.2.2.1), (yt36.1, yt36.2.1))) (
          cond (y56x6.1 == 7) (
           (l5 (y56x5.1, y56x6.2.1.1, y56x6.2.1.2, yl0.2.2.1, yl0.2.2.2.1, yl0.2.2.2.2.1, yl0.2.2.2.2.2.1, yl0.2.2.2.2.2.2.1, yl0.2.2.2.2.2.2.2.1, yl0.2.2.2.2.2.2.2.2.1, yl0.2.2.2.2.2.2.2.2.2)).bind fun yl5 =>
           (t36 (yl5.1, yl5.2.1, yl5.2.2.1, yl5.2.2.2.1, yl5.2.2.2.2.1, yl5.2.2.2.2.2.1, yl5.2.2.2.2.2.2.1, yl5.2.2.2.2.2.2.2.1, yl5.2.2.2.2.2.2.2.2.1, yl5.2.2.2.2.2.2.2.2.2)).bind fun yt36 =>
           some (((yt36.2.2.1, (yt36.2.2.2.1, yt36.2.2.2.2.1)), yt36.2.2.2.2.2.1), (yt36.1, yt36.2.1))) (
           cond (y56x6.1 == 8) (
            (l7 (y56x6.2.1.1, y56x6.2.1.2, yl0.2.2.1, yl0.2.2.2.1, yl0.2.2.2.2.1, yl0.2.2.2.2.2.1, yl0.2.2.2.2.2.2.1, yl0.2.2.2.2.2.2.2.1, yl0.2.2.2.2.2.2.2.2.1, yl0.2.2.2.2.2.2.2.2.2)).bind fun yl7 =>
            (t36 (yl7.1, yl7.2.1, yl7.2.2.1, yl7.2.2.2.1, yl7.2.2.2.2.1, yl7.2.2.2.2.2.1, yl7.2.2.2.2.2.2.1, yl7.2.2.2.2.2.2.2.1, yl7.2.2.2.2.2.2.2.2.1, yl7.2.2.2.2.2.2.2.2.2)).bind fun yt36 =>
            some (((yt36.2.2.1, (yt36.2.2.2.1, yt36.2.2.2.2.1)), yt36.2.2.2.2.2.1), (yt36.1, yt36.2.1))) (
            (t36 (y56x6.2.1.1, y56x6.2.1.2, yl0.2.2.1, yl0.2.2.2.1, yl0.2.2.2.2.1, yl0.2.2.2.2.2.1, yl0.2.2.2.2.2.2.1, yl0.2.2.2.2.2.2.2.1, yl0.2.2.2.2.2.2.2.2.1, yl0.2.2.2.2.2.2.2.2.2)).bind fun yt36 =>
            some (((yt36.2.2.1, (yt36.2.2.2.1, yt36.2.2.2.2.1)), yt36.2.2.2.2.2.1), (yt36.1, yt36.2.1)))))))))))) (
   (t36 (yl0.1, yl0.2.1, yl0.2.2.1, yl0.2.2.2.1, yl0.2.2.2.2.1, yl0.2.2.2.2.2.1, yl0.2.2.2.2.2.2.1, yl0.2.2.2.2.2.2.2.1, yl0.2.2.2.2.2.2.2.2.1, yl0.2.2.2.2.2.2.2.2.2)).bind fun yt36 =>
   some (((yt36.2.2.1, (yt36.2.2.2.1, yt36.2.2.2.2.1)), yt36.2.2.2.2.2.1), (yt36.1, yt36.2.1)))
theorem F.eq : ∀ x, F x = runF (mkE tab es 209 [(0, some (loopO 0 (cutOf l0.A l0.c) (cutsOf l0.xs l0.y) l0)), (5, some (loopO 5 (cutOf l5.A l5.c) (cutsOf l5.xs l5.y) l5)), (7, some (loopO 7 (cutOf l7.A l7.c) (cutsOf l7.xs l7.y) l7))] [(36, some (tailO (cutOf t36.A t36.c) (cutsOf t36.xs t36.y) t36))]) code [.box 107 [.ro 4, .sc, .sc]] [.agg [.sc, .sc, .sc], .row 2] [.cell 2 30, .tmp 3] (Coz.dec cr) (cp.enc x) := fun x => by kernel_rfl
theorem F.owed : owed (mkE (R := (((Int × Int × Int) × (List S54)) × (Int × Int))) tab es 209 [(0, some (loopO 0 (cutOf l0.A l0.c) (cutsOf l0.xs l0.y) l0)), (5, some (loopO 5 (cutOf l5.A l5.c) (cutsOf l5.xs l5.y) l5)), (7, some (loopO 7 (cutOf l7.A l7.c) (cutsOf l7.xs l7.y) l7))] [(36, some (tailO (cutOf t36.A t36.c) (cutsOf t36.xs t36.y) t36))]) code = [((.block 0 (.loop (loopAt 0 code))), (loopO (R := _) 0 (cutOf l0.A l0.c) (cutsOf l0.xs l0.y) l0)), ((.block 5 (.loop (loopAt 5 code))), (loopO (R := _) 5 (cutOf l5.A l5.c) (cutsOf l5.xs l5.y) l5)), ((.block 7 (.loop (loopAt 7 code))), (loopO (R := _) 7 (cutOf l7.A l7.c) (cutsOf l7.xs l7.y) l7)), ((tailAt 36 code), (tailO (R := _) (cutOf t36.A t36.c) (cutsOf t36.xs t36.y) t36))] := by kernel_rfl
theorem con : ∀ x y, F x = some y → Con prog 46 [.box 107 [.ro 4, .sc, .sc]] [.agg [.sc, .sc, .sc], .row 2] (cp.enc x) (cr.enc y).1 (cr.enc y).2 :=
  func_ok (c := code) (n := 209) (pf := [.box 107 [.ro 4, .sc, .sc]]) (res := [.cell 2 30, .tmp 3]) tabOk uniOk mixed get (by kernel_rfl) (by kernel_rfl) (by kernel_rfl) (by decide) F.eq fun w0 M h x hx => by rw [F.owed] at hx; rcases List.mem_cons.1 hx with rfl | hx; exact l0.ok w0 M h; rcases List.mem_cons.1 hx with rfl | hx; exact l5.ok w0 M h; rcases List.mem_cons.1 hx with rfl | hx; exact l7.ok w0 M h; rcases List.mem_cons.1 hx with rfl | hx; exact t36.ok w0 M h; exact absurd hx List.not_mem_nil
noncomputable def ent : Ent prog uni := Ent.of 46 [.box 107 [.ro 4, .sc, .sc]] [.agg [.sc, .sc, .sc], .row 2] cp cr F con fun args w => enters_of get (by kernel_rfl) rfl args w
end Go.Proofs.YtchohkelpjfpcaaDoor.AX.F46

/- The function 51 of the program in the small machine. No conditions. -/
namespace Go.Proofs.YtchohkelpjfpcaaDoor.AX.F51
open Go Go.Proofs.Tryd
noncomputable def code : Code := bodyOf f51
abbrev Y : Type := Bool
def cp : Cod uni ((List Int) × Int × Int) := (codC (iRow 5) (codC (iInt .i64) (cod1 (iInt .i64))))
def cr : Coz uni Bool := (cozR (cod1 iBool) (codD (codD (codD cod0))))
noncomputable def es : List (Ent prog uni) := []
theorem get : prog.funcs[51]? = some f51 := by kernel_rfl

def l0.A : Ann := ⟨[(0, .slc 5000000 []), (1, .sc), (2, .sc), (7, .sc)], [], [(5000000, false, 5)], []⟩
def l0.c : Cod uni (Int × Int × Int × (List Int)) := (codC (iInt .i64) (codC (iInt .i64) (codC (iInt .i64) (cod1 (iRow 5)))))
def l0.xs : List (AExit × Ann) := [(.ret, ⟨[(6, .sc)], [], [], []⟩), ((.exit 0), ⟨[], [], [], []⟩)]
def l0.y : Coy uni (Bool ⊕ Unit) := (coyS (cod1 iBool) (coy1 cod0))
noncomputable def l0.b : Int × Int × Int × (List Int) → Option ((Int × Int × Int × (List Int)) ⊕ (Bool ⊕ Unit))
  | (v1, v2, v7, r0) =>
  let x2 := (decide (v7 < ((List.length r0) : Int)))
  cond x2 (
   let x0 := ((decide (0 ≤ v7)) && x2)
   cond x0 (
    let x3 := (List.getD r0 (Int.toNat v7) 0)
    let x1 := (decide (x3 < v1))
    cond ((!(!x1)) || x0) (
     cond (x1 || (decide (x3 > v2))) (
      some (.inr (.inl false))) (
      some (.inl (v1, v2, (Go.IntKind.wrap (Go.IntKind.i64 ) (v7 + 1)), r0)))) none) none) (
   some (.inr (.inr ())))
noncomputable def l0 (x : Int × Int × Int × (List Int)) : Option (Bool ⊕ Unit) := lim l0.b x
theorem l0.eq : ∀ x, l0.b x = roundX (mkE tab es 28 [] []) (loopAt 0 code) (cutOf l0.A l0.c) (cutsOf l0.xs l0.y) x := fun x => by kernel_rfl
theorem l0.owed {R : Type} : owed (mkE (R := R) tab es 28 [] []) (loopAt 0 code) = [] := by kernel_rfl
theorem l0.ok (w0 : World) (M : Own) (h : Pinned M []) {R : Type} : SoundO prog w0 M 28 (.block 0 (.loop (loopAt 0 code))) (loopO (R := R) 0 (cutOf l0.A l0.c) (cutsOf l0.xs l0.y) l0) :=
  loop_ok tabOk uniOk mixed l0.eq (h.sub rfl) (h.sub rfl) fun x hx => by rw [l0.owed] at hx; exact absurd hx List.not_mem_nil

noncomputable def F : ((List Int) × Int × Int) → Option (Bool)
  | (p0, p1, p2) =>
  (l0 (p1, p2, 0, p0)).bind fun q => match q with
  | (.inl yl0) =>
   some yl0
  | (.inr yl0) =>
   some true
theorem F.eq : ∀ x, F x = runF (mkE tab es 28 [(0, some (loopO 0 (cutOf l0.A l0.c) (cutsOf l0.xs l0.y) l0))] []) code [.row 5 0, .sc, .sc] [.sc] [.tmp 6] (Coz.dec cr) (cp.enc x) := fun x => by kernel_rfl
theorem F.owed : owed (mkE (R := Bool) tab es 28 [(0, some (loopO 0 (cutOf l0.A l0.c) (cutsOf l0.xs l0.y) l0))] []) code = [((.block 0 (.loop (loopAt 0 code))), (loopO (R := _) 0 (cutOf l0.A l0.c) (cutsOf l0.xs l0.y) l0))] := by kernel_rfl
theorem con : ∀ x y, F x = some y → Con prog 51 [.row 5 0, .sc, .sc] [.sc] (cp.enc x) (cr.enc y).1 (cr.enc y).2 :=
  func_ok (c := code) (n := 28) (pf := [.row 5 0, .sc, .sc]) (res := [.tmp 6]) tabOk uniOk mixed get (by kernel_rfl) (by kernel_rfl) (by kernel_rfl) (by decide) F.eq fun w0 M h x hx => by rw [F.owed] at hx; rcases List.mem_cons.1 hx with rfl | hx; exact l0.ok w0 M h; exact absurd hx List.not_mem_nil
noncomputable def ent : Ent prog uni := Ent.of 51 [.row 5 0, .sc, .sc] [.sc] cp cr F con fun args w => enters_of get (by kernel_rfl) rfl args w
end Go.Proofs.YtchohkelpjfpcaaDoor.AX.F51

/- The function 66 of the program in the small machine. No conditions. -/
namespace Go.Proofs.YtchohkelpjfpcaaDoor.AX.F66
open Go Go.Proofs.Tryd
noncomputable def code : Code := bodyOf f66
abbrev Y : Type := Int
def cp : Cod uni (ByteArray × Int) := (codC iStr (cod1 (iInt .i64)))
def cr : Coz uni Int := (cozR (cod1 (iInt .i64)) (codD (codD cod0)))
noncomputable def es : List (Ent prog uni) := []
theorem get : prog.funcs[66]? = some f66 := by kernel_rfl

noncomputable def F : (ByteArray × Int) → Option (Int)
  | (p0, p1) =>
  let x6 := ((ByteArray.size p0) : Int)
  cond ((decide (0 ≤ p1)) && (decide (p1 < x6))) (
   cond ((((decide ((btAt p0 p1) ≥ 97)) && (decide ((btAt p0 p1) ≤ 122))) || ((decide ((btAt p0 p1) ≥ 65)) && (decide ((btAt p0 p1) ≤ 90)))) || ((btAt p0 p1) == 95)) (
    some 1) (
    let x5 := (Go.IntKind.wrap (Go.IntKind.i64 ) (p1 + 1))
    let x2 := (((decide ((btAt p0 p1) < 194)) || (decide ((btAt p0 p1) > 223))) || (decide (x5 ≥ x6)))
    let x3 := ((decide (0 ≤ x5)) && (decide (x5 < x6)))
    cond ((!(!x2)) || x3) (
     let x4 := (btAt p0 x5)
     let x1 := (x2 || (decide (x4 < 128)))
     cond ((!(!x1)) || x3) (
      cond (x1 || (decide (x4 > 191))) (
       some 0) (
       cond x3 (
        let x0 := (Go.IntKind.wrap (Go.IntKind.i64 ) ((Go.IntKind.wrap (Go.IntKind.i64 ) ((Go.IntKind.wrap (Go.IntKind.i64 ) ((Go.IntKind.wrap (Go.IntKind.i64 ) ((Go.IntKind.wrap (Go.IntKind.i64 ) (btAt p0 p1)) - 192)) * 64)) + (Go.IntKind.wrap (Go.IntKind.i64 ) x4))) - 128))
        cond ((((((decide (x0 ≥ 192)) && (decide (x0 ≤ 591))) && (x0 != 215)) && (x0 != 247)) || ((decide (x0 ≥ 913)) && (decide (x0 ≤ 969)))) || ((decide (x0 ≥ 1040)) && (decide (x0 ≤ 1103)))) (
         some 2) (
         some 0)) none)) none) none)) none
theorem F.eq : ∀ x, F x = runF (mkE tab es 96 [] []) code [.sc, .sc] [.sc] [.tmp 4] (Coz.dec cr) (cp.enc x) := fun x => by kernel_rfl
theorem F.owed : owed (mkE (R := Int) tab es 96 [] []) code = [] := by kernel_rfl
theorem con : ∀ x y, F x = some y → Con prog 66 [.sc, .sc] [.sc] (cp.enc x) (cr.enc y).1 (cr.enc y).2 :=
  func_ok (c := code) (n := 96) (pf := [.sc, .sc]) (res := [.tmp 4]) tabOk uniOk mixed get (by kernel_rfl) (by kernel_rfl) (by kernel_rfl) (by decide) F.eq fun w0 M h x hx => by rw [F.owed] at hx; exact absurd hx List.not_mem_nil
noncomputable def ent : Ent prog uni := Ent.of 66 [.sc, .sc] [.sc] cp cr F con fun args w => enters_of get (by kernel_rfl) rfl args w
end Go.Proofs.YtchohkelpjfpcaaDoor.AX.F66

/- The function 61 of the program in the small machine. No conditions. -/
namespace Go.Proofs.YtchohkelpjfpcaaDoor.AX.F61
open Go Go.Proofs.Tryd
noncomputable def code : Code := bodyOf f61
abbrev Y : Type := Int
def cp : Cod uni (ByteArray × Int) := (codC iStr (cod1 (iInt .i64)))
def cr : Coz uni Int := (cozR (cod1 (iInt .i64)) (codD (codD cod0)))
noncomputable def es : List (Ent prog uni) := [F66.ent]
theorem get : prog.funcs[61]? = some f61 := by kernel_rfl

def t6.A : Ann := ⟨[(0, .sc), (1, .sc), (5, .sc), (6, .sc)], [], [], []⟩
def t6.c : Cod uni (ByteArray × Int × Int × Int) := (codC iStr (codC (iInt .i64) (codC (iInt .i64) (cod1 (iInt .i64)))))
def t6.xs : List (AExit × Ann) := [((.exit 0), ⟨[(1, .sc), (5, .sc)], [], [], []⟩), (.normal, ⟨[(0, .sc), (1, .sc), (5, .sc)], [], [], []⟩)]
def t6.y : Coy uni ((Int × Int) ⊕ (ByteArray × Int × Int)) := (coyS (codC (iInt .i64) (cod1 (iInt .i64))) (coy1 (codC iStr (codC (iInt .i64) (cod1 (iInt .i64))))))
noncomputable def t6 : ByteArray × Int × Int × Int → Option ((Int × Int) ⊕ (ByteArray × Int × Int))
  | (v0, v1, v5, v6) =>
  cond (v6 == 0) (
   some (.inl (v1, v5))) (
   some (.inr (v0, v1, (Go.IntKind.wrap (Go.IntKind.i64 ) (v5 + v6)))))
theorem t6.eq : ∀ x, t6 x = tailX (mkE tab es 42 [] []) (tailAt 6 code) (cutOf t6.A t6.c) (cutsOf t6.xs t6.y) x := fun x => by kernel_rfl
theorem t6.owed {R : Type} : owed (mkE (R := R) tab es 42 [] []) (tailAt 6 code) = [] := by kernel_rfl
theorem t6.ok (w0 : World) (M : Own) (h : Pinned M []) {R : Type} : SoundO prog w0 M 42 (tailAt 6 code) (tailO (R := R) (cutOf t6.A t6.c) (cutsOf t6.xs t6.y) t6) :=
  tail_ok tabOk uniOk mixed t6.eq (h.sub rfl) (h.sub rfl) fun x hx => by rw [t6.owed] at hx; exact absurd hx List.not_mem_nil

def l0.A : Ann := ⟨[(0, .sc), (1, .sc), (5, .sc)], [], [], []⟩
def l0.c : Cod uni (ByteArray × Int × Int) := (codC iStr (codC (iInt .i64) (cod1 (iInt .i64))))
def l0.xs : List (AExit × Ann) := [((.exit 0), ⟨[(1, .sc), (5, .sc)], [], [], []⟩)]
def l0.y : Coy uni ((Int × Int)) := (coy1 (codC (iInt .i64) (cod1 (iInt .i64))))
noncomputable def l0.b : ByteArray × Int × Int → Option ((ByteArray × Int × Int) ⊕ ((Int × Int)))
  | (v0, v1, v5) =>
  let x2 := (decide (v5 < ((ByteArray.size v0) : Int)))
  cond x2 (
   (F66.F (v0, v5)).bind fun y66 =>
   let x1 := ((decide (0 ≤ v5)) && x2)
   let x3 := ((y66 == 0) && (decide (v5 > v1)))
   cond ((!x3) || x1) (
    let x0 := (x3 && (decide ((btAt v0 v5) ≥ 48)))
    cond ((!x0) || x1) (
     cond (x0 && (decide ((btAt v0 v5) ≤ 57))) (
      (t6 (v0, v1, v5, 1)).bind fun q => match q with
      | (.inl yt6) =>
       some (.inr (yt6.1, yt6.2))
      | (.inr yt6) =>
       some (.inl (yt6.1, yt6.2.1, yt6.2.2))) (
      (t6 (v0, v1, v5, y66)).bind fun q => match q with
      | (.inl yt6) =>
       some (.inr (yt6.1, yt6.2))
      | (.inr yt6) =>
       some (.inl (yt6.1, yt6.2.1, yt6.2.2)))) none) none) (
   some (.inr (v1, v5)))
noncomputable def l0 (x : ByteArray × Int × Int) : Option ((Int × Int)) := lim l0.b x
theorem l0.eq : ∀ x, l0.b x = roundX (mkE tab es 42 [] [(6, some (tailO (cutOf t6.A t6.c) (cutsOf t6.xs t6.y) t6))]) (loopAt 0 code) (cutOf l0.A l0.c) (cutsOf l0.xs l0.y) x := fun x => by kernel_rfl
theorem l0.owed {R : Type} : owed (mkE (R := R) tab es 42 [] [(6, some (tailO (cutOf t6.A t6.c) (cutsOf t6.xs t6.y) t6))]) (loopAt 0 code) = [((tailAt 6 code), (tailO (R := _) (cutOf t6.A t6.c) (cutsOf t6.xs t6.y) t6))] := by kernel_rfl
theorem l0.ok (w0 : World) (M : Own) (h : Pinned M []) {R : Type} : SoundO prog w0 M 42 (.block 0 (.loop (loopAt 0 code))) (loopO (R := R) 0 (cutOf l0.A l0.c) (cutsOf l0.xs l0.y) l0) :=
  loop_ok tabOk uniOk mixed l0.eq (h.sub rfl) (h.sub rfl) fun x hx => by rw [l0.owed] at hx; rcases List.mem_cons.1 hx with rfl | hx; exact t6.ok w0 M h; exact absurd hx List.not_mem_nil

noncomputable def F : (ByteArray × Int) → Option (Int)
  | (p0, p1) =>
  (l0 (p0, p1, p1)).bind fun yl0 =>
  some (Go.IntKind.wrap (Go.IntKind.i64 ) (yl0.2 - yl0.1))
theorem F.eq : ∀ x, F x = runF (mkE tab es 42 [(0, some (loopO 0 (cutOf l0.A l0.c) (cutsOf l0.xs l0.y) l0))] []) code [.sc, .sc] [.sc] [.tmp 4] (Coz.dec cr) (cp.enc x) := fun x => by kernel_rfl
theorem F.owed : owed (mkE (R := Int) tab es 42 [(0, some (loopO 0 (cutOf l0.A l0.c) (cutsOf l0.xs l0.y) l0))] []) code = [((.block 0 (.loop (loopAt 0 code))), (loopO (R := _) 0 (cutOf l0.A l0.c) (cutsOf l0.xs l0.y) l0))] := by kernel_rfl
theorem con : ∀ x y, F x = some y → Con prog 61 [.sc, .sc] [.sc] (cp.enc x) (cr.enc y).1 (cr.enc y).2 :=
  func_ok (c := code) (n := 42) (pf := [.sc, .sc]) (res := [.tmp 4]) tabOk uniOk mixed get (by kernel_rfl) (by kernel_rfl) (by kernel_rfl) (by decide) F.eq fun w0 M h x hx => by rw [F.owed] at hx; rcases List.mem_cons.1 hx with rfl | hx; exact l0.ok w0 M h; exact absurd hx List.not_mem_nil
noncomputable def ent : Ent prog uni := Ent.of 61 [.sc, .sc] [.sc] cp cr F con fun args w => enters_of get (by kernel_rfl) rfl args w
end Go.Proofs.YtchohkelpjfpcaaDoor.AX.F61

/- The function 52 of the program in the small machine. No conditions. -/
namespace Go.Proofs.YtchohkelpjfpcaaDoor.AX.F52
open Go Go.Proofs.Tryd
noncomputable def code : Code := bodyOf f52
abbrev Y : Type := Bool
def cp : Cod uni ByteArray := (cod1 iStr)
def cr : Coz uni Bool := (cozR (cod1 iBool) (codD cod0))
noncomputable def es : List (Ent prog uni) := [F61.ent]
theorem get : prog.funcs[52]? = some f52 := by kernel_rfl

noncomputable def F : ByteArray → Option (Bool)
  | p0 =>
  let x1 := ((ByteArray.size p0) : Int)
  let x0 := ((decide (x1 > 0)) && (decide (x1 ≤ 40)))
  cond x0 (
   (F61.F (p0, 0)).bind fun y61 =>
   some (x0 && (y61 == x1))) (
   some (x0 && (0 == x1)))
theorem F.eq : ∀ x, F x = runF (mkE tab es 18 [] []) code [.sc] [.sc] [.tmp 2] (Coz.dec cr) (cp.enc x) := fun x => by kernel_rfl
theorem F.owed : owed (mkE (R := Bool) tab es 18 [] []) code = [] := by kernel_rfl
theorem con : ∀ x y, F x = some y → Con prog 52 [.sc] [.sc] (cp.enc x) (cr.enc y).1 (cr.enc y).2 :=
  func_ok (c := code) (n := 18) (pf := [.sc]) (res := [.tmp 2]) tabOk uniOk mixed get (by kernel_rfl) (by kernel_rfl) (by kernel_rfl) (by decide) F.eq fun w0 M h x hx => by rw [F.owed] at hx; exact absurd hx List.not_mem_nil
noncomputable def ent : Ent prog uni := Ent.of 52 [.sc] [.sc] cp cr F con fun args w => enters_of get (by kernel_rfl) rfl args w
end Go.Proofs.YtchohkelpjfpcaaDoor.AX.F52

/- The function 32 of the program in the small machine. No conditions. -/
namespace Go.Proofs.YtchohkelpjfpcaaDoor.AX.F32
open Go Go.Proofs.Tryd
noncomputable def code : Code := bodyOf f32
abbrev Y : Type := Bool
def cp : Cod uni ((Int × Int × Int) × (List S54)) := (codC (iAgg (codC (iInt .i64) (codC (iInt .i64) (cod1 (iInt .i64))))) (cod1 (iRow 2)))
def cr : Coz uni Bool := (cozR (cod1 iBool) (codD (codD cod0)))
noncomputable def es : List (Ent prog uni) := [F51.ent, F52.ent]
theorem get : prog.funcs[32]? = some f32 := by kernel_rfl

def l2.A : Ann := ⟨[(1, .slc 5000064 []), (2, .box 5000128 0), (5, .sc), (6, .box 5000384 0), (7, .sc)], [(5000128, 30, [.sc, .sc, .sc]), (5000384, 55, [.sc, .sc, .slc 5000064 [2]])], [(5000064, false, 2)], []⟩
def l2.c : Cod uni (Int × Int × Int × Int × Int × ByteArray × Int × Int × (List S54)) := (codC (iInt .i64) (codC (iInt .i64) (codC (iInt .i64) (codC (iInt .i64) (codC (iInt .i64) (codC iStr (codC (iInt .i64) (codC (iInt .i64) (cod1 (iRow 2))))))))))
def l2.xs : List (AExit × Ann) := [(.ret, ⟨[(4, .sc)], [], [], []⟩), ((.exit 2), ⟨[(1, .slc 5000064 []), (2, .box 5000128 0), (5, .sc), (6, .box 5000384 0)], [(5000128, 30, [.sc, .sc, .sc]), (5000384, 55, [.sc, .sc, .slc 5000064 [2]])], [(5000064, false, 2)], []⟩)]
def l2.y : Coy uni (Bool ⊕ (Int × Int × Int × Int × ByteArray × Int × Int × (List S54))) := (coyS (cod1 iBool) (coy1 (codC (iInt .i64) (codC (iInt .i64) (codC (iInt .i64) (codC (iInt .i64) (codC iStr (codC (iInt .i64) (codC (iInt .i64) (cod1 (iRow 2)))))))))))
noncomputable def l2.b : Int × Int × Int × Int × Int × ByteArray × Int × Int × (List S54) → Option ((Int × Int × Int × Int × Int × ByteArray × Int × Int × (List S54)) ⊕ (Bool ⊕ (Int × Int × Int × Int × ByteArray × Int × Int × (List S54))))
  | (v5, v7, b128_0, b128_1, b128_2, b384_0, b384_1, b384_2i0, r64) =>
  cond (decide (v7 < v5)) (
   cond ((decide (0 ≤ v7)) && (decide (v7 < ((List.length r64) : Int)))) (
    cond ((ByteArray.toList (List.getD r64 (Int.toNat v7) z54).f0) == (ByteArray.toList b384_0)) (
     some (.inr (.inl false))) (
     some (.inl (v5, (Go.IntKind.wrap (Go.IntKind.i64 ) (v7 + 1)), b128_0, b128_1, b128_2, b384_0, b384_1, b384_2i0, r64)))) none) (
   some (.inr (.inr (v5, b128_0, b128_1, b128_2, b384_0, b384_1, b384_2i0, r64))))
noncomputable def l2 (x : Int × Int × Int × Int × Int × ByteArray × Int × Int × (List S54)) : Option (Bool ⊕ (Int × Int × Int × Int × ByteArray × Int × Int × (List S54))) := lim l2.b x
theorem l2.eq : ∀ x, l2.b x = roundX (mkE tab es 140 [] []) (loopAt 2 code) (cutOf l2.A l2.c) (cutsOf l2.xs l2.y) x := fun x => by kernel_rfl
theorem l2.owed {R : Type} : owed (mkE (R := R) tab es 140 [] []) (loopAt 2 code) = [] := by kernel_rfl
theorem l2.ok (w0 : World) (M : Own) (h : Pinned M []) {R : Type} : SoundO prog w0 M 140 (.block 2 (.loop (loopAt 2 code))) (loopO (R := R) 2 (cutOf l2.A l2.c) (cutsOf l2.xs l2.y) l2) :=
  loop_ok tabOk uniOk mixed l2.eq (h.sub rfl) (h.sub rfl) fun x hx => by rw [l2.owed] at hx; exact absurd hx List.not_mem_nil

def l4.A : Ann := ⟨[(1, .slc 5000064 []), (2, .box 5000128 0), (5, .sc), (6, .box 5000384 0), (8, .sc)], [(5000128, 30, [.sc, .sc, .sc]), (5000384, 55, [.sc, .sc, .slc 5000064 [2]])], [(5000064, false, 2)], []⟩
def l4.c : Cod uni (Int × Int × Int × Int × Int × ByteArray × Int × Int × (List S54)) := (codC (iInt .i64) (codC (iInt .i64) (codC (iInt .i64) (codC (iInt .i64) (codC (iInt .i64) (codC iStr (codC (iInt .i64) (codC (iInt .i64) (cod1 (iRow 2))))))))))
def l4.xs : List (AExit × Ann) := [(.ret, ⟨[(4, .sc)], [], [], []⟩), ((.exit 4), ⟨[(1, .slc 5000064 []), (2, .box 5000128 0), (5, .sc)], [(5000128, 30, [.sc, .sc, .sc])], [(5000064, false, 2)], []⟩)]
def l4.y : Coy uni (Bool ⊕ (Int × Int × Int × Int × (List S54))) := (coyS (cod1 iBool) (coy1 (codC (iInt .i64) (codC (iInt .i64) (codC (iInt .i64) (codC (iInt .i64) (cod1 (iRow 2))))))))
noncomputable def l4.b : Int × Int × Int × Int × Int × ByteArray × Int × Int × (List S54) → Option ((Int × Int × Int × Int × Int × ByteArray × Int × Int × (List S54)) ⊕ (Bool ⊕ (Int × Int × Int × Int × (List S54))))
  | (v5, v8, b128_0, b128_1, b128_2, b384_0, b384_1, b384_2i0, r64) =>
  let x2 := (List.getD r64 (Int.toNat b384_2i0) z54)
  let x0 := (decide (v8 < ((List.length x2.f2) : Int)))
  cond x0 (
   cond ((decide (0 ≤ v8)) && x0) (
    let x1 := (List.getD x2.f2 (Int.toNat v8) z69)
    cond ((((((((decide (x1.f0 < 0)) || (decide (x1.f0 ≥ b128_0))) || (decide (x1.f1 < 1))) || (decide (x1.f1 > 1000))) || (decide (x1.f2 < 0))) || (decide (x1.f2 > 9))) || (decide (x1.f3 < 0))) || (decide (x1.f3 > b128_2))) (
     some (.inr (.inl false))) (
     some (.inl (v5, (Go.IntKind.wrap (Go.IntKind.i64 ) (v8 + 1)), b128_0, b128_1, b128_2, b384_0, b384_1, b384_2i0, r64)))) none) (
   some (.inr (.inr (v5, b128_0, b128_1, b128_2, r64))))
noncomputable def l4 (x : Int × Int × Int × Int × Int × ByteArray × Int × Int × (List S54)) : Option (Bool ⊕ (Int × Int × Int × Int × (List S54))) := lim l4.b x
theorem l4.eq : ∀ x, l4.b x = roundX (mkE tab es 140 [] []) (loopAt 4 code) (cutOf l4.A l4.c) (cutsOf l4.xs l4.y) x := fun x => by kernel_rfl
theorem l4.owed {R : Type} : owed (mkE (R := R) tab es 140 [] []) (loopAt 4 code) = [] := by kernel_rfl
theorem l4.ok (w0 : World) (M : Own) (h : Pinned M []) {R : Type} : SoundO prog w0 M 140 (.block 4 (.loop (loopAt 4 code))) (loopO (R := R) 4 (cutOf l4.A l4.c) (cutsOf l4.xs l4.y) l4) :=
  loop_ok tabOk uniOk mixed l4.eq (h.sub rfl) (h.sub rfl) fun x hx => by rw [l4.owed] at hx; exact absurd hx List.not_mem_nil

def l0.A : Ann := ⟨[(1, .slc 5000064 []), (2, .box 5000128 0), (5, .sc)], [(5000128, 30, [.sc, .sc, .sc])], [(5000064, false, 2)], []⟩
def l0.c : Cod uni (Int × Int × Int × Int × (List S54)) := (codC (iInt .i64) (codC (iInt .i64) (codC (iInt .i64) (codC (iInt .i64) (cod1 (iRow 2))))))
def l0.xs : List (AExit × Ann) := [(.ret, ⟨[(4, .sc)], [], [], []⟩), ((.exit 0), ⟨[], [], [], []⟩)]
def l0.y : Coy uni (Bool ⊕ Unit) := (coyS (cod1 iBool) (coy1 cod0))
noncomputable def l0.b : Int × Int × Int × Int × (List S54) → Option ((Int × Int × Int × Int × (List S54)) ⊕ (Bool ⊕ Unit))
  | (v5, b128_0, b128_1, b128_2, r64) =>
  let x1 := (decide (v5 < ((List.length r64) : Int)))
  cond x1 (
   cond ((decide (0 ≤ v5)) && x1) (
    let x2 := (List.getD r64 (Int.toNat v5) z54)
    (F52.F x2.f0).bind fun y52 =>
    let x0 := ((List.length x2.f2) : Int)
    cond (((((!y52) || (decide (x2.f1 < 0))) || (decide (x2.f1 > 1000000))) || (decide (x0 < 1))) || (decide (x0 > 8))) (
     some (.inr (.inl false))) (
     (l2 (v5, 0, b128_0, b128_1, b128_2, x2.f0, x2.f1, v5, r64)).bind fun q => match q with
     | (.inl yl2) =>
      some (.inr (.inl yl2))
     | (.inr yl2) =>
      (l4 (yl2.1, 0, yl2.2.1, yl2.2.2.1, yl2.2.2.2.1, yl2.2.2.2.2.1, yl2.2.2.2.2.2.1, yl2.2.2.2.2.2.2.1, yl2.2.2.2.2.2.2.2)).bind fun q => match q with
      | (.inl yl4) =>
       some (.inr (.inl yl4))
      | (.inr yl4) =>
       some (.inl ((Go.IntKind.wrap (Go.IntKind.i64 ) (yl4.1 + 1)), yl4.2.1, yl4.2.2.1, yl4.2.2.2.1, yl4.2.2.2.2)))) none) (
   some (.inr (.inr ())))
noncomputable def l0 (x : Int × Int × Int × Int × (List S54)) : Option (Bool ⊕ Unit) := lim l0.b x
theorem l0.eq : ∀ x, l0.b x = roundX (mkE tab es 140 [(2, some (loopO 2 (cutOf l2.A l2.c) (cutsOf l2.xs l2.y) l2)), (4, some (loopO 4 (cutOf l4.A l4.c) (cutsOf l4.xs l4.y) l4))] []) (loopAt 0 code) (cutOf l0.A l0.c) (cutsOf l0.xs l0.y) x := fun x => by kernel_rfl
theorem l0.owed {R : Type} : owed (mkE (R := R) tab es 140 [(2, some (loopO 2 (cutOf l2.A l2.c) (cutsOf l2.xs l2.y) l2)), (4, some (loopO 4 (cutOf l4.A l4.c) (cutsOf l4.xs l4.y) l4))] []) (loopAt 0 code) = [((.block 2 (.loop (loopAt 2 code))), (loopO (R := _) 2 (cutOf l2.A l2.c) (cutsOf l2.xs l2.y) l2)), ((.block 4 (.loop (loopAt 4 code))), (loopO (R := _) 4 (cutOf l4.A l4.c) (cutsOf l4.xs l4.y) l4))] := by kernel_rfl
theorem l0.ok (w0 : World) (M : Own) (h : Pinned M []) {R : Type} : SoundO prog w0 M 140 (.block 0 (.loop (loopAt 0 code))) (loopO (R := R) 0 (cutOf l0.A l0.c) (cutsOf l0.xs l0.y) l0) :=
  loop_ok tabOk uniOk mixed l0.eq (h.sub rfl) (h.sub rfl) fun x hx => by rw [l0.owed] at hx; rcases List.mem_cons.1 hx with rfl | hx; exact l2.ok w0 M h; rcases List.mem_cons.1 hx with rfl | hx; exact l4.ok w0 M h; exact absurd hx List.not_mem_nil

noncomputable def F : ((Int × Int × Int) × (List S54)) → Option (Bool)
  | ((p0_0, p0_1, p0_2), p1) =>
  let x7 := ((decide (p0_0 < 1)) || (decide (p0_0 > 6)))
  let x5 := (x7 || true)
  let x8 := (decide (((List.length p1) : Int) > 20))
  let x1 := ((x5 || true) || x8)
  let x3 := (!x5)
  let x6 := (!x7)
  let x9 := (F51.F ((p0_2 :: []), (1, 1000)))
  let x10 := (l0 (0, p0_0, p0_1, p0_2, p1))
  cond x6 (
   cond x6 (
    (F51.F ((p0_1 :: []), (0, 1000))).bind fun y51 =>
    let x4 := (x7 || (!y51))
    let x0 := ((x4 || true) || x8)
    let x2 := (!x4)
    cond x2 (
     cond x2 (
      x9.bind fun y51x2 =>
      cond ((x4 || (!y51x2)) || x8) (
       some false) (
       x10.bind fun q => match q with
       | (.inl yl0) =>
        some yl0
       | (.inr yl0) =>
        some true)) (
      cond x0 (
       some false) (
       x10.bind fun q => match q with
       | (.inl yl0) =>
        some yl0
       | (.inr yl0) =>
        some true))) (
     cond x2 (
      (F51.F (([] : List Int), (1, 1000))).bind fun y51x2 =>
      cond ((x4 || (!y51x2)) || x8) (
       some false) (
       x10.bind fun q => match q with
       | (.inl yl0) =>
        some yl0
       | (.inr yl0) =>
        some true)) (
      cond x0 (
       some false) (
       x10.bind fun q => match q with
       | (.inl yl0) =>
        some yl0
       | (.inr yl0) =>
        some true)))) (
    cond x3 (
     cond x3 (
      x9.bind fun y51 =>
      cond ((x5 || (!y51)) || x8) (
       some false) (
       x10.bind fun q => match q with
       | (.inl yl0) =>
        some yl0
       | (.inr yl0) =>
        some true)) (
      cond x1 (
       some false) (
       x10.bind fun q => match q with
       | (.inl yl0) =>
        some yl0
       | (.inr yl0) =>
        some true))) (
     cond x3 (
      (F51.F (([] : List Int), (1, 1000))).bind fun y51 =>
      cond ((x5 || (!y51)) || x8) (
       some false) (
       x10.bind fun q => match q with
       | (.inl yl0) =>
        some yl0
       | (.inr yl0) =>
        some true)) (
      cond x1 (
       some false) (
       x10.bind fun q => match q with
       | (.inl yl0) =>
        some yl0
       | (.inr yl0) =>
        some true))))) (
   cond x6 (
    (F51.F (([] : List Int), (0, 1000))).bind fun y51 =>
    let x4 := (x7 || (!y51))
    let x0 := ((x4 || true) || x8)
    let x2 := (!x4)
    cond x2 (
     cond x2 (
      x9.bind fun y51x2 =>
      cond ((x4 || (!y51x2)) || x8) (
       some false) (
       x10.bind fun q => match q with
       | (.inl yl0) =>
        some yl0
       | (.inr yl0) =>
        some true)) (
      cond x0 (
       some false) (
       x10.bind fun q => match q with
       | (.inl yl0) =>
        some yl0
       | (.inr yl0) =>
        some true))) (
     cond x2 (
      (F51.F (([] : List Int), (1, 1000))).bind fun y51x2 =>
      cond ((x4 || (!y51x2)) || x8) (
       some false) (
       x10.bind fun q => match q with
       | (.inl yl0) =>
        some yl0
       | (.inr yl0) =>
        some true)) (
      cond x0 (
       some false) (
       x10.bind fun q => match q with
       | (.inl yl0) =>
        some yl0
       | (.inr yl0) =>
        some true)))) (
    cond x3 (
     cond x3 (
      x9.bind fun y51 =>
      cond ((x5 || (!y51)) || x8) (
       some false) (
       x10.bind fun q => match q with
       | (.inl yl0) =>
        some yl0
       | (.inr yl0) =>
        some true)) (
      cond x1 (
       some false) (
       x10.bind fun q => match q with
       | (.inl yl0) =>
        some yl0
       | (.inr yl0) =>
        some true))) (
     cond x3 (
      (F51.F (([] : List Int), (1, 1000))).bind fun y51 =>
      cond ((x5 || (!y51)) || x8) (
       some false) (
       x10.bind fun q => match q with
       | (.inl yl0) =>
        some yl0
       | (.inr yl0) =>
        some true)) (
      cond x1 (
       some false) (
       x10.bind fun q => match q with
       | (.inl yl0) =>
        some yl0
       | (.inr yl0) =>
        some true)))))
theorem F.eq : ∀ x, F x = runF (mkE tab es 140 [(0, some (loopO 0 (cutOf l0.A l0.c) (cutsOf l0.xs l0.y) l0))] []) code [.agg [.sc, .sc, .sc], .row 2 0] [.sc] [.tmp 4] (Coz.dec cr) (cp.enc x) := fun x => by kernel_rfl
theorem F.owed : owed (mkE (R := Bool) tab es 140 [(0, some (loopO 0 (cutOf l0.A l0.c) (cutsOf l0.xs l0.y) l0))] []) code = [((.block 0 (.loop (loopAt 0 code))), (loopO (R := _) 0 (cutOf l0.A l0.c) (cutsOf l0.xs l0.y) l0))] := by kernel_rfl
theorem con : ∀ x y, F x = some y → Con prog 32 [.agg [.sc, .sc, .sc], .row 2 0] [.sc] (cp.enc x) (cr.enc y).1 (cr.enc y).2 :=
  func_ok (c := code) (n := 140) (pf := [.agg [.sc, .sc, .sc], .row 2 0]) (res := [.tmp 4]) tabOk uniOk mixed get (by kernel_rfl) (by kernel_rfl) (by kernel_rfl) (by decide) F.eq fun w0 M h x hx => by rw [F.owed] at hx; rcases List.mem_cons.1 hx with rfl | hx; exact l0.ok w0 M h; exact absurd hx List.not_mem_nil
noncomputable def ent : Ent prog uni := Ent.of 32 [.agg [.sc, .sc, .sc], .row 2 0] [.sc] cp cr F con fun args w => enters_of get (by kernel_rfl) rfl args w
end Go.Proofs.YtchohkelpjfpcaaDoor.AX.F32

/- The function 21 of the program in the small machine. No conditions. -/
namespace Go.Proofs.YtchohkelpjfpcaaDoor.AX.F21
open Go Go.Proofs.Tryd
noncomputable def code : Code := bodyOf f21
abbrev Y : Type := ((Int × Int × Int) × (List S54))
def cp : Cod uni (List Int) := (cod1 (iRow 4))
def cr : Coz uni ((Int × Int × Int) × (List S54)) := (cozR (codC (iAgg (codC (iInt .i64) (codC (iInt .i64) (cod1 (iInt .i64))))) (cod1 (iRow 2))) (codD cod0))
noncomputable def es : List (Ent prog uni) := [F45.ent, F46.ent, F32.ent]
theorem get : prog.funcs[21]? = some f21 := by kernel_rfl

def l0.A : Ann := ⟨[(2, .box 5000128 0), (4, .box 5000256 0), (5, .sc)], [(5000128, 30, [.sc, .sc, .sc]), (5000256, 107, [.slc 5000266 [], .sc, .sc])], [(5000266, false, 4)], []⟩
def l0.c : Cod uni (Int × Int × Int × Int × Int × Int × (List Int)) := (codC (iInt .i64) (codC (iInt .i64) (codC (iInt .i64) (codC (iInt .i64) (codC (iInt .i64) (codC (iInt .i64) (cod1 (iRow 4))))))))
def l0.xs : List (AExit × Ann) := [(.ret, ⟨[(2, .box 5000128 0), (3, .slc 5000192 [])], [(5000128, 30, [.sc, .sc, .sc])], [(5000192, true, 2)], []⟩), ((.exit 0), ⟨[(2, .box 5000128 0)], [(5000128, 30, [.sc, .sc, .sc])], [], []⟩)]
def l0.y : Coy uni ((Int × Int × Int × (List S54)) ⊕ (Int × Int × Int)) := (coyS (codC (iInt .i64) (codC (iInt .i64) (codC (iInt .i64) (cod1 (iRow 2))))) (coy1 (codC (iInt .i64) (codC (iInt .i64) (cod1 (iInt .i64))))))
noncomputable def l0.b : Int × Int × Int × Int × Int × Int × (List Int) → Option ((Int × Int × Int × Int × Int × Int × (List Int)) ⊕ ((Int × Int × Int × (List S54)) ⊕ (Int × Int × Int)))
  | (v5, b128_0, b128_1, b128_2, b256_1, b256_2, r266) =>
  cond (decide (v5 < 3)) (
   (F46.F (r266, (b256_1, b256_2))).bind fun y46 =>
   (F32.F ((y46.1.1.1, (y46.1.1.2.1, y46.1.1.2.2)), y46.1.2)).bind fun y32 =>
   cond y32 (
    some (.inr (.inl (y46.1.1.1, y46.1.1.2.1, y46.1.1.2.2, y46.1.2)))) (
    some (.inl ((Go.IntKind.wrap (Go.IntKind.i64 ) (v5 + 1)), b128_0, b128_1, b128_2, y46.2.1, y46.2.2, r266)))) (
   some (.inr (.inr (b128_0, b128_1, b128_2))))
noncomputable def l0 (x : Int × Int × Int × Int × Int × Int × (List Int)) : Option ((Int × Int × Int × (List S54)) ⊕ (Int × Int × Int)) := lim l0.b x
theorem l0.eq : ∀ x, l0.b x = roundX (mkE tab es 29 [] []) (loopAt 0 code) (cutOf l0.A l0.c) (cutsOf l0.xs l0.y) x := fun x => by kernel_rfl
theorem l0.owed {R : Type} : owed (mkE (R := R) tab es 29 [] []) (loopAt 0 code) = [] := by kernel_rfl
theorem l0.ok (w0 : World) (M : Own) (h : Pinned M []) {R : Type} : SoundO prog w0 M 29 (.block 0 (.loop (loopAt 0 code))) (loopO (R := R) 0 (cutOf l0.A l0.c) (cutsOf l0.xs l0.y) l0) :=
  loop_ok tabOk uniOk mixed l0.eq (h.sub rfl) (h.sub rfl) fun x hx => by rw [l0.owed] at hx; exact absurd hx List.not_mem_nil

noncomputable def F : (List Int) → Option (((Int × Int × Int) × (List S54)))
  | p0 =>
  (F45.F p0).bind fun y45 =>
  (l0 (0, 0, 0, 0, y45.1, y45.2, p0)).bind fun q => match q with
  | (.inl yl0) =>
   some ((yl0.1, (yl0.2.1, yl0.2.2.1)), yl0.2.2.2)
  | (.inr yl0) =>
   some ((1, (2, 5)), ((⟨(ByteArray.mk (Array.mk (97 :: []))), 0, ((⟨0, 3, 0, 2⟩ : S69) :: [])⟩ : S54) :: []))
theorem F.eq : ∀ x, F x = runF (mkE tab es 29 [(0, some (loopO 0 (cutOf l0.A l0.c) (cutsOf l0.xs l0.y) l0))] []) code [.row 4 0] [.agg [.sc, .sc, .sc], .row 2] [.cell 2 30, .tmp 3] (Coz.dec cr) (cp.enc x) := fun x => by kernel_rfl
theorem F.owed : owed (mkE (R := ((Int × Int × Int) × (List S54))) tab es 29 [(0, some (loopO 0 (cutOf l0.A l0.c) (cutsOf l0.xs l0.y) l0))] []) code = [((.block 0 (.loop (loopAt 0 code))), (loopO (R := _) 0 (cutOf l0.A l0.c) (cutsOf l0.xs l0.y) l0))] := by kernel_rfl
theorem con : ∀ x y, F x = some y → Con prog 21 [.row 4 0] [.agg [.sc, .sc, .sc], .row 2] (cp.enc x) (cr.enc y).1 (cr.enc y).2 :=
  func_ok (c := code) (n := 29) (pf := [.row 4 0]) (res := [.cell 2 30, .tmp 3]) tabOk uniOk mixed get (by kernel_rfl) (by kernel_rfl) (by kernel_rfl) (by decide) F.eq fun w0 M h x hx => by rw [F.owed] at hx; rcases List.mem_cons.1 hx with rfl | hx; exact l0.ok w0 M h; exact absurd hx List.not_mem_nil
noncomputable def ent : Ent prog uni := Ent.of 21 [.row 4 0] [.agg [.sc, .sc, .sc], .row 2] cp cr F con fun args w => enters_of get (by kernel_rfl) rfl args w
end Go.Proofs.YtchohkelpjfpcaaDoor.AX.F21

/-
  DERIVED: THE SHELF's CONTRACTS AT THIS DUMP, IN PLAIN WORDS (tools/lay-plain.mjs out of 'TrydShelf.lean', which tools/lay-shelf.mjs wrote): THE SAME DECLARATIONS UNDER THE SAME NAMES: 'import', 'namespace', 'open', 'def', 'theorem' AND NOTHING ELSE: no command of the shelf's: FOR A HAND-IN. Each laying: the table of numbers ('.._ren') and one theorem, a field a fact of the dump's own or the kernel's comparison; each contract: ONE APPLICATION.
-/
namespace Go.Proofs
open Go.Shelf
def Tryd.lays197_ren : Go.Shelf.Ren := ⟨fun | 197 => 67 | 260 => 69 | n => n, fun | 9 => 9 | 21 => 21 | 3 => 3 | 4 => 4 | 5 => 5 | 105 => 117 | 119 => 120 | 0 => 0 | 46 => 121 | 139 => 124 | 138 => 123 | n => n, fun | 3 => 0 | 4 => 1 | n => n⟩
theorem Tryd.lays197 : Go.Proofs.Lays.n197 Tryd.prog Tryd.lays197_ren := {
  mixed := by kernel_rfl
  f197 := Tryd.func67.trans (congrArg some (by kernel_rfl))
  f260 := Tryd.func69.trans (congrArg some (by kernel_rfl))
  t0 := Tryd.underlying0
  a0 := Tryd.isAgg0
  z0 := Tryd.sizeOf0
  v0 := Tryd.zeroValue0
  t3 := Tryd.underlying3
  a3 := Tryd.isAgg3
  z3 := Tryd.sizeOf3
  v3 := Tryd.zeroValue3
  t4 := Tryd.underlying4
  a4 := Tryd.isAgg4
  z4 := Tryd.sizeOf4
  v4 := Tryd.zeroValue4
  t5 := Tryd.underlying5
  a5 := Tryd.isAgg5
  z5 := Tryd.sizeOf5
  v5 := Tryd.zeroValue5
  t9 := Tryd.underlying9
  a9 := Tryd.isAgg9
  z9 := Tryd.sizeOf9
  v9 := Tryd.zeroValue9
  t21 := Tryd.underlying21
  a21 := Tryd.isAgg21
  z21 := Tryd.sizeOf21
  v21 := Tryd.zeroValue21
  t46 := Tryd.underlying121
  a46 := Tryd.isAgg121
  z46 := Tryd.sizeOf121
  v46 := Tryd.zeroValue121
  t105 := Tryd.underlying117
  a105 := Tryd.isAgg117
  z105 := Tryd.sizeOf117
  v105 := Tryd.zeroValue117
  t119 := Tryd.underlying120
  a119 := Tryd.isAgg120
  z119 := Tryd.sizeOf120
  t138 := Tryd.underlying123
  a138 := Tryd.isAgg123
  z138 := Tryd.sizeOf123
  v138 := Tryd.zeroValue123
  t139 := Tryd.underlying124
  a139 := Tryd.isAgg124
  z139 := Tryd.sizeOf124
  v139 := Tryd.zeroValue124
  g3 := by kernel_rfl
  g4 := by kernel_rfl }
open Go.RowKit Go.Lib in
/-- unicode/utf8.DecodeRuneInString: "DecodeRuneInString is like DecodeRune but its input is a string.": ("DecodeRune unpacks the first UTF-8 encoding in p and returns the rune and its width in bytes."): WHERE s BEGINS WITH AN ASCII BYTE x: (x, 1). (LAID: no walk: one application.) -/
theorem Tryd.utf8_DecodeRuneInString_ascii (s : ByteArray) (x : UInt8) (w : World) (h0 : s.data.toList[0]? = some x) (hx : x.toNat < 128) :
    Calls Tryd.prog 67 #[.string s] w fun e w' => e = .returned (.tuple #[.int .i32 x.toNat, .int .i64 1]) ∧ w' = w := Any.utf8_DecodeRuneInString_ascii Tryd.lays197 s x w h0 hx
open Go.RowKit Go.Lib in
/-- **unicode/utf8.DecodeRuneInString AT EVERY STRING.** (LAID: no walk: one application.) -/
theorem Tryd.utf8_DecodeRuneInString (s : ByteArray) (w : World) (hT : Lib.Utf8Tabs 0 1 w) :
    Calls Tryd.prog 67 #[.string s] w fun e w' => e = .returned (.tuple #[.int .i32 (Lib.decodeGo s).1, .int .i64 (Lib.decodeGo s).2]) ∧ Below w.heap.size w w' := Any.utf8_DecodeRuneInString Tryd.lays197 s w hT
end Go.Proofs

/- The library's decoder of runes in the small machine. No conditions. -/
namespace Go.Proofs.YtchohkelpjfpcaaDoor.AX.F67
open Go Go.Proofs.Tryd
abbrev Y : Type := (Int × Int)
def cp : Cod uni ByteArray := (cod1 iStr)
def cr : Coz uni (Int × Int) := (cozR (codC (iInt .i32) (cod1 (iInt .i64))) (codD cod0))
theorem get : prog.funcs[67]? = some f67 := by kernel_rfl
noncomputable def F (x : ByteArray) : Option (Int × Int) := some (((Lib.decodeGo x).1 : Int), ((Lib.decodeGo x).2 : Int))
theorem con : ∀ x y, F x = some y → Con prog 67 [.sc] [.sc, .sc] (cp.enc x) (cr.enc y).1 (cr.enc y).2 := by
  intro x y h vals w E D hin hE hD hdr
  unfold F at h
  injection h with h
  subst h
  match vals, hin with
  | [v], ⟨E1, E2, D1, D2, ⟨hv, hE1, hD1⟩, ⟨hE2, hD2⟩, he, hd⟩ =>
    subst hv hE1 hE2 he
    refine (utf8_DecodeRuneInString x w hdr.1).mono fun e w' ⟨he, hb⟩ => ?_
    subst he
    exact ⟨_, [.int .i32 (Lib.decodeGo x).1, .int .i64 (Lib.decodeGo x).2], [], [], rfl, ⟨[], [], ⟨rfl, rfl⟩, ⟨[], [], ⟨rfl, rfl⟩, rfl, rfl⟩, rfl⟩, rfl, ⟨[], [], rfl, rfl, rfl⟩, ⟨hb.os, hb.tape, hb.output, hb.size, fun b hl _ => hb.block b hl⟩, List.nodup_nil, fun b hb => absurd hb (by simp)⟩
noncomputable def ent : Ent prog uni := Ent.of 67 [.sc] [.sc, .sc] cp cr F con fun args w => enters_of get (by kernel_rfl) rfl args w
end Go.Proofs.YtchohkelpjfpcaaDoor.AX.F67

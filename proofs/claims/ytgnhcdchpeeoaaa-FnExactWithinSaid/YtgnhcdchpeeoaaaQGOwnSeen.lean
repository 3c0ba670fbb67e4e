/- A map of the call's own from pairs of whole numbers to bools, of which only true is put: it tells what was put. No conditions. -/
import Derived.Maps.Own
import Derived.Maps.Views
import Derived.DeepKeys4
import Derived.Maps.OwnOps
set_option linter.unusedVariables false
namespace Go.Proofs.Ytgnhcdchpeeoaaa.Seen
open Go Go.Maps Go.WideMaps
variable {P : Program} {k e t : TypeId}
def ptV (p : Int × Int) : Value := .agg #[.int .i64 p.1, .int .i64 p.2]
def Own (H : Type) (P : Program) (k e : TypeId) (W : World) (b : Nat) (xs : List (Int × Int)) : Prop :=
  ∃ (n : Nat) (D : DataW H), W.ownsMap P k (plainElem P e) b n D ∧ n ≤ xs.length ∧ IsMap D ∧
    ∀ p kl, keyOf P k (ptV p) = some kl → D.atKey kl (.lit (.bool false)) = .lit (.bool (decide (p ∈ xs)))
theorem Own.made (H : Type) (W : World) : Own H P k e (W.alloc (.map #[] 0)) W.heap.size [] :=
  ⟨0, .map [], World.ownsMap_made W P k _, Nat.le_refl _, isMap_empty, fun p kl _ => by simp [DataW.atKey]⟩
theorem Own.look {H : Type} {W : World} {b : Nat} {xs : List (Int × Int)} (h : Own H P k e W b xs) (K : Keyed P k) (ht : P.underlying t = some (.map k e)) (he : P.underlying e = some .bool) (hz : (zeroValue e).run P W = .ok (.bool false) W)
    (p : Int × Int) {kl : Lit} (hkey : keyOf P k (ptV p) = some kl) : (Instr.lookup t (.map (some b)) (ptV p) false).run P W = .ok (.bool (decide (p ∈ xs))) W := by
  obtain ⟨n, D, ho, hn, hm, hat⟩ := h
  obtain ⟨v, ps, hrun, hR⟩ := ho.lookup K ht (z := .bool false) hz (plainElem_bool he false) hkey
  rw [hat p kl hkey] at hR
  have hv : v = .bool (decide (p ∈ xs)) := by
    unfold plainElem at hR
    rw [he] at hR
    cases v <;> simp at hR
    rw [hR.1]
  rw [← hv]; exact hrun
theorem Own.put {H : Type} {W : World} {b : Nat} {xs : List (Int × Int)} (h : Own H P k e W b xs) (K : Keyed P k) (ht : P.underlying t = some (.map k e)) (he : P.underlying e = some .bool) (hl : xs.length < maxLen)
    (inj : ∀ (p q : Int × Int) (kl : Lit), keyOf P k (ptV p) = some kl → keyOf P k (ptV q) = some kl → p = q)
    (p : Int × Int) {kl : Lit} (hkey : keyOf P k (ptV p) = some kl) : ∃ W', (Instr.mapUpdate t (.map (some b)) (ptV p) (.bool true)).run P W = .ok () W' ∧ Own H P k e W' b (xs ++ [p]) ∧ W.grownBy W' (some b) := by
  obtain ⟨n, D, ho, hn, hm, hat⟩ := h
  obtain ⟨W', hrun, ho', hg⟩ := ho.update K ht (by omega) hkey (plainElem_bool he true)
  refine ⟨W', hrun, ⟨n + 1, _, ho', by simp; omega, hm.put _ _, fun q ql hq => ?_⟩, hg⟩
  by_cases e : ql = kl
  · subst e
    have := inj _ _ _ hkey hq
    subst this
    rw [atKey_put_same hm (K.key hkey)]; simp
  · rw [atKey_put_other e, hat q ql hq]
    have : q ≠ p := fun h => e (by subst h; rw [hkey] at hq; exact (Option.some.inj hq).symm)
    simp [this]
theorem Own.kept {H : Type} {W W' : World} {b : Nat} {xs : List (Int × Int)} {row : Option Nat} (h : Own H P k e W b xs) (hg : W.grownBy W' row) (hne : some b ≠ row) : Own H P k e W' b xs := by
  obtain ⟨n, D, ho, r⟩ := h
  exact ⟨n, D, ho.kept hg hne, r⟩
theorem key_pair {f0 f1 : Field} (hs : P.underlying k = some (.struct #[f0, f1])) (hkt : P.keyType k = true) (hC : P.cellsOf k = 2) (n0 : (f0.name != "_") = true) (n1 : (f1.name != "_") = true)
    (o0 : f0.offset = 0) (o1 : f1.offset = 1) (c0 : P.cellsOf f0.type = 1) (c1 : P.cellsOf f1.type = 1) (u0 : P.underlying f0.type = some (.int .i64)) (u1 : P.underlying f1.type = some (.int .i64)) (hsz : 0 < P.types.size)
    (p : Int × Int) (w0 : (Lit.int .i64 p.1).wf = true) (w1 : (Lit.int .i64 p.2).wf = true) : ∃ kl, keyOf P k (ptV p) = some kl := by
  obtain ⟨m, hm⟩ : ∃ m, P.types.size = m + 1 := ⟨P.types.size - 1, by omega⟩
  have hf : (ptV p).formed P k = true := by unfold ptV Value.formed; simp [hs, hC]
  unfold keyOf
  simp only [hs, hkt, hf, Bool.and_self, if_true, hm]
  unfold Program.keyLits
  simp only [hs]
  rw [if_pos ⟨by simp [ptV, Value.cells, hC], by simp [n0, n1]⟩]
  have e0 : P.keyLits (m + 1) f0.type [.int .i64 p.1] = some [.int .i64 p.1] := by unfold Program.keyLits; simp [u0, w0]
  have e1 : P.keyLits (m + 1) f1.type [.int .i64 p.2] = some [.int .i64 p.2] := by unfold Program.keyLits; simp [u1, w1]
  have e2 : [f0, f1].mapM (fun f => P.keyLits (m + 1) f.type (((ptV p).cells.toList.drop f.offset).take (P.cellsOf f.type))) = some [[.int .i64 p.1], [.int .i64 p.2]] := by
    simp only [ptV, Value.cells, o0, o1, c0, c1, List.drop_zero, List.mapM_cons, List.mapM_nil, List.take, List.drop, e0, e1]
    rfl
  rw [e2]
  exact ⟨_, rfl⟩
theorem wpList_look {H : Type} (w : World) {ops : Array Oper} {rest : List Oper} {o : Oper} {a : Act} {Q : Exit → Act → World → Prop} (hg : o.guard = none) (m x : Operand) (hop : o.op = Op.lookup t m x false)
    (K : Keyed P k) (ht : P.underlying t = some (.map k e)) (he : P.underlying e = some .bool) (hz : (zeroValue e).run P w = .ok (.bool false) w) {b : Nat} {xs : List (Int × Int)} (hm : a.eval m = .map (some b)) (hown : Own H P k e w b xs)
    (p : Int × Int) (hx : a.eval x = ptV p) (hkey : ∃ kl, keyOf P k (ptV p) = some kl) (c : Bool) (hc : decide (p ∈ xs) = c) (hK : wpList P ops Q rest (a.put o.dst (.bool c)) w) :
    wpList P ops Q (o :: rest) a w := by
  refine wpList_plain hg fun K' hK' => ?_
  obtain ⟨kl, hkey⟩ := hkey
  have hrun := hown.look K ht he hz p hkey
  rw [hc] at hrun
  unfold Oper.wp
  simp [execOp, hop, hm, hx, hrun, Result.andThen]
  exact hK' _ _ hK
theorem wpList_put {H : Type} (w : World) {ops : Array Oper} {rest : List Oper} {o : Oper} {a : Act} {Q : Exit → Act → World → Prop} (hg : o.guard = none) (m x v : Operand) (hop : o.op = Op.mapUpdate t m x v)
    (K : Keyed P k) (ht : P.underlying t = some (.map k e)) (he : P.underlying e = some .bool) {b : Nat} {xs : List (Int × Int)} (hm : a.eval m = .map (some b)) (hown : Own H P k e w b xs) (hl : xs.length < maxLen)
    (inj : ∀ (p q : Int × Int) (kl : Lit), keyOf P k (ptV p) = some kl → keyOf P k (ptV q) = some kl → p = q)
    (p : Int × Int) (hx : a.eval x = ptV p) (hv : a.eval v = .bool true) (hkey : ∃ kl, keyOf P k (ptV p) = some kl)
    (hK : ∀ w', Own H P k e w' b (xs ++ [p]) → w.grownBy w' (some b) → wpList P ops Q rest (a.put o.dst undef) w') :
    wpList P ops Q (o :: rest) a w := by
  refine wpList_plain hg fun K' hK' => ?_
  obtain ⟨kl, hkey⟩ := hkey
  obtain ⟨w', hrun, r1, r2⟩ := hown.put K ht he hl inj p hkey
  unfold Oper.wp
  simp [execOp, hop, hm, hx, hv, hrun, Result.andThen]
  exact hK' _ _ (hK w' r1 r2)
theorem Own.alloc {H : Type} {W : World} {b : Nat} {xs : List (Int × Int)} (h : Own H P k e W b xs) (hb : b < W.heap.size) (o : Obj) : Own H P k e (W.alloc o) b xs := by
  obtain ⟨n, D, ho, r⟩ := h
  exact ⟨n, D, ho.kept (World.grownBy_alloc W o none) (by simp), r⟩
theorem Own.lt {H : Type} {W : World} {b : Nat} {xs : List (Int × Int)} (h : Own H P k e W b xs) : b < W.heap.size := by
  obtain ⟨n, D, ⟨es, clock, hb, _⟩, r⟩ := h
  exact (Array.getElem?_eq_some_iff.1 hb).1
end Go.Proofs.Ytgnhcdchpeeoaaa.Seen

/- Rows over slices of whole numbers: what is read, opened. No conditions. -/
import Derived.Test.YtgnhcdchpeeoaaaVYa
import Derived.ProofKit
import Derived.OpenShut
set_option linter.unusedVariables false
namespace Go.Proofs.Ytgnhcdchpeeoaaa.RowInts
open Go.RowKit Go.ChangeShapes Go.WideShapes Go.Proofs.YtgnhcdchpeeoaaaW.PrintWords
section
variable {H : Type} {enc : TypeId × Value → H} {P : Program} {W : World} {base : Nat} {spare : Nat → Bool} {held : Bool}
theorem open_introw {t e : TypeId} {k : IntKind} {a : Option Addr} {len cap : Nat} {d : DataW H} {ps : List MemPlace}
    (ht : P.underlying t = some (.slice e)) (he : P.underlying e = some (.int k)) (ce : P.cellsOf e = 1) (h : DataW.Trod enc P W base spare held t (.slice a len cap) d ps) :
    ∃ l : List Int, Kd.C (Kd.int k) W a l.length l ∧ len = l.length ∧ l.length ≤ cap ∧ ∀ n ∈ l, (Lit.int k n).wf = true := by
  obtain ⟨fuel, hf⟩ := h
  rcases open_ints ht he ce hf with ⟨hcs, _⟩ | ⟨x, l, c, zs, hcs, _, hl, hm, hz, _, hcell, hwz⟩
  · simp [Value.cells] at hcs
    obtain ⟨rfl, rfl, rfl⟩ := hcs
    exact ⟨[], ⟨rfl, by simp, fun h => absurd h (Nat.lt_irrefl 0)⟩, rfl, Nat.le_refl _, by simp⟩
  · simp [Value.cells] at hcs
    obtain ⟨rfl, rfl, rfl⟩ := hcs
    have hz' : len ≤ zs.length := by
      have h1 : zs.length = if spare x.block = true then cap else len := by simpa using hz
      split at h1 <;> omega
    have hlen : (zs.take len).length = len := by rw [List.length_take]; omega
    refine ⟨zs.take len, ⟨rfl, by rw [hlen]; unfold maxLen at hm; omega, fun _ => ⟨x, rfl, fun j p hp => ?_⟩⟩, hlen.symm, by rw [hlen]; omega, fun n hn => hwz n (List.mem_of_mem_take hn)⟩
    have hj : j < len := by
      have := (List.getElem?_eq_some_iff.1 hp).1; omega
    have hp2 : zs.getD j 0 = p := by
      rw [List.getElem?_take_of_lt hj] at hp
      rw [List.getD_eq_getElem?_getD, hp]; rfl
    refine ⟨[.int k p], rfl, rfl, fun i u hu => ?_⟩
    match i, hu with
    | 0, hu =>
      simp at hu; subst hu
      have := hcell j (by omega)
      rw [hp2] at this
      rw [show j * (Kd.int k).sz + 0 = j from Nat.mul_one _]; exact this
    | i + 1, hu => simp at hu
end
end Go.Proofs.Ytgnhcdchpeeoaaa.RowInts

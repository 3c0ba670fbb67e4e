/- A part of the proof that the law FnExactFlat answers true at every input. No conditions. -/
import Derived.Test.YtgnhcdchpeeoaaaQWPureCross
import Derived.Test.YtgnhcdchpeeoaaaQWW6
set_option linter.unusedVariables false
namespace Go.Proofs.Ytgnhcdchpeeoaaa.PW
open Go.RowKit Go.Proofs.YtgnhcdchpeeoaaaW.PrintWords Go.Proofs.YtgnhcdchpeeoaaaW.PrintLast Go.Proofs.YtgnhcdchpeeoaaaW.PrintMore Plane
theorem side_bd {p q x : Int × Int} (hp : InP p) (hq : InP q) (hx : InP x) : -80000000000 ≤ side p.1 p.2 q.1 q.2 x.1 x.2 ∧ side p.1 p.2 q.1 q.2 x.1 x.2 ≤ 80000000000 := by
  unfold InP InAt at *; unfold side
  have a := pmul (x := q.1 - p.1) (y := x.2 - p.2) (A := 200000) (B := 200000) (by omega) (by omega) (by omega) (by omega)
  have b := pmul (x := q.2 - p.2) (y := x.1 - p.1) (A := 200000) (B := 200000) (by omega) (by omega) (by omega) (by omega)
  omega
theorem sSide_f {p q x : Int × Int} (hp : InP p) (hq : InP q) (hx : InP x) : spec_l03Side.f p.1 p.2 q.1 q.2 x.1 x.2 = some (side p.1 p.2 q.1 q.2 x.1 x.2) := by
  have h := side_bd hp hq hx
  unfold InP InAt at *; unfold side at *; unfold spec_l03Side.f
  have a := pmul (x := q.1 - p.1) (y := x.2 - p.2) (A := 200000) (B := 200000) (by omega) (by omega) (by omega) (by omega)
  have b := pmul (x := q.2 - p.2) (y := x.1 - p.1) (A := 200000) (B := 200000) (by omega) (by omega) (by omega) (by omega)
  rw [pw64 (x := q.1 - p.1) (by omega) (by omega), pw64 (x := x.2 - p.2) (by omega) (by omega), pw64 (x := q.2 - p.2) (by omega) (by omega), pw64 (x := x.1 - p.1) (by omega) (by omega)]
  rw [pw64 (x := (q.1 - p.1) * _) (by omega) (by omega), pw64 (x := (q.2 - p.2) * _) (by omega) (by omega), pw64 (by omega) (by omega)]
theorem sLess_f (p q : Int × Int) : spec_l03Less.f p.1 p.2 q.1 q.2 = some (lessP p q) := by
  unfold spec_l03Less.f lessP
  split
  · rename_i h; simp [h]
  · split <;> (rename_i h1 h2; simp [h1, h2])
theorem sOn_f {a b x : Int × Int} (h : side a.1 a.2 b.1 b.2 x.1 x.2 = 0) : spec_l03On.f a.1 a.2 b.1 b.2 x.1 x.2 = some (onB a.1 a.2 b.1 b.2 x.1 x.2) := by
  unfold spec_l03On.f onB mn mx
  rw [h]
  have e1 : (if b.1 < a.1 then b.1 else a.1) = min a.1 b.1 := by split <;> omega
  have e2 : (if a.1 < b.1 then b.1 else a.1) = max a.1 b.1 := by split <;> omega
  have e3 : (if b.2 < a.2 then b.2 else a.2) = min a.2 b.2 := by split <;> omega
  have e4 : (if a.2 < b.2 then b.2 else a.2) = max a.2 b.2 := by split <;> omega
  rw [e1, e2, e3, e4]
  split
  · split
    · split
      · congr 1; rw [decide_eq_decide]; omega
      · congr 1; symm; rw [decide_eq_false_iff_not]; omega
    · congr 1; symm; rw [decide_eq_false_iff_not]; omega
  · congr 1; symm; rw [decide_eq_false_iff_not]; omega
def tS (t : Int × Int × Int) : S41 := ⟨t.1, t.2.1, t.2.2⟩
theorem pt_eq (p q : Int × Int) : (p.1 == q.1 && (p.2 == q.2)) = true ↔ p = q := by
  rw [Bool.and_eq_true, beq_iff_eq, beq_iff_eq]; exact Prod.ext_iff.symm
theorem sSign_f (x : Int) : spec_l03Sign.f x = some (if x > 0 then 1 else if x < 0 then -1 else 0) := by
  unfold spec_l03Sign.f; split
  · rfl
  · split <;> rfl
theorem sCross_f {a b c d : Int × Int} (ha : InP a) (hb : InP b) (hc : InP c) (hd : InP d) :
    Ev (fun k => spec_l03Cross.f k a.1 a.2 b.1 b.2 c.1 c.2 d.1 d.2) ((crossP a.1 a.2 b.1 b.2 c.1 c.2 d.1 d.2).map tS) := by
  unfold spec_l03Cross.f; exact ev_ifT ⟨ha.1, ha.2, hb.1, hb.2, hc.1, hc.2, hd.1, hd.2⟩ (Ev.now _)
end Go.Proofs.Ytgnhcdchpeeoaaa.PW

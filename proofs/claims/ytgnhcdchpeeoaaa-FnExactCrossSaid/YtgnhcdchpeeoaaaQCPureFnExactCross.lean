/- A part of the proof that the law FnExactCross answers true at every input. No conditions. -/
import Derived.Test.YtgnhcdchpeeoaaaQCPureCrossX
namespace Go.Proofs.Ytgnhcdchpeeoaaa.PC
open Go.RowKit
theorem FnExactCross_row (x0 y0 x1 y1 x2 y2 x3 y3 : Int) (_ : (Lit.int .i64 x0).wf = true) (_ : (Lit.int .i64 y0).wf = true) (_ : (Lit.int .i64 x1).wf = true) (_ : (Lit.int .i64 y1).wf = true)
    (_ : (Lit.int .i64 x2).wf = true) (_ : (Lit.int .i64 y2).wf = true) (_ : (Lit.int .i64 x3).wf = true) (_ : (Lit.int .i64 y3).wf = true) : ∃ k, laws_FnExactCross.f k x0 y0 x1 y1 x2 y2 x3 y3 = some true :=
  (cross_all (x0, y0) (x1, y1) (x2, y2) (x3, y3)).rounds
end Go.Proofs.Ytgnhcdchpeeoaaa.PC

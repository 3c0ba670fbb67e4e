/- A part of the proof that the law AllG answers true at every input. No conditions. -/
import Derived.Test.YtgnhcdchpeeoaaaQGPurePolyG
namespace Go.Proofs.Ytgnhcdchpeeoaaa.PG
open Go.RowKit
theorem FnExactPolygonCode_row (l0 : List (Int × Int)) (hl : l0.length * 16 ≤ 140737488351232) (_ : ∀ x ∈ l0, (Lit.int .i64 x.1).wf = true ∧ (Lit.int .i64 x.2).wf = true) : ∃ k, laws_FnExactPolygonCode.f k (l0.map qS) = some true :=
  (poly_all l0 (by omega)).rounds
end Go.Proofs.Ytgnhcdchpeeoaaa.PG

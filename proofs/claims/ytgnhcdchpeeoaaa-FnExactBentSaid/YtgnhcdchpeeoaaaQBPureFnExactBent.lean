/- The law FnExactBent answers true at every input: the program's folded walls are the specification's. No conditions. -/
import Derived.Test.YtgnhcdchpeeoaaaQBPureBent
namespace Go.Proofs.Ytgnhcdchpeeoaaa.Pure
open Go.RowKit Go.Proofs.Ytgnhcdchpeeoaaa.PB Go.Proofs.YtgnhcdchpeeoaaaW.PrintWords Go.Proofs.YtgnhcdchpeeoaaaW.PrintLast
theorem FnExactBent : laws_FnExactBent.Pure :=
  fun l0 l1 _ _ _ _ _ _ => (bent_all l0 l1).rounds
end Go.Proofs.Ytgnhcdchpeeoaaa.Pure

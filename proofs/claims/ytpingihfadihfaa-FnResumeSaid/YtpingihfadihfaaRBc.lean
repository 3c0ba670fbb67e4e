/- The facts of the table. No conditions. -/
import Derived.Test.YtpingihfadihfaaProg
import Derived.KernelRfl
import Derived.ProofKit
import Derived.OpenShut
import Derived.Below
import Derived.Test.YtpingihfadihfaaRBb
set_option linter.unusedVariables false
set_option linter.unusedSimpArgs false
set_option linter.unusedSectionVars false
namespace Go.Proofs.Ytpingihfadihfaa.AX
open Go Go.Proofs.Try
theorem ty2 : TyOk prog uni 2 (.int .i64) := underlying2
theorem ty3 : TyOk prog uni 3 (.int .i64) := underlying3
theorem ty4 : TyOk prog uni 4 (.bool) := underlying4
theorem ty5 : TyOk prog uni 5 (.int .u8) := underlying5
theorem ty6 : TyOk prog uni 6 (.int .u8) := underlying6
theorem ty7 : TyOk prog uni 7 (.agg [(0, 1, false), (1, 1, false), (2, 1, false), (3, 1, false)]) := ⟨_, underlying7, rfl, ⟨_, _, type2, rfl, by decide, underlying2, rfl⟩, rfl, ⟨_, _, type3, rfl, by decide, underlying3, rfl⟩, rfl, ⟨_, _, type4, rfl, by decide, underlying4, rfl⟩, rfl, ⟨_, _, type6, rfl, by decide, underlying6, rfl⟩, trivial⟩
theorem ty8 : TyOk prog uni 8 (.agg [(0, 1, false), (1, 1, false), (2, 1, false), (3, 1, false)]) := ⟨_, underlying8, rfl, ⟨_, _, type2, rfl, by decide, underlying2, rfl⟩, rfl, ⟨_, _, type3, rfl, by decide, underlying3, rfl⟩, rfl, ⟨_, _, type4, rfl, by decide, underlying4, rfl⟩, rfl, ⟨_, _, type6, rfl, by decide, underlying6, rfl⟩, trivial⟩
theorem ty9 : TyOk prog uni 9 (.str) := underlying9
theorem ty10 : TyOk prog uni 10 (.str) := underlying10
theorem ty11 : TyOk prog uni 11 (.str) := underlying11
theorem ty12 : TyOk prog uni 12 (.int .u64) := underlying12
theorem ty13 : TyOk prog uni 13 (.agg [(0, 1, false), (1, 1, false)]) := ⟨_, underlying13, rfl, ⟨_, _, type9, rfl, by decide, underlying9, rfl⟩, rfl, ⟨_, _, type12, rfl, by decide, underlying12, rfl⟩, trivial⟩
theorem ty14 : TyOk prog uni 14 (.agg [(0, 1, false), (1, 1, false)]) := ⟨_, underlying14, rfl, ⟨_, _, type9, rfl, by decide, underlying9, rfl⟩, rfl, ⟨_, _, type12, rfl, by decide, underlying12, rfl⟩, trivial⟩
theorem ty18 : TyOk prog uni 18 (.agg [(0, 1, false)]) := ⟨_, underlying18, rfl, ⟨_, _, type17, rfl, by decide, underlying17, rfl⟩, trivial⟩
theorem ty19 : TyOk prog uni 19 (.agg [(0, 1, false)]) := ⟨_, underlying19, rfl, ⟨_, _, type17, rfl, by decide, underlying17, rfl⟩, trivial⟩
theorem ty21 : TyOk prog uni 21 (.int .i32) := underlying21
theorem ty22 : TyOk prog uni 22 (.slice 0) := ⟨underlying22, _, _, type53, rfl, rfl, rfl, by decide, by decide, ⟨rfl, rfl, rfl, rfl, trivial⟩⟩
theorem ty24 : TyOk prog uni 24 (.slice 1) := ⟨underlying24, _, _, type60, rfl, rfl, rfl, by decide, by decide, ⟨rfl, rfl, rfl, rfl, trivial⟩⟩
theorem ty27 : TyOk prog uni 27 (.slice 2) := ⟨underlying27, _, _, type51, rfl, rfl, rfl, by decide, by decide, ⟨rfl, rfl, rfl, rfl, trivial⟩⟩
theorem ty34 : TyOk prog uni 34 (.slice 3) := ⟨underlying34, _, _, type5, rfl, rfl, rfl, by decide, by decide, ⟨rfl, trivial⟩⟩
theorem ty38 : TyOk prog uni 38 (.agg [(0, 1, false), (1, 1, false), (2, 1, false)]) := ⟨_, underlying38, rfl, ⟨_, _, type3, rfl, by decide, underlying3, rfl⟩, rfl, ⟨_, _, type3, rfl, by decide, underlying3, rfl⟩, rfl, ⟨_, _, type3, rfl, by decide, underlying3, rfl⟩, trivial⟩
theorem ty39 : TyOk prog uni 39 (.agg [(0, 1, false), (1, 1, false), (2, 1, false)]) := ⟨_, underlying39, rfl, ⟨_, _, type3, rfl, by decide, underlying3, rfl⟩, rfl, ⟨_, _, type3, rfl, by decide, underlying3, rfl⟩, rfl, ⟨_, _, type3, rfl, by decide, underlying3, rfl⟩, trivial⟩
theorem ty44 : TyOk prog uni 44 (.agg [(0, 1, false), (1, 1, false), (2, 1, false)]) := ⟨_, underlying44, rfl, ⟨_, _, type3, rfl, by decide, underlying3, rfl⟩, rfl, ⟨_, _, type3, rfl, by decide, underlying3, rfl⟩, rfl, ⟨_, _, type3, rfl, by decide, underlying3, rfl⟩, trivial⟩
theorem ty47 : TyOk prog uni 47 (.slice 4) := ⟨underlying47, _, _, type39, rfl, rfl, rfl, by decide, by decide, ⟨rfl, rfl, rfl, trivial⟩⟩
theorem ty50 : TyOk prog uni 50 (.agg [(0, 1, false), (1, 1, false), (2, 1, false), (3, 1, false)]) := ⟨_, underlying50, rfl, ⟨_, _, type4, rfl, by decide, underlying4, rfl⟩, rfl, ⟨_, _, type3, rfl, by decide, underlying3, rfl⟩, rfl, ⟨_, _, type3, rfl, by decide, underlying3, rfl⟩, rfl, ⟨_, _, type3, rfl, by decide, underlying3, rfl⟩, trivial⟩
theorem ty51 : TyOk prog uni 51 (.agg [(0, 1, false), (1, 1, false), (2, 1, false), (3, 1, false)]) := ⟨_, underlying51, rfl, ⟨_, _, type4, rfl, by decide, underlying4, rfl⟩, rfl, ⟨_, _, type3, rfl, by decide, underlying3, rfl⟩, rfl, ⟨_, _, type3, rfl, by decide, underlying3, rfl⟩, rfl, ⟨_, _, type3, rfl, by decide, underlying3, rfl⟩, trivial⟩
theorem ty53 : TyOk prog uni 53 (.agg [(0, 1, false), (1, 1, false), (2, 1, false), (3, 1, false)]) := ⟨_, underlying53, rfl, ⟨_, _, type4, rfl, by decide, underlying4, rfl⟩, rfl, ⟨_, _, type3, rfl, by decide, underlying3, rfl⟩, rfl, ⟨_, _, type3, rfl, by decide, underlying3, rfl⟩, rfl, ⟨_, _, type3, rfl, by decide, underlying3, rfl⟩, trivial⟩
theorem ty54 : TyOk prog uni 54 (.agg [(0, 1, false), (1, 1, false)]) := ⟨_, underlying54, rfl, ⟨_, _, type24, rfl, by decide, underlying24, rfl⟩, rfl, ⟨_, _, type47, rfl, by decide, underlying47, rfl⟩, trivial⟩
theorem ty55 : TyOk prog uni 55 (.agg [(0, 1, false), (1, 1, false)]) := ⟨_, underlying55, rfl, ⟨_, _, type24, rfl, by decide, underlying24, rfl⟩, rfl, ⟨_, _, type47, rfl, by decide, underlying47, rfl⟩, trivial⟩
theorem ty59 : TyOk prog uni 59 (.agg [(0, 1, false), (1, 1, false), (2, 1, false), (3, 1, false)]) := ⟨_, underlying59, rfl, ⟨_, _, type3, rfl, by decide, underlying3, rfl⟩, rfl, ⟨_, _, type3, rfl, by decide, underlying3, rfl⟩, rfl, ⟨_, _, type3, rfl, by decide, underlying3, rfl⟩, rfl, ⟨_, _, type3, rfl, by decide, underlying3, rfl⟩, trivial⟩
theorem ty60 : TyOk prog uni 60 (.agg [(0, 1, false), (1, 1, false), (2, 1, false), (3, 1, false)]) := ⟨_, underlying60, rfl, ⟨_, _, type3, rfl, by decide, underlying3, rfl⟩, rfl, ⟨_, _, type3, rfl, by decide, underlying3, rfl⟩, rfl, ⟨_, _, type3, rfl, by decide, underlying3, rfl⟩, rfl, ⟨_, _, type3, rfl, by decide, underlying3, rfl⟩, trivial⟩
theorem ty66 : TyOk prog uni 66 (.slice 5) := ⟨underlying66, _, _, type70, rfl, rfl, rfl, by decide, by decide, ⟨rfl, rfl, rfl, rfl, rfl, rfl, rfl, rfl, rfl, rfl, trivial⟩⟩
theorem ty68 : TyOk prog uni 68 (.slice 6) := ⟨underlying68, _, _, type3, rfl, rfl, rfl, by decide, by decide, ⟨rfl, trivial⟩⟩
theorem ty69 : TyOk prog uni 69 (.agg [(0, 1, false), (1, 1, false), (2, 1, false), (3, 1, false), (4, 4, true), (8, 1, false)]) := ⟨_, underlying69, rfl, ⟨_, _, type68, rfl, by decide, underlying68, rfl⟩, rfl, ⟨_, _, type3, rfl, by decide, underlying3, rfl⟩, rfl, ⟨_, _, type3, rfl, by decide, underlying3, rfl⟩, rfl, ⟨_, _, type4, rfl, by decide, underlying4, rfl⟩, rfl, ⟨_, _, type51, rfl, by decide, underlying51, rfl⟩, rfl, ⟨_, _, type3, rfl, by decide, underlying3, rfl⟩, trivial⟩
theorem ty70 : TyOk prog uni 70 (.agg [(0, 1, false), (1, 1, false), (2, 1, false), (3, 1, false), (4, 4, true), (8, 1, false)]) := ⟨_, underlying70, rfl, ⟨_, _, type68, rfl, by decide, underlying68, rfl⟩, rfl, ⟨_, _, type3, rfl, by decide, underlying3, rfl⟩, rfl, ⟨_, _, type3, rfl, by decide, underlying3, rfl⟩, rfl, ⟨_, _, type4, rfl, by decide, underlying4, rfl⟩, rfl, ⟨_, _, type51, rfl, by decide, underlying51, rfl⟩, rfl, ⟨_, _, type3, rfl, by decide, underlying3, rfl⟩, trivial⟩
theorem ty74 : TyOk prog uni 74 (.slice 7) := ⟨underlying74, _, _, type79, rfl, rfl, rfl, by decide, by decide, ⟨rfl, rfl, trivial⟩⟩
theorem ty76 : TyOk prog uni 76 (.agg [(0, 1, false), (1, 1, false), (2, 1, false), (3, 1, false), (4, 1, false), (5, 1, false)]) := ⟨_, underlying76, rfl, ⟨_, _, type3, rfl, by decide, underlying3, rfl⟩, rfl, ⟨_, _, type4, rfl, by decide, underlying4, rfl⟩, rfl, ⟨_, _, type3, rfl, by decide, underlying3, rfl⟩, rfl, ⟨_, _, type3, rfl, by decide, underlying3, rfl⟩, rfl, ⟨_, _, type3, rfl, by decide, underlying3, rfl⟩, rfl, ⟨_, _, type3, rfl, by decide, underlying3, rfl⟩, trivial⟩
theorem ty77 : TyOk prog uni 77 (.agg [(0, 1, false), (1, 1, false), (2, 1, false), (3, 1, false), (4, 1, false), (5, 1, false)]) := ⟨_, underlying77, rfl, ⟨_, _, type3, rfl, by decide, underlying3, rfl⟩, rfl, ⟨_, _, type4, rfl, by decide, underlying4, rfl⟩, rfl, ⟨_, _, type3, rfl, by decide, underlying3, rfl⟩, rfl, ⟨_, _, type3, rfl, by decide, underlying3, rfl⟩, rfl, ⟨_, _, type3, rfl, by decide, underlying3, rfl⟩, rfl, ⟨_, _, type3, rfl, by decide, underlying3, rfl⟩, trivial⟩
theorem ty78 : TyOk prog uni 78 (.slice 8) := ⟨underlying78, _, _, type77, rfl, rfl, rfl, by decide, by decide, ⟨rfl, rfl, rfl, rfl, rfl, rfl, trivial⟩⟩
theorem ty79 : TyOk prog uni 79 (.slice 8) := ⟨underlying79, _, _, type77, rfl, rfl, rfl, by decide, by decide, ⟨rfl, rfl, rfl, rfl, rfl, rfl, trivial⟩⟩
theorem ty81 : TyOk prog uni 81 (.agg [(0, 1, false), (1, 1, false), (2, 1, false)]) := ⟨_, underlying81, rfl, ⟨_, _, type34, rfl, by decide, underlying34, rfl⟩, rfl, ⟨_, _, type3, rfl, by decide, underlying3, rfl⟩, rfl, ⟨_, _, type3, rfl, by decide, underlying3, rfl⟩, trivial⟩
theorem ty82 : TyOk prog uni 82 (.agg [(0, 1, false), (1, 1, false), (2, 1, false)]) := ⟨_, underlying82, rfl, ⟨_, _, type34, rfl, by decide, underlying34, rfl⟩, rfl, ⟨_, _, type3, rfl, by decide, underlying3, rfl⟩, rfl, ⟨_, _, type3, rfl, by decide, underlying3, rfl⟩, trivial⟩
theorem ty88 : TyOk prog uni 88 (.agg [(0, 1, false), (1, 1, false), (2, 1, false), (3, 1, false), (4, 1, false), (5, 1, false)]) := ⟨_, underlying88, rfl, ⟨_, _, type3, rfl, by decide, underlying3, rfl⟩, rfl, ⟨_, _, type4, rfl, by decide, underlying4, rfl⟩, rfl, ⟨_, _, type3, rfl, by decide, underlying3, rfl⟩, rfl, ⟨_, _, type3, rfl, by decide, underlying3, rfl⟩, rfl, ⟨_, _, type3, rfl, by decide, underlying3, rfl⟩, rfl, ⟨_, _, type3, rfl, by decide, underlying3, rfl⟩, trivial⟩
theorem ty89 : TyOk prog uni 89 (.agg [(0, 1, false), (1, 1, false), (2, 1, false), (3, 1, false), (4, 1, false), (5, 1, false)]) := ⟨_, underlying89, rfl, ⟨_, _, type3, rfl, by decide, underlying3, rfl⟩, rfl, ⟨_, _, type4, rfl, by decide, underlying4, rfl⟩, rfl, ⟨_, _, type3, rfl, by decide, underlying3, rfl⟩, rfl, ⟨_, _, type3, rfl, by decide, underlying3, rfl⟩, rfl, ⟨_, _, type3, rfl, by decide, underlying3, rfl⟩, rfl, ⟨_, _, type3, rfl, by decide, underlying3, rfl⟩, trivial⟩
theorem ty91 : TyOk prog uni 91 (.agg [(0, 1, false), (1, 1, false), (2, 1, false), (3, 1, false)]) := ⟨_, underlying91, rfl, ⟨_, _, type17, rfl, by decide, underlying17, rfl⟩, rfl, ⟨_, _, type17, rfl, by decide, underlying17, rfl⟩, rfl, ⟨_, _, type17, rfl, by decide, underlying17, rfl⟩, rfl, ⟨_, _, type9, rfl, by decide, underlying9, rfl⟩, trivial⟩
theorem ty92 : TyOk prog uni 92 (.agg [(0, 1, false), (1, 1, false), (2, 1, false), (3, 1, false)]) := ⟨_, underlying92, rfl, ⟨_, _, type17, rfl, by decide, underlying17, rfl⟩, rfl, ⟨_, _, type17, rfl, by decide, underlying17, rfl⟩, rfl, ⟨_, _, type17, rfl, by decide, underlying17, rfl⟩, rfl, ⟨_, _, type9, rfl, by decide, underlying9, rfl⟩, trivial⟩
theorem ty96 : TyOk prog uni 96 (.int .u32) := underlying96
theorem ty97 : TyOk prog uni 97 (.int .u8) := underlying97
theorem ty98 : TyOk prog uni 98 (.int .u8) := underlying98
theorem ty101 : TyOk prog uni 101 (.int .i32) := underlying101
theorem ty102 : TyOk prog uni 102 (.int .i32) := underlying102
theorem lay2 : LayOk prog 2 (some ⟨1, false, [.int .i64 0]⟩) := ⟨_, _, _, type2, rfl, rfl, rfl, underlying2, rfl⟩
theorem lay3 : LayOk prog 3 (some ⟨1, false, [.int .i64 0]⟩) := ⟨_, _, _, type3, rfl, rfl, rfl, underlying3, rfl⟩
theorem lay4 : LayOk prog 4 (some ⟨1, false, [.bool false]⟩) := ⟨_, _, _, type4, rfl, rfl, rfl, underlying4, rfl⟩
theorem lay5 : LayOk prog 5 (some ⟨1, false, [.int .u8 0]⟩) := ⟨_, _, _, type5, rfl, rfl, rfl, underlying5, rfl⟩
theorem lay6 : LayOk prog 6 (some ⟨1, false, [.int .u8 0]⟩) := ⟨_, _, _, type6, rfl, rfl, rfl, underlying6, rfl⟩
theorem lay7 : LayOk prog 7 (some ⟨4, true, [.int .i64 0, .int .i64 0, .bool false, .int .u8 0]⟩) := ⟨_, _, _, type7, rfl, rfl, rfl, underlying7, rfl⟩
theorem lay8 : LayOk prog 8 (some ⟨4, true, [.int .i64 0, .int .i64 0, .bool false, .int .u8 0]⟩) := ⟨_, _, _, type8, rfl, rfl, rfl, underlying8, rfl⟩
theorem lay9 : LayOk prog 9 (some ⟨1, false, [.string ⟨#[]⟩]⟩) := ⟨_, _, _, type9, rfl, rfl, rfl, underlying9, rfl⟩
theorem lay10 : LayOk prog 10 (some ⟨1, false, [.string ⟨#[]⟩]⟩) := ⟨_, _, _, type10, rfl, rfl, rfl, underlying10, rfl⟩
theorem lay11 : LayOk prog 11 (some ⟨1, false, [.string ⟨#[]⟩]⟩) := ⟨_, _, _, type11, rfl, rfl, rfl, underlying11, rfl⟩
theorem lay12 : LayOk prog 12 (some ⟨1, false, [.int .u64 0]⟩) := ⟨_, _, _, type12, rfl, rfl, rfl, underlying12, rfl⟩
theorem lay13 : LayOk prog 13 (some ⟨2, true, [.string ⟨#[]⟩, .int .u64 0]⟩) := ⟨_, _, _, type13, rfl, rfl, rfl, underlying13, rfl⟩
theorem lay14 : LayOk prog 14 (some ⟨2, true, [.string ⟨#[]⟩, .int .u64 0]⟩) := ⟨_, _, _, type14, rfl, rfl, rfl, underlying14, rfl⟩
theorem lay15 : LayOk prog 15 (some ⟨1, false, [.pointer none]⟩) := ⟨_, _, _, type15, rfl, rfl, rfl, underlying15, rfl⟩
theorem lay16 : LayOk prog 16 (some ⟨1, false, [.pointer none]⟩) := ⟨_, _, _, type16, rfl, rfl, rfl, underlying16, rfl⟩
theorem lay17 : LayOk prog 17 (some ⟨1, false, [.pointer none]⟩) := ⟨_, _, _, type17, rfl, rfl, rfl, underlying17, rfl⟩
theorem lay18 : LayOk prog 18 (some ⟨1, true, [.pointer none]⟩) := ⟨_, _, _, type18, rfl, rfl, rfl, underlying18, rfl⟩
theorem lay19 : LayOk prog 19 (some ⟨1, true, [.pointer none]⟩) := ⟨_, _, _, type19, rfl, rfl, rfl, underlying19, rfl⟩
theorem lay21 : LayOk prog 21 (some ⟨1, false, [.int .i32 0]⟩) := ⟨_, _, _, type21, rfl, rfl, rfl, underlying21, rfl⟩
theorem lay22 : LayOk prog 22 (some ⟨1, false, [.slice none 0 0]⟩) := ⟨_, _, _, type22, rfl, rfl, rfl, underlying22, rfl⟩
theorem lay24 : LayOk prog 24 (some ⟨1, false, [.slice none 0 0]⟩) := ⟨_, _, _, type24, rfl, rfl, rfl, underlying24, rfl⟩
theorem lay27 : LayOk prog 27 (some ⟨1, false, [.slice none 0 0]⟩) := ⟨_, _, _, type27, rfl, rfl, rfl, underlying27, rfl⟩
theorem lay34 : LayOk prog 34 (some ⟨1, false, [.slice none 0 0]⟩) := ⟨_, _, _, type34, rfl, rfl, rfl, underlying34, rfl⟩
theorem lay38 : LayOk prog 38 (some ⟨3, true, [.int .i64 0, .int .i64 0, .int .i64 0]⟩) := ⟨_, _, _, type38, rfl, rfl, rfl, underlying38, rfl⟩
theorem lay39 : LayOk prog 39 (some ⟨3, true, [.int .i64 0, .int .i64 0, .int .i64 0]⟩) := ⟨_, _, _, type39, rfl, rfl, rfl, underlying39, rfl⟩
theorem lay44 : LayOk prog 44 (some ⟨3, true, [.int .i64 0, .int .i64 0, .int .i64 0]⟩) := ⟨_, _, _, type44, rfl, rfl, rfl, underlying44, rfl⟩
theorem lay47 : LayOk prog 47 (some ⟨1, false, [.slice none 0 0]⟩) := ⟨_, _, _, type47, rfl, rfl, rfl, underlying47, rfl⟩
theorem lay50 : LayOk prog 50 (some ⟨4, true, [.bool false, .int .i64 0, .int .i64 0, .int .i64 0]⟩) := ⟨_, _, _, type50, rfl, rfl, rfl, underlying50, rfl⟩
theorem lay51 : LayOk prog 51 (some ⟨4, true, [.bool false, .int .i64 0, .int .i64 0, .int .i64 0]⟩) := ⟨_, _, _, type51, rfl, rfl, rfl, underlying51, rfl⟩
theorem lay53 : LayOk prog 53 (some ⟨4, true, [.bool false, .int .i64 0, .int .i64 0, .int .i64 0]⟩) := ⟨_, _, _, type53, rfl, rfl, rfl, underlying53, rfl⟩
theorem lay54 : LayOk prog 54 (some ⟨2, true, [.slice none 0 0, .slice none 0 0]⟩) := ⟨_, _, _, type54, rfl, rfl, rfl, underlying54, rfl⟩
theorem lay55 : LayOk prog 55 (some ⟨2, true, [.slice none 0 0, .slice none 0 0]⟩) := ⟨_, _, _, type55, rfl, rfl, rfl, underlying55, rfl⟩
theorem lay59 : LayOk prog 59 (some ⟨4, true, [.int .i64 0, .int .i64 0, .int .i64 0, .int .i64 0]⟩) := ⟨_, _, _, type59, rfl, rfl, rfl, underlying59, rfl⟩
theorem lay60 : LayOk prog 60 (some ⟨4, true, [.int .i64 0, .int .i64 0, .int .i64 0, .int .i64 0]⟩) := ⟨_, _, _, type60, rfl, rfl, rfl, underlying60, rfl⟩
theorem lay62 : LayOk prog 62 (some ⟨1, false, [.pointer none]⟩) := ⟨_, _, _, type62, rfl, rfl, rfl, underlying62, rfl⟩
theorem lay66 : LayOk prog 66 (some ⟨1, false, [.slice none 0 0]⟩) := ⟨_, _, _, type66, rfl, rfl, rfl, underlying66, rfl⟩
theorem lay68 : LayOk prog 68 (some ⟨1, false, [.slice none 0 0]⟩) := ⟨_, _, _, type68, rfl, rfl, rfl, underlying68, rfl⟩
theorem lay69 : LayOk prog 69 (some ⟨9, true, [.slice none 0 0, .int .i64 0, .int .i64 0, .bool false, .bool false, .int .i64 0, .int .i64 0, .int .i64 0, .int .i64 0]⟩) := ⟨_, _, _, type69, rfl, rfl, rfl, underlying69, rfl⟩
theorem lay70 : LayOk prog 70 (some ⟨9, true, [.slice none 0 0, .int .i64 0, .int .i64 0, .bool false, .bool false, .int .i64 0, .int .i64 0, .int .i64 0, .int .i64 0]⟩) := ⟨_, _, _, type70, rfl, rfl, rfl, underlying70, rfl⟩
theorem lay74 : LayOk prog 74 (some ⟨1, false, [.slice none 0 0]⟩) := ⟨_, _, _, type74, rfl, rfl, rfl, underlying74, rfl⟩
theorem lay76 : LayOk prog 76 (some ⟨6, true, [.int .i64 0, .bool false, .int .i64 0, .int .i64 0, .int .i64 0, .int .i64 0]⟩) := ⟨_, _, _, type76, rfl, rfl, rfl, underlying76, rfl⟩
theorem lay77 : LayOk prog 77 (some ⟨6, true, [.int .i64 0, .bool false, .int .i64 0, .int .i64 0, .int .i64 0, .int .i64 0]⟩) := ⟨_, _, _, type77, rfl, rfl, rfl, underlying77, rfl⟩
theorem lay78 : LayOk prog 78 (some ⟨1, false, [.slice none 0 0]⟩) := ⟨_, _, _, type78, rfl, rfl, rfl, underlying78, rfl⟩
theorem lay79 : LayOk prog 79 (some ⟨1, false, [.slice none 0 0]⟩) := ⟨_, _, _, type79, rfl, rfl, rfl, underlying79, rfl⟩
theorem lay81 : LayOk prog 81 (some ⟨3, true, [.slice none 0 0, .int .i64 0, .int .i64 0]⟩) := ⟨_, _, _, type81, rfl, rfl, rfl, underlying81, rfl⟩
theorem lay82 : LayOk prog 82 (some ⟨3, true, [.slice none 0 0, .int .i64 0, .int .i64 0]⟩) := ⟨_, _, _, type82, rfl, rfl, rfl, underlying82, rfl⟩
theorem lay88 : LayOk prog 88 (some ⟨6, true, [.int .i64 0, .bool false, .int .i64 0, .int .i64 0, .int .i64 0, .int .i64 0]⟩) := ⟨_, _, _, type88, rfl, rfl, rfl, underlying88, rfl⟩
theorem lay89 : LayOk prog 89 (some ⟨6, true, [.int .i64 0, .bool false, .int .i64 0, .int .i64 0, .int .i64 0, .int .i64 0]⟩) := ⟨_, _, _, type89, rfl, rfl, rfl, underlying89, rfl⟩
theorem lay91 : LayOk prog 91 (some ⟨4, true, [.pointer none, .pointer none, .pointer none, .string ⟨#[]⟩]⟩) := ⟨_, _, _, type91, rfl, rfl, rfl, underlying91, rfl⟩
theorem lay92 : LayOk prog 92 (some ⟨4, true, [.pointer none, .pointer none, .pointer none, .string ⟨#[]⟩]⟩) := ⟨_, _, _, type92, rfl, rfl, rfl, underlying92, rfl⟩
theorem lay96 : LayOk prog 96 (some ⟨1, false, [.int .u32 0]⟩) := ⟨_, _, _, type96, rfl, rfl, rfl, underlying96, rfl⟩
theorem lay97 : LayOk prog 97 (some ⟨1, false, [.int .u8 0]⟩) := ⟨_, _, _, type97, rfl, rfl, rfl, underlying97, rfl⟩
theorem lay98 : LayOk prog 98 (some ⟨1, false, [.int .u8 0]⟩) := ⟨_, _, _, type98, rfl, rfl, rfl, underlying98, rfl⟩
theorem lay100 : LayOk prog 100 (some ⟨1, false, [.pointer none]⟩) := ⟨_, _, _, type100, rfl, rfl, rfl, underlying100, rfl⟩
theorem lay101 : LayOk prog 101 (some ⟨1, false, [.int .i32 0]⟩) := ⟨_, _, _, type101, rfl, rfl, rfl, underlying101, rfl⟩
theorem lay102 : LayOk prog 102 (some ⟨1, false, [.int .i32 0]⟩) := ⟨_, _, _, type102, rfl, rfl, rfl, underlying102, rfl⟩
theorem cmp39 : CmpOk prog 39 (some [.int .i64, .int .i64, .int .i64]) := ⟨by kernel_rfl, by kernel_rfl, _, underlying39⟩
theorem cmp60 : CmpOk prog 60 (some [.int .i64, .int .i64, .int .i64, .int .i64]) := ⟨by kernel_rfl, by kernel_rfl, _, underlying60⟩
theorem tabOk : TabOk prog uni tab := tab_of (l1 := tyL) (l2 := layL) (l3 := cmpL) ⟨ty2, ty3, ty4, ty5, ty6, ty7, ty8, ty9, ty10, ty11, ty12, ty13, ty14, ty18, ty19, ty21, ty22, ty24, ty27, ty34, ty38, ty39, ty44, ty47, ty50, ty51, ty53, ty54, ty55, ty59, ty60, ty66, ty68, ty69, ty70, ty74, ty76, ty77, ty78, ty79, ty81, ty82, ty88, ty89, ty91, ty92, ty96, ty97, ty98, ty101, ty102, trivial⟩ ⟨lay2, lay3, lay4, lay5, lay6, lay7, lay8, lay9, lay10, lay11, lay12, lay13, lay14, lay15, lay16, lay17, lay18, lay19, lay21, lay22, lay24, lay27, lay34, lay38, lay39, lay44, lay47, lay50, lay51, lay53, lay54, lay55, lay59, lay60, lay62, lay66, lay68, lay69, lay70, lay74, lay76, lay77, lay78, lay79, lay81, lay82, lay88, lay89, lay91, lay92, lay96, lay97, lay98, lay100, lay101, lay102, trivial⟩ ⟨cmp39, cmp60, trivial⟩
theorem dec0_ok (cs : List (T El)) (x : S50) (h : dec0 cs = some x) : ([.lit (.bool x.f0), .lit (.int .i64 x.f1), .lit (.int .i64 x.f2), .lit (.int .i64 x.f3)] : List (T El)) = cs := by
  unfold dec0 at h
  split at h
  · injection h with h; subst h; rfl
  · simp at h
theorem one0 (x : S50) (v : Value) (h : T.lit v ∈ ([.lit (.bool x.f0), .lit (.int .i64 x.f1), .lit (.int .i64 x.f2), .lit (.int .i64 x.f3)] : List (T El))) : v.oneCell' = true := by
  simp at h
  rcases h with rfl | rfl | rfl | rfl <;> rfl
theorem flat0 (x : S50) (t : T El) (h : t ∈ ([.lit (.bool x.f0), .lit (.int .i64 x.f1), .lit (.int .i64 x.f2), .lit (.int .i64 x.f3)] : List (T El))) : ∃ v, t = .lit v := by
  simp at h
  rcases h with rfl | rfl | rfl | rfl <;> exact ⟨_, rfl⟩
theorem dec1_ok (cs : List (T El)) (x : S59) (h : dec1 cs = some x) : ([.lit (.int .i64 x.f0), .lit (.int .i64 x.f1), .lit (.int .i64 x.f2), .lit (.int .i64 x.f3)] : List (T El)) = cs := by
  unfold dec1 at h
  split at h
  · injection h with h; subst h; rfl
  · simp at h
theorem one1 (x : S59) (v : Value) (h : T.lit v ∈ ([.lit (.int .i64 x.f0), .lit (.int .i64 x.f1), .lit (.int .i64 x.f2), .lit (.int .i64 x.f3)] : List (T El))) : v.oneCell' = true := by
  simp at h
  rcases h with rfl | rfl | rfl | rfl <;> rfl
theorem flat1 (x : S59) (t : T El) (h : t ∈ ([.lit (.int .i64 x.f0), .lit (.int .i64 x.f1), .lit (.int .i64 x.f2), .lit (.int .i64 x.f3)] : List (T El))) : ∃ v, t = .lit v := by
  simp at h
  rcases h with rfl | rfl | rfl | rfl <;> exact ⟨_, rfl⟩
theorem dec2_ok (cs : List (T El)) (x : S50) (h : dec2 cs = some x) : ([.lit (.bool x.f0), .lit (.int .i64 x.f1), .lit (.int .i64 x.f2), .lit (.int .i64 x.f3)] : List (T El)) = cs := by
  unfold dec2 at h
  split at h
  · injection h with h; subst h; rfl
  · simp at h
theorem one2 (x : S50) (v : Value) (h : T.lit v ∈ ([.lit (.bool x.f0), .lit (.int .i64 x.f1), .lit (.int .i64 x.f2), .lit (.int .i64 x.f3)] : List (T El))) : v.oneCell' = true := by
  simp at h
  rcases h with rfl | rfl | rfl | rfl <;> rfl
theorem flat2 (x : S50) (t : T El) (h : t ∈ ([.lit (.bool x.f0), .lit (.int .i64 x.f1), .lit (.int .i64 x.f2), .lit (.int .i64 x.f3)] : List (T El))) : ∃ v, t = .lit v := by
  simp at h
  rcases h with rfl | rfl | rfl | rfl <;> exact ⟨_, rfl⟩
theorem dec3_ok (cs : List (T El)) (x : Int) (h : dec3 cs = some x) : ([.lit (.int .u8 x)] : List (T El)) = cs := by
  unfold dec3 at h
  split at h
  · injection h with h; subst h; rfl
  · simp at h
theorem one3 (x : Int) (v : Value) (h : T.lit v ∈ ([.lit (.int .u8 x)] : List (T El))) : v.oneCell' = true := by
  simp at h
  subst h; rfl
theorem flat3 (x : Int) (t : T El) (h : t ∈ ([.lit (.int .u8 x)] : List (T El))) : ∃ v, t = .lit v := by
  simp at h
  subst h; exact ⟨_, rfl⟩
theorem dec4_ok (cs : List (T El)) (x : S38) (h : dec4 cs = some x) : ([.lit (.int .i64 x.f0), .lit (.int .i64 x.f1), .lit (.int .i64 x.f2)] : List (T El)) = cs := by
  unfold dec4 at h
  split at h
  · injection h with h; subst h; rfl
  · simp at h
theorem one4 (x : S38) (v : Value) (h : T.lit v ∈ ([.lit (.int .i64 x.f0), .lit (.int .i64 x.f1), .lit (.int .i64 x.f2)] : List (T El))) : v.oneCell' = true := by
  simp at h
  rcases h with rfl | rfl | rfl <;> rfl
theorem flat4 (x : S38) (t : T El) (h : t ∈ ([.lit (.int .i64 x.f0), .lit (.int .i64 x.f1), .lit (.int .i64 x.f2)] : List (T El))) : ∃ v, t = .lit v := by
  simp at h
  rcases h with rfl | rfl | rfl <;> exact ⟨_, rfl⟩
theorem dec5_ok (cs : List (T El)) (x : S69) (h : dec5 cs = some x) : ([.row 6 x.f0, .lit (.int .i64 x.f1), .lit (.int .i64 x.f2), .lit (.bool x.f3), .lit (.bool x.f4), .lit (.int .i64 x.f5), .lit (.int .i64 x.f6), .lit (.int .i64 x.f7), .lit (.int .i64 x.f8)] : List (T El)) = cs := by
  unfold dec5 at h
  split at h
  · injection h with h; subst h; rfl
  · simp at h
theorem one5 (x : S69) (v : Value) (h : T.lit v ∈ ([.row 6 x.f0, .lit (.int .i64 x.f1), .lit (.int .i64 x.f2), .lit (.bool x.f3), .lit (.bool x.f4), .lit (.int .i64 x.f5), .lit (.int .i64 x.f6), .lit (.int .i64 x.f7), .lit (.int .i64 x.f8)] : List (T El))) : v.oneCell' = true := by
  simp at h
  rcases h with rfl | rfl | rfl | rfl | rfl | rfl | rfl | rfl <;> rfl
theorem dec6_ok (cs : List (T El)) (x : Int) (h : dec6 cs = some x) : ([.lit (.int .i64 x)] : List (T El)) = cs := by
  unfold dec6 at h
  split at h
  · injection h with h; subst h; rfl
  · simp at h
theorem one6 (x : Int) (v : Value) (h : T.lit v ∈ ([.lit (.int .i64 x)] : List (T El))) : v.oneCell' = true := by
  simp at h
  subst h; rfl
theorem flat6 (x : Int) (t : T El) (h : t ∈ ([.lit (.int .i64 x)] : List (T El))) : ∃ v, t = .lit v := by
  simp at h
  subst h; exact ⟨_, rfl⟩
theorem dec7_ok (cs : List (T El)) (x : (List S76)) (h : dec7 cs = some x) : ([.row 8 x] : List (T El)) = cs := by
  unfold dec7 at h
  split at h
  · injection h with h; subst h; rfl
  · simp at h
theorem one7 (x : (List S76)) (v : Value) (h : T.lit v ∈ ([.row 8 x] : List (T El))) : v.oneCell' = true := by
  simp at h
theorem dec8_ok (cs : List (T El)) (x : S76) (h : dec8 cs = some x) : ([.lit (.int .i64 x.f0), .lit (.bool x.f1), .lit (.int .i64 x.f2), .lit (.int .i64 x.f3), .lit (.int .i64 x.f4), .lit (.int .i64 x.f5)] : List (T El)) = cs := by
  unfold dec8 at h
  split at h
  · injection h with h; subst h; rfl
  · simp at h
theorem one8 (x : S76) (v : Value) (h : T.lit v ∈ ([.lit (.int .i64 x.f0), .lit (.bool x.f1), .lit (.int .i64 x.f2), .lit (.int .i64 x.f3), .lit (.int .i64 x.f4), .lit (.int .i64 x.f5)] : List (T El))) : v.oneCell' = true := by
  simp at h
  rcases h with rfl | rfl | rfl | rfl | rfl | rfl <;> rfl
theorem flat8 (x : S76) (t : T El) (h : t ∈ ([.lit (.int .i64 x.f0), .lit (.bool x.f1), .lit (.int .i64 x.f2), .lit (.int .i64 x.f3), .lit (.int .i64 x.f4), .lit (.int .i64 x.f5)] : List (T El))) : ∃ v, t = .lit v := by
  simp at h
  rcases h with rfl | rfl | rfl | rfl | rfl | rfl <;> exact ⟨_, rfl⟩
theorem uniOk : UniOk uni where
  len k x := match k, x with
    | 0, x => rfl
    | 1, x => rfl
    | 2, x => rfl
    | 3, x => rfl
    | 4, x => rfl
    | 5, x => rfl
    | 6, x => rfl
    | 7, x => rfl
    | 8, x => rfl
    | k + 9, x => rfl
  dec k cs x h := match k, x, h with
    | 0, x, h => dec0_ok cs x h
    | 1, x, h => dec1_ok cs x h
    | 2, x, h => dec2_ok cs x h
    | 3, x, h => dec3_ok cs x h
    | 4, x, h => dec4_ok cs x h
    | 5, x, h => dec5_ok cs x h
    | 6, x, h => dec6_ok cs x h
    | 7, x, h => dec7_ok cs x h
    | 8, x, h => dec8_ok cs x h
    | k + 9, x, h => by cases h
  one k x v h := match k, x, h with
    | 0, x, h => one0 x v h
    | 1, x, h => one1 x v h
    | 2, x, h => one2 x v h
    | 3, x, h => one3 x v h
    | 4, x, h => one4 x v h
    | 5, x, h => one5 x v h
    | 6, x, h => one6 x v h
    | 7, x, h => one7 x v h
    | 8, x, h => one8 x v h
    | k + 9, x, h => by cases h
  flat k x hn t h := match k, x, hn, h with
    | 0, x, hn, h => flat0 x t h
    | 1, x, hn, h => flat1 x t h
    | 2, x, hn, h => flat2 x t h
    | 3, x, hn, h => flat3 x t h
    | 4, x, hn, h => flat4 x t h
    | 5, x, hn, h => by cases hn
    | 6, x, hn, h => flat6 x t h
    | 7, x, hn, h => by cases hn
    | 8, x, hn, h => flat8 x t h
    | k + 9, x, hn, h => by cases h
theorem mixed : prog.follows .mixedOrders = true := by kernel_rfl
end Go.Proofs.Ytpingihfadihfaa.AX

/- What a law's arguments are in the small machine: memory that is read, told. No conditions. (under way) -/
namespace Go.Proofs.Ytpingihfadihfaa.AX
open Go Go.RowKit

inductive Cl where
  | int (k : IntKind)
  | bool
  | str
  | row (k : Nat)

section
variable {U : Uni}

def TOf (R : (k : Nat) → List (U.El k) → Prop) : Cl → T U.El → Prop
  | .int k, .lit (.int k' n) => k' = k ∧ (Lit.int k n).wf = true
  | .bool, .lit (.bool _) => True
  | .str, .lit (.string s) => s.size ≤ maxLen
  | .row k, .row k' l => ∃ h : k' = k, R k (h ▸ l)
  | _, _ => False

def TsOf (R : (k : Nat) → List (U.El k) → Prop) : List Cl → List (T U.El) → Prop
  | [], [] => True
  | c :: cs, t :: ts => TOf R c t ∧ TsOf R cs ts
  | _, _ => False


def ElOk (ky : Nat → List Cl) : Nat → (k : Nat) → U.El k → Prop
  | 0, _, _ => True
  | n + 1, k, x => TsOf (fun k l => l.length ≤ maxLen ∧ ∀ x ∈ l, ElOk ky n k x) (ky k) (U.enc k x)

def RowOk (ky : Nat → List Cl) (n : Nat) (k : Nat) (l : List (U.El k)) : Prop := l.length ≤ maxLen ∧ ∀ x ∈ l, ElOk ky n k x

mutual
inductive Flat (P : Program) (U : Uni) (ky : Nat → List Cl) : TypeId → List Cl → Prop where
  | int (t k) (h : P.underlying t = some (.int k)) : Flat P U ky t [.int k]
  | bool (t) (h : P.underlying t = some .bool) : Flat P U ky t [.bool]
  | str (t) (h : P.underlying t = some .string) : Flat P U ky t [.str]
  | slice (t k) (h : P.underlying t = some (.slice (U.ty k))) (hg : ky k ≠ []) : Flat P U ky t [.row k]
  | struct (t fs cls) (h : P.underlying t = some (.struct fs)) (hc : P.cellsOf t = cls.length) (hf : FlatL P U ky fs.toList 0 cls) : Flat P U ky t cls
inductive FlatL (P : Program) (U : Uni) (ky : Nat → List Cl) : List Field → Nat → List Cl → Prop where
  | nil (off) : FlatL P U ky [] off []
  | cons (fd r off cls rest) (ho : fd.offset = off) (h : Flat P U ky fd.type cls) (hc : P.cellsOf fd.type = cls.length) (hr : FlatL P U ky r (off + cls.length) rest) : FlatL P U ky (fd :: r) off (cls ++ rest)
end

theorem tsOf_app {R : (k : Nat) → List (U.El k) → Prop} : ∀ {c1 c2 : List Cl} {t1 t2 : List (T U.El)}, TsOf R c1 t1 → TsOf R c2 t2 → TsOf R (c1 ++ c2) (t1 ++ t2)
  | [], _, [], _, _, h => h
  | c :: cs, _, t :: ts, _, h, h' => ⟨h.1, tsOf_app h.2 h'⟩
  | [], _, _ :: _, _, h, _ => h.elim
  | _ :: _, _, [], _, h, _ => h.elim

theorem tsOf_len {R : (k : Nat) → List (U.El k) → Prop} : ∀ {cs : List Cl} {ts : List (T U.El)}, TsOf R cs ts → ts.length = cs.length
  | [], [], _ => rfl
  | _ :: _, _ :: _, h => by simp [tsOf_len h.2]
  | [], _ :: _, h => h.elim
  | _ :: _, [], h => h.elim

theorem choose_list {α : Type} {Q : Nat → α → Prop} : ∀ {n : Nat}, (∀ i, i < n → ∃ x, Q i x) → ∃ l : List α, l.length = n ∧ ∀ i x, l[i]? = some x → Q i x
  | 0, _ => ⟨[], rfl, fun i x h => by simp at h⟩
  | n + 1, h => by
    obtain ⟨l, h1, h2⟩ := choose_list (n := n) fun i hi => h i (by omega)
    obtain ⟨x, hx⟩ := h n (by omega)
    refine ⟨l ++ [x], by simp [h1], fun i y hy => ?_⟩
    rcases Nat.lt_trichotomy i n with hi | hi | hi
    · rw [List.getElem?_append_left (by omega)] at hy; exact h2 i y hy
    · subst hi
      rw [List.getElem?_append_right (by omega), h1] at hy
      simp at hy; subst hy; exact hx
    · rw [List.getElem?_eq_none (by simp [h1]; omega)] at hy; simp at hy

structure Kinds (P : Program) (U : Uni) (ky : Nat → List Cl) : Prop where
  flat : ∀ k, ky k ≠ [] → Flat P U ky (U.ty k) (ky k)
  size : ∀ k, ky k ≠ [] → P.cellsOf (U.ty k) = U.sz k
  full : ∀ k ts R, ky k ≠ [] → TsOf R (ky k) ts → ∃ x, U.enc k x = ts

section
variable {k0 : Nat} {P : Program} {ky : Nat → List Cl} {H : Type} {enc : TypeId × Value → H} {w : World} {base : Nat} {spare : Nat → Bool} {held : Bool}

theorem repL_mono {d d' : Nat} (hd : d ≤ d') {cs : List Value} {ts : List (T U.El)} {F : List Nat} (h : RepL (RepT false d w) cs ts F) : RepL (RepT false d' w) cs ts F := h.imp fun v t G h _ => RepT.mono h hd

theorem flatL_ok {fuel : Nat} (ih : ∀ {t : TypeId} {cls : List Cl} {cs : List Value} {x : DataW H × List MemPlace}, Flat P U ky t cls → DataW.trod enc P w base spare held fuel t cs = some x → ∃ ts F, RepL (RepT false fuel w) cs ts F ∧ ∀ n, TsOf (RowOk (U := U) ky n) cls ts) {cs : List Value} :
    ∀ {fs : List Field} {off : Nat} {cls : List Cl}, FlatL P U ky fs off cls → (∀ (i : Nat) (f : Field), fs[i]? = some f → ∃ y, DataW.trod enc P w base spare held fuel f.type ((cs.drop f.offset).take (P.cellsOf f.type)) = some y) →
      ∃ ts F, RepL (RepT false fuel w) ((cs.drop off).take cls.length) ts F ∧ ∀ n, TsOf (RowOk (U := U) ky n) cls ts
  | _, _, _, .nil off, _ => ⟨[], [], by simp [RepL], fun n => trivial⟩
  | _, _, _, .cons fd r off cls rest ho h hc hr, hf => by
    obtain ⟨y, hy⟩ := hf 0 fd rfl
    obtain ⟨t1, F1, a1, a2⟩ := ih h hy
    obtain ⟨t2, F2, b1, b2⟩ := flatL_ok ih hr fun i f hi => hf (i + 1) f (by simpa using hi)
    refine ⟨t1 ++ t2, F1 ++ F2, ?_, fun n => tsOf_app (a2 n) (b2 n)⟩
    have : (cs.drop off).take (cls ++ rest).length = (cs.drop fd.offset).take (P.cellsOf fd.type) ++ (cs.drop (off + cls.length)).take rest.length := by
      rw [ho, hc, List.length_append, ← List.drop_drop, List.take_add]
    rw [this]
    exact a1.join b1

theorem flat_cells {a : Addr} {sz : Nat} : ∀ {L : List (List Value × U.El k0 × List Nat)} {st : Nat}, (∀ i t, L[i]? = some t → t.1.length = sz ∧ ∀ c u, t.1[c]? = some u → w.cell? (a.add ((st + i) * sz + c)) = some u) → ∀ j u, (L.flatMap (·.1))[j]? = some u → w.cell? (a.add (st * sz + j)) = some u
  | [], st, h, j, u, hj => by simp at hj
  | t :: L, st, h, j, u, hj => by
    obtain ⟨h1, h2⟩ := h 0 t rfl
    rw [List.flatMap_cons] at hj
    rcases Nat.lt_or_ge j sz with hlt | hge
    · rw [List.getElem?_append_left (by omega)] at hj
      exact h2 j u hj
    · rw [List.getElem?_append_right (by omega), h1] at hj
      have := flat_cells (L := L) (st := st + 1) (fun i t ht => by
        have := h (i + 1) t (by simpa using ht)
        rw [show st + (i + 1) = st + 1 + i by omega] at this; exact this) (j - sz) u hj
      rw [show st * sz + j = (st + 1) * sz + (j - sz) by rw [Nat.add_mul]; omega]
      exact this

theorem flat_rep {fuel : Nat} {k : Nat} : ∀ {L : List (List Value × U.El k × List Nat)}, (∀ t ∈ L, RepL (RepT false fuel w) t.1 (U.enc k t.2.1) t.2.2) → RepL (RepT false fuel w) (L.flatMap (·.1)) ((L.map (·.2.1)).flatMap (U.enc k)) (L.flatMap (·.2.2))
  | [], _ => by simp [RepL]
  | t :: L, h => by
    simp only [List.flatMap_cons, List.map_cons]
    exact (h t (by simp)).join (flat_rep fun t ht => h t (by simp [ht]))

theorem trod_flat (hK : Kinds P U ky) : ∀ (fuel : Nat) {t : TypeId} {cls : List Cl} {cs : List Value} {x : DataW H × List MemPlace}, Flat P U ky t cls → DataW.trod enc P w base spare held fuel t cs = some x → ∃ ts F, RepL (RepT false fuel w) cs ts F ∧ ∀ n, TsOf (RowOk (U := U) ky n) cls ts
  | 0, t, cls, cs, x, _, h => by simp [DataW.trod] at h
  | fuel + 1, t, cls, cs, x, hfl, h => by
    cases hfl with
    | int _ k hu =>
      obtain ⟨n, rfl, _, hw⟩ := DataW.trod_int hu h
      exact ⟨[.lit (.int k n)], [], by simp [RepL, RepT], fun _ => ⟨⟨rfl, hw⟩, trivial⟩⟩
    | bool _ hu =>
      obtain ⟨b, rfl, _⟩ := DataW.trod_bool hu h
      exact ⟨[.lit (.bool b)], [], by simp [RepL, RepT], fun _ => ⟨trivial, trivial⟩⟩
    | str _ hu =>
      obtain ⟨b, rfl, _, hs⟩ := DataW.trod_string hu h
      exact ⟨[.lit (.string b)], [], by simp [RepL, RepT], fun _ => ⟨hs, trivial⟩⟩
    | struct _ fs _ hu hcl hf =>
      obtain ⟨xs, n, e, rfl, hl, hxl, hx⟩ := DataW.trod_struct hu h
      injection e with e; subst e
      obtain ⟨ts, F, a1, a2⟩ := flatL_ok (fun hfl h => trod_flat hK fuel hfl h) hf fun i f hi => by
        have hi' : fs[i]? = some f := by rw [← Array.getElem?_toList]; exact hi
        have hlt : i < xs.length := by rw [hxl]; exact (Array.getElem?_eq_some_iff.1 hi').1
        have := hx i f hi'
        rw [List.getElem?_eq_getElem hlt] at this
        exact ⟨_, this⟩
      rw [List.drop_zero] at a1
      have hlen := a1.len
      have h2 := tsOf_len (a2 0)
      refine ⟨ts, F, ?_, a2⟩
      have : cs.take cls.length = cs := by
        apply List.take_of_length_le
        rw [hl, hcl]; exact Nat.le_refl _
      rw [this] at a1
      exact repL_mono (Nat.le_succ _) a1
    | slice _ k hu hg =>
      rcases DataW.trod_slice hu h with ⟨rfl, _⟩ | ⟨a, len, cap, elems, rest, n, e, rfl, rfl, hb, hl, hm, hlen, hel, _, _⟩
      · exact ⟨[.row k []], [], ⟨[], [], ⟨[], [], [], ⟨none, 0, rfl, Nat.le_refl _, Nat.zero_le _, by simp, by simp, fun h => absurd rfl h⟩, by simp [RepL], rfl, fun h => by simp at h⟩, by simp [RepL], rfl⟩, fun n => ⟨⟨rfl, Nat.zero_le _, fun x hx => by simp at hx⟩, trivial⟩⟩
      · injection e with e; subst e
        obtain ⟨L, hL1, hL2⟩ := choose_list (n := len) (Q := fun i (t : List Value × U.El k × List Nat) => w.cells? base (a.add (i * P.cellsOf (U.ty k))) (P.cellsOf (U.ty k)) = some t.1 ∧ RepL (RepT false fuel w) t.1 (U.enc k t.2.1) t.2.2 ∧ ∀ n, TsOf (RowOk ky n) (ky k) (U.enc k t.2.1)) fun i hi => by
          have hi' : i < elems.length := by omega
          have := hel i hi
          rw [List.getElem?_eq_getElem hi', Option.bind_eq_some_iff] at this
          obtain ⟨cs, h1, h2⟩ := this
          obtain ⟨ts, F, h3, h4⟩ := trod_flat hK fuel (hK.flat k hg) h2
          obtain ⟨x, hx⟩ := hK.full k ts _ hg (h4 0)
          subst hx
          exact ⟨(cs, x, F), h1, h3, h4⟩
        have hsz := hK.size k hg
        have hcells := flat_cells (w := w) (a := a) (sz := U.sz k) (L := L) (st := 0) fun i t ht => by
          obtain ⟨h1, _⟩ := hL2 i t ht
          obtain ⟨_, h2, h3⟩ := World.cells?_some h1
          rw [hsz] at h2 h3
          refine ⟨h2, fun c u hc => ?_⟩
          have hlt : c < U.sz k := by rw [← h2]; exact (List.getElem?_eq_some_iff.1 hc).1
          have := h3 c hlt
          rw [hc, add_add] at this
          rw [Nat.zero_add]; exact this
        have hlenc : (L.flatMap (·.1)).length = len * U.sz k := by
          rw [← hL1]
          have : ∀ t ∈ L, t.1.length = U.sz k := fun t ht => by
            obtain ⟨i, hi⟩ := List.getElem?_of_mem ht
            have := (World.cells?_some (hL2 i t hi).1).2.1
            rw [hsz] at this; exact this
          clear hL2 hcells hL1
          induction L with
          | nil => simp
          | cons t L ih =>
            rw [List.flatMap_cons, List.length_append, this t (by simp), ih fun t ht => this t (by simp [ht]), List.length_cons, Nat.add_mul]; omega
        have hrep := flat_rep (w := w) (fuel := fuel) (L := L) fun t ht => by
          obtain ⟨i, hi⟩ := List.getElem?_of_mem ht
          exact (hL2 i t hi).2.1
        refine ⟨[.row k (L.map (·.2.1))], _, ⟨_, [], ⟨L.flatMap (·.1), _, _, ⟨some a, cap, by simp [hL1], by simpa [hL1] using hl, hm, by simp [hL1, hlenc], rfl, fun _ => ⟨a, rfl, fun j u hj => by simpa using hcells j u hj⟩⟩, hrep, rfl, fun h => by simp at h⟩, by simp [RepL], rfl⟩, fun n => ⟨⟨rfl, ?_, fun x hx => ?_⟩, trivial⟩⟩
        · simp only [List.length_map, hL1]; omega
        · obtain ⟨t, ht, rfl⟩ := List.mem_map.1 hx
          obtain ⟨i, hi⟩ := List.getElem?_of_mem ht
          cases n with
          | zero => trivial
          | succ n => exact (hL2 i t hi).2.2 n

end

end
end Go.Proofs.Ytpingihfadihfaa.AX

/- From a law's arguments to the small machine, and back. No conditions. -/
namespace Go.Proofs.Ytpingihfadihfaa.AX
open Go Go.RowKit Go.WideShapes

section
variable {U : Uni} {P : Program} {ky : Nat → List Cl} {H : Type} {enc : TypeId × Value → H} {w : World} {base : Nat} {spare : Nat → Bool} {held : Bool}

theorem below_of {w' : World} (h : Fr w [] w') : Below w.heap.size w w' := ⟨h.os, h.tape, h.output, h.size, fun k hk => h.block k hk (by simp)⟩

/-- An argument that is a slice. -/
theorem open_slice (hK : Kinds P U ky) {r : Reach} {b0 : Nat} {t : TypeId} {k : Nat} {v : Value} {d : DataW H} {ps : List MemPlace} (ht : P.underlying t = some (.slice (U.ty k))) (hg : ky k ≠ []) (hval : Value.okWide P w r b0 t v) (h : DataW.Trod enc P w base spare held t v d ps) :
    ∃ (l : List (U.El k)) (F : List Nat), AIn w (.row k 0) (.row k l) v [] F ∧ ∀ n, RowOk ky n k l := by
  obtain ⟨a, len, cap, rfl⟩ := okWide_slice ht hval
  obtain ⟨fuel, hf⟩ := h
  obtain ⟨ts, F, h1, h2⟩ := trod_flat hK fuel (.slice t k ht hg) hf
  have h0 := h2 0
  match ts, h0, h1, h2 with
  | [.row k' l], ⟨⟨e, _⟩, _⟩, h1, h2 =>
    subst e
    obtain ⟨G1, G2, g1, g2, rfl⟩ := h1
    exact ⟨l, G1, ⟨⟨fuel, g1⟩, rfl⟩, fun n => by obtain ⟨⟨_, h⟩, _⟩ := h2 n; exact h⟩

def pfC : Cl → PF
  | .row k => .row k 0
  | _ => .sc
def dvT : T U.El → DV U
  | .lit v => .val v
  | .row k l => .row k l

theorem csIn_of {n : Nat} {R : (k : Nat) → List (U.El k) → Prop} : ∀ {cls : List Cl} {ts : List (T U.El)} {vs : List Value} {F : List Nat}, TsOf R cls ts → RepL (RepT false n w) vs ts F → CsIn w (cls.map pfC) (ts.map dvT) vs [] F
  | [], [], [], F, _, h => ⟨rfl, h⟩
  | c :: cls, t :: ts, v :: vs, F, h, h' => by
    obtain ⟨F1, F2, g1, g2, rfl⟩ := h'
    refine ⟨[], [], F1, F2, ?_, csIn_of h.2 g2, rfl, rfl⟩
    have hc := h.1
    match c, t, hc, g1 with
    | .int k, .lit (.int k' m), _, g1 => simp only [RepT] at g1; exact ⟨g1.1, rfl, g1.2⟩
    | .bool, .lit (.bool b), _, g1 => simp only [RepT] at g1; exact ⟨g1.1, rfl, g1.2⟩
    | .str, .lit (.string b), _, g1 => simp only [RepT] at g1; exact ⟨g1.1, rfl, g1.2⟩
    | .row k, .row k' l, ⟨e, _⟩, g1 => subst e; exact ⟨⟨n, g1⟩, rfl⟩
  | [], _ :: _, _, _, h, _ => h.elim
  | _ :: _, [], _, _, h, _ => h.elim
  | [], [], _ :: _, _, _, h => h.elim
  | _ :: _, _ :: _, [], _, _, h => h.elim

/-- An argument that is a struct. -/
theorem open_parts (hK : Kinds P U ky) {r : Reach} {b0 : Nat} {t : TypeId} {fs : Array Field} {cls : List Cl} {v : Value} {d : DataW H} {ps : List MemPlace} (ht : P.underlying t = some (.struct fs)) (hfl : Flat P U ky t cls) (hval : Value.okWide P w r b0 t v) (h : DataW.Trod enc P w base spare held t v d ps) :
    ∃ (ts : List (T U.El)) (F : List Nat), AIn w (.agg (cls.map pfC)) (.agg (ts.map dvT)) v [] F ∧ ∀ n, TsOf (RowOk (U := U) ky n) cls ts := by
  obtain ⟨cs, rfl, _⟩ := okWide_struct ht hval
  obtain ⟨fuel, hf⟩ := h
  obtain ⟨ts, F, h1, h2⟩ := trod_flat hK fuel hfl hf
  exact ⟨ts, F, ⟨cs.toList, rfl, csIn_of (h2 0) h1⟩, h2⟩

end
end Go.Proofs.Ytpingihfadihfaa.AX

/- How this program's values lie. No conditions. -/
namespace Go.Proofs.Ytpingihfadihfaa.AX
open Go Go.Proofs.Try
def ky : Nat → List Cl := look [] [(0, [.bool, .int .i64, .int .i64, .int .i64]), (1, [.int .i64, .int .i64, .int .i64, .int .i64]), (2, [.bool, .int .i64, .int .i64, .int .i64]), (3, [.int .u8]), (4, [.int .i64, .int .i64, .int .i64]), (5, [.row 6, .int .i64, .int .i64, .bool, .bool, .int .i64, .int .i64, .int .i64, .int .i64]), (6, [.int .i64]), (7, [.row 8]), (8, [.int .i64, .bool, .int .i64, .int .i64, .int .i64, .int .i64])]
theorem flat4t : Flat prog uni ky 4 [.bool] := .bool 4 underlying4
theorem flat3t : Flat prog uni ky 3 [.int .i64] := .int 3 .i64 underlying3
theorem flat53t : Flat prog uni ky 53 [.bool, .int .i64, .int .i64, .int .i64] := .struct 53 _ [.bool, .int .i64, .int .i64, .int .i64] underlying53 rfl (.cons _ _ _ [.bool] _ rfl flat4t rfl (.cons _ _ _ [.int .i64] _ rfl flat3t rfl (.cons _ _ _ [.int .i64] _ rfl flat3t rfl (.cons _ _ _ [.int .i64] _ rfl flat3t rfl (.nil _)))))
theorem flat60t : Flat prog uni ky 60 [.int .i64, .int .i64, .int .i64, .int .i64] := .struct 60 _ [.int .i64, .int .i64, .int .i64, .int .i64] underlying60 rfl (.cons _ _ _ [.int .i64] _ rfl flat3t rfl (.cons _ _ _ [.int .i64] _ rfl flat3t rfl (.cons _ _ _ [.int .i64] _ rfl flat3t rfl (.cons _ _ _ [.int .i64] _ rfl flat3t rfl (.nil _)))))
theorem flat51t : Flat prog uni ky 51 [.bool, .int .i64, .int .i64, .int .i64] := .struct 51 _ [.bool, .int .i64, .int .i64, .int .i64] underlying51 rfl (.cons _ _ _ [.bool] _ rfl flat4t rfl (.cons _ _ _ [.int .i64] _ rfl flat3t rfl (.cons _ _ _ [.int .i64] _ rfl flat3t rfl (.cons _ _ _ [.int .i64] _ rfl flat3t rfl (.nil _)))))
theorem flat5t : Flat prog uni ky 5 [.int .u8] := .int 5 .u8 underlying5
theorem flat39t : Flat prog uni ky 39 [.int .i64, .int .i64, .int .i64] := .struct 39 _ [.int .i64, .int .i64, .int .i64] underlying39 rfl (.cons _ _ _ [.int .i64] _ rfl flat3t rfl (.cons _ _ _ [.int .i64] _ rfl flat3t rfl (.cons _ _ _ [.int .i64] _ rfl flat3t rfl (.nil _))))
theorem flat68t : Flat prog uni ky 68 [.row 6] := .slice 68 6 underlying68 (List.cons_ne_nil _ _)
theorem flat70t : Flat prog uni ky 70 [.row 6, .int .i64, .int .i64, .bool, .bool, .int .i64, .int .i64, .int .i64, .int .i64] := .struct 70 _ [.row 6, .int .i64, .int .i64, .bool, .bool, .int .i64, .int .i64, .int .i64, .int .i64] underlying70 rfl (.cons _ _ _ [.row 6] _ rfl flat68t rfl (.cons _ _ _ [.int .i64] _ rfl flat3t rfl (.cons _ _ _ [.int .i64] _ rfl flat3t rfl (.cons _ _ _ [.bool] _ rfl flat4t rfl (.cons _ _ _ [.bool, .int .i64, .int .i64, .int .i64] _ rfl flat51t rfl (.cons _ _ _ [.int .i64] _ rfl flat3t rfl (.nil _)))))))
theorem flat79t : Flat prog uni ky 79 [.row 8] := .slice 79 8 underlying79 (List.cons_ne_nil _ _)
theorem flat77t : Flat prog uni ky 77 [.int .i64, .bool, .int .i64, .int .i64, .int .i64, .int .i64] := .struct 77 _ [.int .i64, .bool, .int .i64, .int .i64, .int .i64, .int .i64] underlying77 rfl (.cons _ _ _ [.int .i64] _ rfl flat3t rfl (.cons _ _ _ [.bool] _ rfl flat4t rfl (.cons _ _ _ [.int .i64] _ rfl flat3t rfl (.cons _ _ _ [.int .i64] _ rfl flat3t rfl (.cons _ _ _ [.int .i64] _ rfl flat3t rfl (.cons _ _ _ [.int .i64] _ rfl flat3t rfl (.nil _)))))))
theorem full0 (ts : List (T El)) (R : (k : Nat) → List (El k) → Prop) (h : TsOf (U := uni) R [.bool, .int .i64, .int .i64, .int .i64] ts) : ∃ x : S50, elEnc 0 x = ts :=
  match ts, h with
  | [.lit (.bool x0), .lit (.int k1 x1), .lit (.int k2 x2), .lit (.int k3 x3)], ⟨_, ⟨h1, _⟩, ⟨h2, _⟩, ⟨h3, _⟩, _⟩ => by subst h1; subst h2; subst h3; exact ⟨⟨x0, x1, x2, x3⟩, rfl⟩
theorem full1 (ts : List (T El)) (R : (k : Nat) → List (El k) → Prop) (h : TsOf (U := uni) R [.int .i64, .int .i64, .int .i64, .int .i64] ts) : ∃ x : S59, elEnc 1 x = ts :=
  match ts, h with
  | [.lit (.int k0 x0), .lit (.int k1 x1), .lit (.int k2 x2), .lit (.int k3 x3)], ⟨⟨h0, _⟩, ⟨h1, _⟩, ⟨h2, _⟩, ⟨h3, _⟩, _⟩ => by subst h0; subst h1; subst h2; subst h3; exact ⟨⟨x0, x1, x2, x3⟩, rfl⟩
theorem full2 (ts : List (T El)) (R : (k : Nat) → List (El k) → Prop) (h : TsOf (U := uni) R [.bool, .int .i64, .int .i64, .int .i64] ts) : ∃ x : S50, elEnc 2 x = ts :=
  match ts, h with
  | [.lit (.bool x0), .lit (.int k1 x1), .lit (.int k2 x2), .lit (.int k3 x3)], ⟨_, ⟨h1, _⟩, ⟨h2, _⟩, ⟨h3, _⟩, _⟩ => by subst h1; subst h2; subst h3; exact ⟨⟨x0, x1, x2, x3⟩, rfl⟩
theorem full3 (ts : List (T El)) (R : (k : Nat) → List (El k) → Prop) (h : TsOf (U := uni) R [.int .u8] ts) : ∃ x : Int, elEnc 3 x = ts :=
  match ts, h with
  | [.lit (.int k0 x0)], ⟨⟨h0, _⟩, _⟩ => by subst h0; exact ⟨x0, rfl⟩
theorem full4 (ts : List (T El)) (R : (k : Nat) → List (El k) → Prop) (h : TsOf (U := uni) R [.int .i64, .int .i64, .int .i64] ts) : ∃ x : S38, elEnc 4 x = ts :=
  match ts, h with
  | [.lit (.int k0 x0), .lit (.int k1 x1), .lit (.int k2 x2)], ⟨⟨h0, _⟩, ⟨h1, _⟩, ⟨h2, _⟩, _⟩ => by subst h0; subst h1; subst h2; exact ⟨⟨x0, x1, x2⟩, rfl⟩
theorem full5 (ts : List (T El)) (R : (k : Nat) → List (El k) → Prop) (h : TsOf (U := uni) R [.row 6, .int .i64, .int .i64, .bool, .bool, .int .i64, .int .i64, .int .i64, .int .i64] ts) : ∃ x : S69, elEnc 5 x = ts :=
  match ts, h with
  | [.row k0 x0, .lit (.int k1 x1), .lit (.int k2 x2), .lit (.bool x3), .lit (.bool x4), .lit (.int k5 x5), .lit (.int k6 x6), .lit (.int k7 x7), .lit (.int k8 x8)], ⟨⟨h0, _⟩, ⟨h1, _⟩, ⟨h2, _⟩, _, _, ⟨h5, _⟩, ⟨h6, _⟩, ⟨h7, _⟩, ⟨h8, _⟩, _⟩ => by subst h0; subst h1; subst h2; subst h5; subst h6; subst h7; subst h8; exact ⟨⟨x0, x1, x2, x3, x4, x5, x6, x7, x8⟩, rfl⟩
theorem full6 (ts : List (T El)) (R : (k : Nat) → List (El k) → Prop) (h : TsOf (U := uni) R [.int .i64] ts) : ∃ x : Int, elEnc 6 x = ts :=
  match ts, h with
  | [.lit (.int k0 x0)], ⟨⟨h0, _⟩, _⟩ => by subst h0; exact ⟨x0, rfl⟩
theorem full7 (ts : List (T El)) (R : (k : Nat) → List (El k) → Prop) (h : TsOf (U := uni) R [.row 8] ts) : ∃ x : (List S76), elEnc 7 x = ts :=
  match ts, h with
  | [.row k0 x0], ⟨⟨h0, _⟩, _⟩ => by subst h0; exact ⟨x0, rfl⟩
theorem full8 (ts : List (T El)) (R : (k : Nat) → List (El k) → Prop) (h : TsOf (U := uni) R [.int .i64, .bool, .int .i64, .int .i64, .int .i64, .int .i64] ts) : ∃ x : S76, elEnc 8 x = ts :=
  match ts, h with
  | [.lit (.int k0 x0), .lit (.bool x1), .lit (.int k2 x2), .lit (.int k3 x3), .lit (.int k4 x4), .lit (.int k5 x5)], ⟨⟨h0, _⟩, _, ⟨h2, _⟩, ⟨h3, _⟩, ⟨h4, _⟩, ⟨h5, _⟩, _⟩ => by subst h0; subst h2; subst h3; subst h4; subst h5; exact ⟨⟨x0, x1, x2, x3, x4, x5⟩, rfl⟩
theorem kindsOk : Kinds prog uni ky where
  flat k h := match k, h with
    | 0, _ => flat53t
    | 1, _ => flat60t
    | 2, _ => flat51t
    | 3, _ => flat5t
    | 4, _ => flat39t
    | 5, _ => flat70t
    | 6, _ => flat3t
    | 7, _ => flat79t
    | 8, _ => flat77t
    | k + 9, h => absurd rfl h
  size k h := match k, h with
    | 0, _ => rfl
    | 1, _ => rfl
    | 2, _ => rfl
    | 3, _ => rfl
    | 4, _ => rfl
    | 5, _ => rfl
    | 6, _ => rfl
    | 7, _ => rfl
    | 8, _ => rfl
    | k + 9, h => absurd rfl h
  full k ts R h h' := match k, h, h' with
    | 0, _, h' => full0 ts R h'
    | 1, _, h' => full1 ts R h'
    | 2, _, h' => full2 ts R h'
    | 3, _, h' => full3 ts R h'
    | 4, _, h' => full4 ts R h'
    | 5, _, h' => full5 ts R h'
    | 6, _, h' => full6 ts R h'
    | 7, _, h' => full7 ts R h'
    | 8, _, h' => full8 ts R h'
    | k + 9, h, _ => absurd rfl h
end Go.Proofs.Ytpingihfadihfaa.AX

/- The function 28 of the program in the small machine. No conditions. -/
namespace Go.Proofs.Ytpingihfadihfaa.AX.F28
open Go Go.Proofs.Try
noncomputable def code : Code := bodyOf f28
abbrev Y : Type := (Int × Int)
def cp : Cod uni (List Int) := (cod1 (iRow 3))
def cr : Coz uni (Int × Int) := (cozR (cod1 (iAgg (codD (codC (iInt .i64) (cod1 (iInt .i64)))))) (codD cod0))
noncomputable def es : List (Ent prog uni) := []
theorem get : prog.funcs[28]? = some f28 := by kernel_rfl

noncomputable def F : (List Int) → Option ((Int × Int))
  | p0 =>
  some (0, (Int.tmod ((List.length p0) : Int) 1000))
theorem F.eq : ∀ x, F x = runF (mkE tab es 9 [] []) code [.ro 3] [.box 82 [.same 0 0, .sc, .sc]] [.tmp 2] (Coz.dec cr) (cp.enc x) := fun x => by kernel_rfl
theorem F.owed : owed (mkE (R := (Int × Int)) tab es 9 [] []) code = [] := by kernel_rfl
theorem con : ∀ x y, F x = some y → Con prog 28 [.ro 3] [.box 82 [.same 0 0, .sc, .sc]] (cp.enc x) (cr.enc y).1 (cr.enc y).2 :=
  func_ok (c := code) (n := 9) (pf := [.ro 3]) (res := [.tmp 2]) tabOk uniOk mixed get (by kernel_rfl) (by kernel_rfl) (by kernel_rfl) (by decide) F.eq fun w0 M h x hx => by rw [F.owed] at hx; exact absurd hx List.not_mem_nil
noncomputable def ent : Ent prog uni := Ent.of 28 [.ro 3] [.box 82 [.same 0 0, .sc, .sc]] cp cr F con fun args w => enters_of get (by kernel_rfl) rfl args w
end Go.Proofs.Ytpingihfadihfaa.AX.F28

/- The function 39 of the program in the small machine. No conditions. -/
namespace Go.Proofs.Ytpingihfadihfaa.AX.F39
open Go Go.Proofs.Try
noncomputable def code : Code := bodyOf f39
abbrev Y : Type := (Int × ((Int × Int) × Unit))
def cp : Cod uni (((List Int) × Int × Int) × Int) := (codC (iAgg (codC (iRow 3) (codC (iInt .i64) (cod1 (iInt .i64))))) (cod1 (iInt .i64)))
def cr : Coz uni (Int × ((Int × Int) × Unit)) := (cozRM (cod1 (iInt .i64)) (codC (iAgg (codD (codC (iInt .i64) (cod1 (iInt .i64))))) (codD cod0)))
noncomputable def es : List (Ent prog uni) := []
theorem get : prog.funcs[39]? = some f39 := by kernel_rfl

noncomputable def F : (((List Int) × Int × Int) × Int) → Option ((Int × ((Int × Int) × Unit)))
  | ((p0_0, p0_1, p0_2), p1) =>
  some ((if (p1 < (Go.IntKind.wrap (Go.IntKind.i64 ) (1 + (Go.IntKind.wrap (Go.IntKind.i64 ) (Int.tdiv ((List.length p0_0) : Int) 12))))) then p1 else (Go.IntKind.wrap (Go.IntKind.i64 ) (1 + (Go.IntKind.wrap (Go.IntKind.i64 ) (Int.tdiv ((List.length p0_0) : Int) 12))))), ((p0_1, p0_2), ()))
theorem F.eq : ∀ x, F x = runF (mkE tab es 14 [] []) code [.box 82 [.ro 3, .sc, .sc], .sc] [.sc] [.tmp 4] (Coz.dec cr) (cp.enc x) := fun x => by kernel_rfl
theorem F.owed : owed (mkE (R := (Int × ((Int × Int) × Unit))) tab es 14 [] []) code = [] := by kernel_rfl
theorem con : ∀ x y, F x = some y → Con prog 39 [.box 82 [.ro 3, .sc, .sc], .sc] [.sc] (cp.enc x) (cr.enc y).1 (cr.enc y).2 :=
  func_ok (c := code) (n := 14) (pf := [.box 82 [.ro 3, .sc, .sc], .sc]) (res := [.tmp 4]) tabOk uniOk mixed get (by kernel_rfl) (by kernel_rfl) (by kernel_rfl) (by decide) F.eq fun w0 M h x hx => by rw [F.owed] at hx; exact absurd hx List.not_mem_nil
noncomputable def ent : Ent prog uni := Ent.of 39 [.box 82 [.ro 3, .sc, .sc], .sc] [.sc] cp cr F con fun args w => enters_of get (by kernel_rfl) rfl args w
end Go.Proofs.Ytpingihfadihfaa.AX.F39

/- The function 46 of the program in the small machine. No conditions. -/
namespace Go.Proofs.Ytpingihfadihfaa.AX.F46
open Go Go.Proofs.Try
noncomputable def code : Code := bodyOf f46
abbrev Y : Type := (Int × (Int × Int))
def cp : Cod uni ((List Int) × Int × Int) := (cod1 (iAgg (codC (iRow 3) (codC (iInt .i64) (cod1 (iInt .i64))))))
def cr : Coz uni (Int × (Int × Int)) := (cozRM (cod1 (iInt .i64)) (cod1 (iAgg (codD (codC (iInt .i64) (cod1 (iInt .i64)))))))
noncomputable def es : List (Ent prog uni) := []
theorem get : prog.funcs[46]? = some f46 := by kernel_rfl

noncomputable def F : ((List Int) × Int × Int) → Option ((Int × (Int × Int)))
  | (p0_0, p0_1, p0_2) =>
  let x4 := (Go.IntKind.wrap (Go.IntKind.i64 ) (p0_1 + 1))
  let x5 := ((List.length p0_0) : Int)
  cond (decide (x4 ≤ x5)) (
   let x3 := (Go.IntKind.wrap (Go.IntKind.i64 ) (x4 - 1))
   let x0 := ((decide (0 ≤ x3)) && (decide (x3 < x5)))
   cond x0 (
    cond x0 (
     let x1 := (Go.IntKind.wrap (Go.IntKind.i64 ) (List.getD p0_0 (Int.toNat x3) 0))
     some (x1, (x4, (Int.tmod (Go.IntKind.wrap (Go.IntKind.i64 ) ((Go.IntKind.wrap (Go.IntKind.i64 ) ((Go.IntKind.wrap (Go.IntKind.i64 ) (p0_2 * 31)) + x1)) + 7)) 2147483648)))) none) none) (
   cond (decide (x4 > 3000)) (
    some (0, (x4, p0_2))) (
    let x2 := (Int.tmod (Go.IntKind.wrap (Go.IntKind.i64 ) ((Go.IntKind.wrap (Go.IntKind.i64 ) (p0_2 * 1103515245)) + 12345)) 2147483648)
    some ((Int.tmod (Go.IntKind.wrap (Go.IntKind.i64 ) (Int.tdiv x2 65536)) 256), (x4, x2))))
theorem F.eq : ∀ x, F x = runF (mkE tab es 76 [] []) code [.box 82 [.ro 3, .sc, .sc]] [.sc] [.tmp 2] (Coz.dec cr) (cp.enc x) := fun x => by kernel_rfl
theorem F.owed : owed (mkE (R := (Int × (Int × Int))) tab es 76 [] []) code = [] := by kernel_rfl
theorem con : ∀ x y, F x = some y → Con prog 46 [.box 82 [.ro 3, .sc, .sc]] [.sc] (cp.enc x) (cr.enc y).1 (cr.enc y).2 :=
  func_ok (c := code) (n := 76) (pf := [.box 82 [.ro 3, .sc, .sc]]) (res := [.tmp 2]) tabOk uniOk mixed get (by kernel_rfl) (by kernel_rfl) (by kernel_rfl) (by decide) F.eq fun w0 M h x hx => by rw [F.owed] at hx; exact absurd hx List.not_mem_nil
noncomputable def ent : Ent prog uni := Ent.of 46 [.box 82 [.ro 3, .sc, .sc]] [.sc] cp cr F con fun args w => enters_of get (by kernel_rfl) rfl args w
end Go.Proofs.Ytpingihfadihfaa.AX.F46

/- The function 38 of the program in the small machine. No conditions. -/
namespace Go.Proofs.Ytpingihfadihfaa.AX.F38
open Go Go.Proofs.Try
noncomputable def code : Code := bodyOf f38
abbrev Y : Type := (Int × ((Int × Int) × Unit))
def cp : Cod uni (((List Int) × Int × Int) × Int) := (codC (iAgg (codC (iRow 3) (codC (iInt .i64) (cod1 (iInt .i64))))) (cod1 (iInt .i64)))
def cr : Coz uni (Int × ((Int × Int) × Unit)) := (cozRM (cod1 (iInt .i64)) (codC (iAgg (codD (codC (iInt .i64) (cod1 (iInt .i64))))) (codD cod0)))
noncomputable def es : List (Ent prog uni) := [F46.ent]
theorem get : prog.funcs[38]? = some f38 := by kernel_rfl

noncomputable def F : (((List Int) × Int × Int) × Int) → Option ((Int × ((Int × Int) × Unit)))
  | ((p0_0, p0_1, p0_2), p1) =>
  cond (decide (p1 ≤ 1)) (
   some (0, ((p0_1, p0_2), ()))) (
   let x0 := (F46.F (p0_0, (p0_1, p0_2)))
   cond (decide (p1 ≤ 256)) (
    x0.bind fun y46 =>
    cond (!(decide (p1 = 0))) (
     some ((Int.tmod y46.1 p1), ((y46.2.1, y46.2.2), ()))) none) (
    x0.bind fun y46 =>
    (F46.F (p0_0, (y46.2.1, y46.2.2))).bind fun y46x2 =>
    (F46.F (p0_0, (y46x2.2.1, y46x2.2.2))).bind fun y46x3 =>
    cond (!(decide (p1 = 0))) (
     some ((Int.tmod (Go.IntKind.wrap (Go.IntKind.i64 ) ((Go.IntKind.wrap (Go.IntKind.i64 ) ((Go.IntKind.wrap (Go.IntKind.i64 ) (y46.1 * 65536)) + (Go.IntKind.wrap (Go.IntKind.i64 ) (y46x2.1 * 256)))) + y46x3.1)) p1), ((y46x3.2.1, y46x3.2.2), ()))) none))
theorem F.eq : ∀ x, F x = runF (mkE tab es 31 [] []) code [.box 82 [.ro 3, .sc, .sc], .sc] [.sc] [.tmp 4] (Coz.dec cr) (cp.enc x) := fun x => by kernel_rfl
theorem F.owed : owed (mkE (R := (Int × ((Int × Int) × Unit))) tab es 31 [] []) code = [] := by kernel_rfl
theorem con : ∀ x y, F x = some y → Con prog 38 [.box 82 [.ro 3, .sc, .sc], .sc] [.sc] (cp.enc x) (cr.enc y).1 (cr.enc y).2 :=
  func_ok (c := code) (n := 31) (pf := [.box 82 [.ro 3, .sc, .sc], .sc]) (res := [.tmp 4]) tabOk uniOk mixed get (by kernel_rfl) (by kernel_rfl) (by kernel_rfl) (by decide) F.eq fun w0 M h x hx => by rw [F.owed] at hx; exact absurd hx List.not_mem_nil
noncomputable def ent : Ent prog uni := Ent.of 38 [.box 82 [.ro 3, .sc, .sc], .sc] [.sc] cp cr F con fun args w => enters_of get (by kernel_rfl) rfl args w
end Go.Proofs.Ytpingihfadihfaa.AX.F38

/- The function 40 of the program in the small machine. No conditions. -/
namespace Go.Proofs.Ytpingihfadihfaa.AX.F40
open Go Go.Proofs.Try
noncomputable def code : Code := bodyOf f40
abbrev Y : Type := (Bool × ((Int × Int) × Unit))
def cp : Cod uni (((List Int) × Int × Int) × Int) := (codC (iAgg (codC (iRow 3) (codC (iInt .i64) (cod1 (iInt .i64))))) (cod1 (iInt .i64)))
def cr : Coz uni (Bool × ((Int × Int) × Unit)) := (cozRM (cod1 iBool) (codC (iAgg (codD (codC (iInt .i64) (cod1 (iInt .i64))))) (codD cod0)))
noncomputable def es : List (Ent prog uni) := [F38.ent]
theorem get : prog.funcs[40]? = some f40 := by kernel_rfl

noncomputable def F : (((List Int) × Int × Int) × Int) → Option ((Bool × ((Int × Int) × Unit)))
  | ((p0_0, p0_1, p0_2), p1) =>
  (F38.F ((p0_0, (p0_1, p0_2)), p1)).bind fun y38 =>
  some ((y38.1 == (Go.IntKind.wrap (Go.IntKind.i64 ) (p1 - 1))), ((y38.2.1.1, y38.2.1.2), ()))
theorem F.eq : ∀ x, F x = runF (mkE tab es 11 [] []) code [.box 82 [.ro 3, .sc, .sc], .sc] [.sc] [.tmp 4] (Coz.dec cr) (cp.enc x) := fun x => by kernel_rfl
theorem F.owed : owed (mkE (R := (Bool × ((Int × Int) × Unit))) tab es 11 [] []) code = [] := by kernel_rfl
theorem con : ∀ x y, F x = some y → Con prog 40 [.box 82 [.ro 3, .sc, .sc], .sc] [.sc] (cp.enc x) (cr.enc y).1 (cr.enc y).2 :=
  func_ok (c := code) (n := 11) (pf := [.box 82 [.ro 3, .sc, .sc], .sc]) (res := [.tmp 4]) tabOk uniOk mixed get (by kernel_rfl) (by kernel_rfl) (by kernel_rfl) (by decide) F.eq fun w0 M h x hx => by rw [F.owed] at hx; exact absurd hx List.not_mem_nil
noncomputable def ent : Ent prog uni := Ent.of 40 [.box 82 [.ro 3, .sc, .sc], .sc] [.sc] cp cr F con fun args w => enters_of get (by kernel_rfl) rfl args w
end Go.Proofs.Ytpingihfadihfaa.AX.F40

/- The function 41 of the program in the small machine. No conditions. -/
namespace Go.Proofs.Ytpingihfadihfaa.AX.F41
open Go Go.Proofs.Try
noncomputable def code : Code := bodyOf f41
abbrev Y : Type := (Int × (Int × Int))
def cp : Cod uni ((List Int) × Int × Int) := (cod1 (iAgg (codC (iRow 3) (codC (iInt .i64) (cod1 (iInt .i64))))))
def cr : Coz uni (Int × (Int × Int)) := (cozRM (cod1 (iInt .i64)) (cod1 (iAgg (codD (codC (iInt .i64) (cod1 (iInt .i64)))))))
noncomputable def es : List (Ent prog uni) := [F38.ent]
theorem get : prog.funcs[41]? = some f41 := by kernel_rfl

noncomputable def F : ((List Int) × Int × Int) → Option ((Int × (Int × Int)))
  | (p0_0, p0_1, p0_2) =>
  (F38.F ((p0_0, (p0_1, p0_2)), 12)).bind fun y38 =>
  cond ((decide (0 ≤ y38.1)) && (decide (y38.1 < ((List.length (0 :: ((-1) :: (1 :: (2 :: (63 :: (64 :: (65 :: (4096 :: (4097 :: (9223372036854775807 :: ((-9223372036854775808) :: (30 :: []))))))))))))) : Int)))) (
   some ((List.getD (0 :: ((-1) :: (1 :: (2 :: (63 :: (64 :: (65 :: (4096 :: (4097 :: (9223372036854775807 :: ((-9223372036854775808) :: (30 :: [])))))))))))) (Int.toNat y38.1) 0), (y38.2.1.1, y38.2.1.2))) none
theorem F.eq : ∀ x, F x = runF (mkE tab es 8 [] []) code [.box 82 [.ro 3, .sc, .sc]] [.sc] [.tmp 2] (Coz.dec cr) (cp.enc x) := fun x => by kernel_rfl
theorem F.owed : owed (mkE (R := (Int × (Int × Int))) tab es 8 [] []) code = [] := by kernel_rfl
theorem con : ∀ x y, F x = some y → Con prog 41 [.box 82 [.ro 3, .sc, .sc]] [.sc] (cp.enc x) (cr.enc y).1 (cr.enc y).2 :=
  func_ok (c := code) (n := 8) (pf := [.box 82 [.ro 3, .sc, .sc]]) (res := [.tmp 2]) tabOk uniOk mixed get (by kernel_rfl) (by kernel_rfl) (by kernel_rfl) (by decide) F.eq fun w0 M h x hx => by rw [F.owed] at hx; exact absurd hx List.not_mem_nil
noncomputable def ent : Ent prog uni := Ent.of 41 [.box 82 [.ro 3, .sc, .sc]] [.sc] cp cr F con fun args w => enters_of get (by kernel_rfl) rfl args w
end Go.Proofs.Ytpingihfadihfaa.AX.F41

/- The function 29 of the program in the small machine. No conditions. -/
namespace Go.Proofs.Ytpingihfadihfaa.AX.F29
open Go Go.Proofs.Try
noncomputable def code : Code := bodyOf f29
abbrev Y : Type := (((List S50) × Int × Int) × (Int × Int))
def cp : Cod uni ((List Int) × Int × Int) := (cod1 (iAgg (codC (iRow 3) (codC (iInt .i64) (cod1 (iInt .i64))))))
def cr : Coz uni (((List S50) × Int × Int) × (Int × Int)) := (cozRM (codC (iRow 2) (codC (iInt .i64) (cod1 (iInt .i64)))) (cod1 (iAgg (codD (codC (iInt .i64) (cod1 (iInt .i64)))))))
noncomputable def es : List (Ent prog uni) := [F39.ent, F38.ent, F40.ent, F41.ent]
theorem get : prog.funcs[29]? = some f29 := by kernel_rfl

def t22.A : Ann := ⟨[(0, .box 4194304 0), (5, .slc 5000320 []), (6, .box 5000384 0), (7, .sc), (8, .box 5000512 0)], [(4194304, 82, [.slc 4194305 [], .sc, .sc]), (5000384, 51, [.sc, .sc, .sc, .sc]), (5000512, 51, [.sc, .sc, .sc, .sc])], [(5000320, true, 2), (4194305, false, 3)], [4194304, 4194305]⟩
def t22.c : Cod uni (Int × Int × Int × Bool × Int × Int × Int × Bool × Int × Int × Int × (List S50) × (List Int)) := (codC (iInt .i64) (codC (iInt .i64) (codC (iInt .i64) (codC iBool (codC (iInt .i64) (codC (iInt .i64) (codC (iInt .i64) (codC iBool (codC (iInt .i64) (codC (iInt .i64) (codC (iInt .i64) (codC (iRow 2) (cod1 (iRow 3))))))))))))))
def t22.xs : List (AExit × Ann) := [(.normal, ⟨[(0, .box 4194304 0), (5, .slc 5000320 []), (6, .box 5000384 0), (7, .sc)], [(4194304, 82, [.slc 4194305 [], .sc, .sc]), (5000384, 51, [.sc, .sc, .sc, .sc])], [(5000320, true, 2), (4194305, false, 3)], [4194304, 4194305]⟩)]
def t22.y : Coy uni ((Int × Int × Int × Bool × Int × Int × Int × (List S50) × (List Int))) := (coy1 (codC (iInt .i64) (codC (iInt .i64) (codC (iInt .i64) (codC iBool (codC (iInt .i64) (codC (iInt .i64) (codC (iInt .i64) (codC (iRow 2) (cod1 (iRow 3)))))))))))
noncomputable def t22 : Int × Int × Int × Bool × Int × Int × Int × Bool × Int × Int × Int × (List S50) × (List Int) → Option ((Int × Int × Int × Bool × Int × Int × Int × (List S50) × (List Int)))
  | (v7, b94304_1, b94304_2, b384_0, b384_1, b384_2, b384_3, b512_0, b512_1, b512_2, b512_3, r320, r94305) =>
  let x0 := ((⟨b512_0, b512_1, b512_2, b512_3⟩ : S50) :: [])
  cond (decide (((List.length r320) + (List.length x0)) ≤ 274877906944)) (
   some (v7, b94304_1, b94304_2, b512_0, b512_1, b512_2, b512_3, (r320 ++ x0), r94305)) none
theorem t22.eq : ∀ x, t22 x = tailX (mkE tab es 102 [] []) (tailAt 22 code) (cutOf t22.A t22.c) (cutsOf t22.xs t22.y) x := fun x => by kernel_rfl
theorem t22.owed {R : Type} : owed (mkE (R := R) tab es 102 [] []) (tailAt 22 code) = [] := by kernel_rfl
theorem t22.ok (w0 : World) (M : Own) (h : Pinned M [4194304, 4194305]) {R : Type} : SoundO prog w0 M 102 (tailAt 22 code) (tailO (R := R) (cutOf t22.A t22.c) (cutsOf t22.xs t22.y) t22) :=
  tail_ok tabOk uniOk mixed t22.eq (h.sub rfl) (h.sub rfl) fun x hx => by rw [t22.owed] at hx; exact absurd hx List.not_mem_nil

def t16.A : Ann := ⟨[(0, .box 4194304 0), (5, .slc 5000320 []), (6, .box 5000384 0), (7, .sc), (8, .box 5000512 0)], [(4194304, 82, [.slc 4194305 [], .sc, .sc]), (5000384, 51, [.sc, .sc, .sc, .sc]), (5000512, 51, [.sc, .sc, .sc, .sc])], [(5000320, true, 2), (4194305, false, 3)], [4194304, 4194305]⟩
def t16.c : Cod uni (Int × Int × Int × Bool × Int × Int × Int × Bool × Int × Int × Int × (List S50) × (List Int)) := (codC (iInt .i64) (codC (iInt .i64) (codC (iInt .i64) (codC iBool (codC (iInt .i64) (codC (iInt .i64) (codC (iInt .i64) (codC iBool (codC (iInt .i64) (codC (iInt .i64) (codC (iInt .i64) (codC (iRow 2) (cod1 (iRow 3))))))))))))))
def t16.xs : List (AExit × Ann) := [(.normal, ⟨[(0, .box 4194304 0), (5, .slc 5000320 []), (6, .box 5000384 0), (7, .sc)], [(4194304, 82, [.slc 4194305 [], .sc, .sc]), (5000384, 51, [.sc, .sc, .sc, .sc])], [(5000320, true, 2), (4194305, false, 3)], [4194304, 4194305]⟩)]
def t16.y : Coy uni ((Int × Int × Int × Bool × Int × Int × Int × (List S50) × (List Int))) := (coy1 (codC (iInt .i64) (codC (iInt .i64) (codC (iInt .i64) (codC iBool (codC (iInt .i64) (codC (iInt .i64) (codC (iInt .i64) (codC (iRow 2) (cod1 (iRow 3)))))))))))
noncomputable def t16 : Int × Int × Int × Bool × Int × Int × Int × Bool × Int × Int × Int × (List S50) × (List Int) → Option ((Int × Int × Int × Bool × Int × Int × Int × (List S50) × (List Int)))
  | (v7, b94304_1, b94304_2, b384_0, b384_1, b384_2, b384_3, b512_0, b512_1, b512_2, b512_3, r320, r94305) =>
  (F38.F ((r94305, (b94304_1, b94304_2)), 60)).bind fun y38 =>
  cond (y38.1 == 0) (
   (F41.F (r94305, (y38.2.1.1, y38.2.1.2))).bind fun y41 =>
   (t22 (v7, y41.2.1, y41.2.2, b384_0, b384_1, b384_2, b384_3, b512_0, y41.1, b512_2, b512_3, r320, r94305)).bind fun yt22 =>
   some (yt22.1, yt22.2.1, yt22.2.2.1, yt22.2.2.2.1, yt22.2.2.2.2.1, yt22.2.2.2.2.2.1, yt22.2.2.2.2.2.2.1, yt22.2.2.2.2.2.2.2.1, yt22.2.2.2.2.2.2.2.2)) (
   cond (y38.1 == 1) (
    (t22 (v7, y38.2.1.1, y38.2.1.2, b384_0, b384_1, b384_2, b384_3, b512_0, b512_1, (Int.tmod (Go.IntKind.wrap (Go.IntKind.i64 ) (b512_2 + 1)) 24), (Int.tmod (Go.IntKind.wrap (Go.IntKind.i64 ) (b512_3 + 1)) 24), r320, r94305)).bind fun yt22 =>
    some (yt22.1, yt22.2.1, yt22.2.2.1, yt22.2.2.2.1, yt22.2.2.2.2.1, yt22.2.2.2.2.2.1, yt22.2.2.2.2.2.2.1, yt22.2.2.2.2.2.2.2.1, yt22.2.2.2.2.2.2.2.2)) (
    (t22 (v7, y38.2.1.1, y38.2.1.2, b384_0, b384_1, b384_2, b384_3, b512_0, b512_1, b512_2, b512_3, r320, r94305)).bind fun yt22 =>
    some (yt22.1, yt22.2.1, yt22.2.2.1, yt22.2.2.2.1, yt22.2.2.2.2.1, yt22.2.2.2.2.2.1, yt22.2.2.2.2.2.2.1, yt22.2.2.2.2.2.2.2.1, yt22.2.2.2.2.2.2.2.2)))
theorem t16.eq : ∀ x, t16 x = tailX (mkE tab es 102 [] [(22, some (tailO (cutOf t22.A t22.c) (cutsOf t22.xs t22.y) t22))]) (tailAt 16 code) (cutOf t16.A t16.c) (cutsOf t16.xs t16.y) x := fun x => by kernel_rfl
theorem t16.owed {R : Type} : owed (mkE (R := R) tab es 102 [] [(22, some (tailO (cutOf t22.A t22.c) (cutsOf t22.xs t22.y) t22))]) (tailAt 16 code) = [((tailAt 22 code), (tailO (R := _) (cutOf t22.A t22.c) (cutsOf t22.xs t22.y) t22))] := by kernel_rfl
theorem t16.ok (w0 : World) (M : Own) (h : Pinned M [4194304, 4194305]) {R : Type} : SoundO prog w0 M 102 (tailAt 16 code) (tailO (R := R) (cutOf t16.A t16.c) (cutsOf t16.xs t16.y) t16) :=
  tail_ok tabOk uniOk mixed t16.eq (h.sub rfl) (h.sub rfl) fun x hx => by rw [t16.owed] at hx; rcases List.mem_cons.1 hx with rfl | hx; exact t22.ok w0 M h; exact absurd hx List.not_mem_nil

def l0.A : Ann := ⟨[(0, .box 4194304 0), (5, .slc 5000320 []), (6, .box 5000384 0), (7, .sc)], [(4194304, 82, [.slc 4194305 [], .sc, .sc]), (5000384, 51, [.sc, .sc, .sc, .sc])], [(5000320, true, 2), (4194305, false, 3)], [4194304, 4194305]⟩
def l0.c : Cod uni (Int × Int × Int × Bool × Int × Int × Int × (List S50) × (List Int)) := (codC (iInt .i64) (codC (iInt .i64) (codC (iInt .i64) (codC iBool (codC (iInt .i64) (codC (iInt .i64) (codC (iInt .i64) (codC (iRow 2) (cod1 (iRow 3))))))))))
def l0.xs : List (AExit × Ann) := [((.exit 0), ⟨[(0, .box 4194304 0), (5, .slc 5000320 [])], [(4194304, 82, [.slc 4194305 [], .sc, .sc])], [(5000320, true, 2), (4194305, false, 3)], [4194304, 4194305]⟩)]
def l0.y : Coy uni ((Int × Int × (List S50) × (List Int))) := (coy1 (codC (iInt .i64) (codC (iInt .i64) (codC (iRow 2) (cod1 (iRow 3))))))
noncomputable def l0.b : Int × Int × Int × Bool × Int × Int × Int × (List S50) × (List Int) → Option ((Int × Int × Int × Bool × Int × Int × Int × (List S50) × (List Int)) ⊕ ((Int × Int × (List S50) × (List Int))))
  | (v7, b94304_1, b94304_2, b384_0, b384_1, b384_2, b384_3, r320, r94305) =>
  cond (decide (v7 > 0)) (
   (F40.F ((r94305, (b94304_1, b94304_2)), 2)).bind fun y40 =>
   (F38.F ((r94305, (y40.2.1.1, y40.2.1.2)), 4)).bind fun y38 =>
   let x1 := (F38.F ((r94305, (y38.2.1.1, y38.2.1.2)), 25))
   cond (y38.1 == 0) (
    x1.bind fun y38x2 =>
    (t16 (v7, y38x2.2.1.1, y38x2.2.1.2, b384_0, b384_1, b384_2, b384_3, y40.1, y38x2.1, b384_2, b384_3, r320, r94305)).bind fun yt16 =>
    some (.inl ((Go.IntKind.wrap (Go.IntKind.i64 ) (yt16.1 - 1)), yt16.2.1, yt16.2.2.1, yt16.2.2.2.1, yt16.2.2.2.2.1, yt16.2.2.2.2.2.1, yt16.2.2.2.2.2.2.1, yt16.2.2.2.2.2.2.2.1, yt16.2.2.2.2.2.2.2.2))) (
    cond (y38.1 == 1) (
     x1.bind fun y38x2 =>
     (t16 (v7, y38x2.2.1.1, y38x2.2.1.2, b384_0, b384_1, b384_2, b384_3, y40.1, b384_1, y38x2.1, b384_3, r320, r94305)).bind fun yt16 =>
     some (.inl ((Go.IntKind.wrap (Go.IntKind.i64 ) (yt16.1 - 1)), yt16.2.1, yt16.2.2.1, yt16.2.2.2.1, yt16.2.2.2.2.1, yt16.2.2.2.2.2.1, yt16.2.2.2.2.2.2.1, yt16.2.2.2.2.2.2.2.1, yt16.2.2.2.2.2.2.2.2))) (
     cond (y38.1 == 2) (
      (F38.F ((r94305, (y38.2.1.1, y38.2.1.2)), 3)).bind fun y38x2 =>
      let x0 := (Go.IntKind.wrap (Go.IntKind.i64 ) ((Go.IntKind.wrap (Go.IntKind.i64 ) (b384_1 + 1)) + y38x2.1))
      (t16 (v7, y38x2.2.1.1, y38x2.2.1.2, b384_0, b384_1, b384_2, b384_3, y40.1, (if (24 < x0) then 24 else x0), b384_2, b384_3, r320, r94305)).bind fun yt16 =>
      some (.inl ((Go.IntKind.wrap (Go.IntKind.i64 ) (yt16.1 - 1)), yt16.2.1, yt16.2.2.1, yt16.2.2.2.1, yt16.2.2.2.2.1, yt16.2.2.2.2.2.1, yt16.2.2.2.2.2.2.1, yt16.2.2.2.2.2.2.2.1, yt16.2.2.2.2.2.2.2.2))) (
      x1.bind fun y38x2 =>
      (t16 (v7, y38x2.2.1.1, y38x2.2.1.2, b384_0, b384_1, b384_2, b384_3, y40.1, b384_1, b384_2, y38x2.1, r320, r94305)).bind fun yt16 =>
      some (.inl ((Go.IntKind.wrap (Go.IntKind.i64 ) (yt16.1 - 1)), yt16.2.1, yt16.2.2.1, yt16.2.2.2.1, yt16.2.2.2.2.1, yt16.2.2.2.2.2.1, yt16.2.2.2.2.2.2.1, yt16.2.2.2.2.2.2.2.1, yt16.2.2.2.2.2.2.2.2)))))) (
   some (.inr (b94304_1, b94304_2, r320, r94305)))
noncomputable def l0 (x : Int × Int × Int × Bool × Int × Int × Int × (List S50) × (List Int)) : Option ((Int × Int × (List S50) × (List Int))) := lim l0.b x
theorem l0.eq : ∀ x, l0.b x = roundX (mkE tab es 102 [] [(16, some (tailO (cutOf t16.A t16.c) (cutsOf t16.xs t16.y) t16))]) (loopAt 0 code) (cutOf l0.A l0.c) (cutsOf l0.xs l0.y) x := fun x => by kernel_rfl
theorem l0.owed {R : Type} : owed (mkE (R := R) tab es 102 [] [(16, some (tailO (cutOf t16.A t16.c) (cutsOf t16.xs t16.y) t16))]) (loopAt 0 code) = [((tailAt 16 code), (tailO (R := _) (cutOf t16.A t16.c) (cutsOf t16.xs t16.y) t16))] := by kernel_rfl
theorem l0.ok (w0 : World) (M : Own) (h : Pinned M [4194304, 4194305]) {R : Type} : SoundO prog w0 M 102 (.block 0 (.loop (loopAt 0 code))) (loopO (R := R) 0 (cutOf l0.A l0.c) (cutsOf l0.xs l0.y) l0) :=
  loop_ok tabOk uniOk mixed l0.eq (h.sub rfl) (h.sub rfl) fun x hx => by rw [l0.owed] at hx; rcases List.mem_cons.1 hx with rfl | hx; exact t16.ok w0 M h; exact absurd hx List.not_mem_nil

def t34.A : Ann := ⟨[(0, .box 4194304 0), (5, .slc 5000320 []), (9, .sc), (10, .sc)], [(4194304, 82, [.slc 4194305 [], .sc, .sc])], [(5000320, true, 2), (4194305, false, 3)], [4194304, 4194305]⟩
def t34.c : Cod uni (Int × Int × Int × Int × (List S50) × (List Int)) := (codC (iInt .i64) (codC (iInt .i64) (codC (iInt .i64) (codC (iInt .i64) (codC (iRow 2) (cod1 (iRow 3)))))))
def t34.xs : List (AExit × Ann) := [(.ret, ⟨[(0, .box 4194304 0), (2, .slc 5000128 []), (3, .sc), (4, .sc)], [(4194304, 82, [.slc 4194305 [], .sc, .sc])], [(5000128, true, 2), (4194305, false, 3)], [4194304, 4194305]⟩)]
def t34.y : Coy uni ((Int × Int × Int × Int × (List S50) × (List Int))) := (coy1 (codC (iInt .i64) (codC (iInt .i64) (codC (iInt .i64) (codC (iInt .i64) (codC (iRow 2) (cod1 (iRow 3))))))))
noncomputable def t34 : Int × Int × Int × Int × (List S50) × (List Int) → Option ((Int × Int × Int × Int × (List S50) × (List Int)))
  | (v9, v10, b94304_1, b94304_2, r320, r94305) =>
  some (v9, v10, b94304_1, b94304_2, r320, r94305)
theorem t34.eq : ∀ x, t34 x = tailX (mkE tab es 102 [] []) (tailAt 34 code) (cutOf t34.A t34.c) (cutsOf t34.xs t34.y) x := fun x => by kernel_rfl
theorem t34.owed {R : Type} : owed (mkE (R := R) tab es 102 [] []) (tailAt 34 code) = [] := by kernel_rfl
theorem t34.ok (w0 : World) (M : Own) (h : Pinned M [4194304, 4194305]) {R : Type} : SoundO prog w0 M 102 (tailAt 34 code) (tailO (R := R) (cutOf t34.A t34.c) (cutsOf t34.xs t34.y) t34) :=
  tail_ok tabOk uniOk mixed t34.eq (h.sub rfl) (h.sub rfl) fun x hx => by rw [t34.owed] at hx; exact absurd hx List.not_mem_nil

noncomputable def F : ((List Int) × Int × Int) → Option ((((List S50) × Int × Int) × (Int × Int)))
  | (p0_0, p0_1, p0_2) =>
  (F39.F ((p0_0, (p0_1, p0_2)), 8)).bind fun y39 =>
  (F38.F ((p0_0, (y39.2.1.1, y39.2.1.2)), (Go.IntKind.wrap (Go.IntKind.i64 ) (y39.1 + 4)))).bind fun y38 =>
  (l0 (y38.1, y38.2.1.1, y38.2.1.2, false, 0, 0, 0, ([] : List S50), p0_0)).bind fun yl0 =>
  (F38.F ((yl0.2.2.2, (yl0.1, yl0.2.1)), 40)).bind fun y38x2 =>
  let x0 := (Go.IntKind.wrap (Go.IntKind.i64 ) (1 + y38x2.1))
  (F38.F ((yl0.2.2.2, (y38x2.2.1.1, y38x2.2.1.2)), x0)).bind fun y38x3 =>
  (F38.F ((yl0.2.2.2, (y38x3.2.1.1, y38x3.2.1.2)), 30)).bind fun y38x4 =>
  let x1 := (Go.IntKind.wrap (Go.IntKind.i64 ) (1 + y38x3.1))
  let x2 := (F41.F (yl0.2.2.2, (y38x4.2.1.1, y38x4.2.1.2)))
  cond (y38x4.1 == 0) (
   x2.bind fun y41 =>
   (t34 (y41.1, x1, y41.2.1, y41.2.2, yl0.2.2.1, yl0.2.2.2)).bind fun yt34 =>
   some ((yt34.2.2.2.2.1, (yt34.1, yt34.2.1)), (yt34.2.2.1, yt34.2.2.2.1))) (
   cond (y38x4.1 == 1) (
    x2.bind fun y41 =>
    (t34 (x0, y41.1, y41.2.1, y41.2.2, yl0.2.2.1, yl0.2.2.2)).bind fun yt34 =>
    some ((yt34.2.2.2.2.1, (yt34.1, yt34.2.1)), (yt34.2.2.1, yt34.2.2.2.1))) (
    cond (y38x4.1 == 2) (
     (F38.F ((yl0.2.2.2, (y38x4.2.1.1, y38x4.2.1.2)), 3)).bind fun y38x5 =>
     cond ((decide (0 ≤ y38x5.1)) && (decide (y38x5.1 < ((List.length (1 :: (1000 :: (1001 :: [])))) : Int)))) (
      (t34 (1000, (List.getD (1 :: (1000 :: (1001 :: []))) (Int.toNat y38x5.1) 0), y38x5.2.1.1, y38x5.2.1.2, yl0.2.2.1, yl0.2.2.2)).bind fun yt34 =>
      some ((yt34.2.2.2.2.1, (yt34.1, yt34.2.1)), (yt34.2.2.1, yt34.2.2.2.1))) none) (
     (t34 (x0, x1, y38x4.2.1.1, y38x4.2.1.2, yl0.2.2.1, yl0.2.2.2)).bind fun yt34 =>
     some ((yt34.2.2.2.2.1, (yt34.1, yt34.2.1)), (yt34.2.2.1, yt34.2.2.2.1)))))
theorem F.eq : ∀ x, F x = runF (mkE tab es 102 [(0, some (loopO 0 (cutOf l0.A l0.c) (cutsOf l0.xs l0.y) l0))] [(34, some (tailO (cutOf t34.A t34.c) (cutsOf t34.xs t34.y) t34))]) code [.box 82 [.ro 3, .sc, .sc]] [.row 2, .sc, .sc] [.tmp 2, .tmp 3, .tmp 4] (Coz.dec cr) (cp.enc x) := fun x => by kernel_rfl
theorem F.owed : owed (mkE (R := (((List S50) × Int × Int) × (Int × Int))) tab es 102 [(0, some (loopO 0 (cutOf l0.A l0.c) (cutsOf l0.xs l0.y) l0))] [(34, some (tailO (cutOf t34.A t34.c) (cutsOf t34.xs t34.y) t34))]) code = [((.block 0 (.loop (loopAt 0 code))), (loopO (R := _) 0 (cutOf l0.A l0.c) (cutsOf l0.xs l0.y) l0)), ((tailAt 34 code), (tailO (R := _) (cutOf t34.A t34.c) (cutsOf t34.xs t34.y) t34))] := by kernel_rfl
theorem con : ∀ x y, F x = some y → Con prog 29 [.box 82 [.ro 3, .sc, .sc]] [.row 2, .sc, .sc] (cp.enc x) (cr.enc y).1 (cr.enc y).2 :=
  func_ok (c := code) (n := 102) (pf := [.box 82 [.ro 3, .sc, .sc]]) (res := [.tmp 2, .tmp 3, .tmp 4]) tabOk uniOk mixed get (by kernel_rfl) (by kernel_rfl) (by kernel_rfl) (by decide) F.eq fun w0 M h x hx => by rw [F.owed] at hx; rcases List.mem_cons.1 hx with rfl | hx; exact l0.ok w0 M h; rcases List.mem_cons.1 hx with rfl | hx; exact t34.ok w0 M h; exact absurd hx List.not_mem_nil
noncomputable def ent : Ent prog uni := Ent.of 29 [.box 82 [.ro 3, .sc, .sc]] [.row 2, .sc, .sc] cp cr F con fun args w => enters_of get (by kernel_rfl) rfl args w
end Go.Proofs.Ytpingihfadihfaa.AX.F29

/- The function 42 of the program in the small machine. No conditions. -/
namespace Go.Proofs.Ytpingihfadihfaa.AX.F42
open Go Go.Proofs.Try
noncomputable def code : Code := bodyOf f42
abbrev Y : Type := Int
def cp : Cod uni ((Bool × Int × Int × Int) × (Bool × Int × Int × Int)) := (codC (iAgg (codC iBool (codC (iInt .i64) (codC (iInt .i64) (cod1 (iInt .i64)))))) (cod1 (iAgg (codC iBool (codC (iInt .i64) (codC (iInt .i64) (cod1 (iInt .i64))))))))
def cr : Coz uni Int := (cozR (cod1 (iInt .i64)) (codD (codD cod0)))
noncomputable def es : List (Ent prog uni) := []
theorem get : prog.funcs[42]? = some f42 := by kernel_rfl

def t6.A : Ann := ⟨[(2, .box 5000128 0), (3, .box 5000192 0), (5, .sc)], [(5000128, 51, [.sc, .sc, .sc, .sc]), (5000192, 51, [.sc, .sc, .sc, .sc])], [], []⟩
def t6.c : Cod uni (Int × Bool × Int × Int × Int × Bool × Int × Int × Int) := (codC (iInt .i64) (codC iBool (codC (iInt .i64) (codC (iInt .i64) (codC (iInt .i64) (codC iBool (codC (iInt .i64) (codC (iInt .i64) (cod1 (iInt .i64))))))))))
def t6.xs : List (AExit × Ann) := [(.ret, ⟨[(4, .sc)], [], [], []⟩)]
def t6.y : Coy uni (Int) := (coy1 (cod1 (iInt .i64)))
noncomputable def t6 : Int × Bool × Int × Int × Int × Bool × Int × Int × Int → Option (Int)
  | (v5, b128_0, b128_1, b128_2, b128_3, b192_0, b192_1, b192_2, b192_3) =>
  cond (b128_3 != b192_3) (
   some (Go.IntKind.wrap (Go.IntKind.i64 ) (v5 + 1))) (
   some v5)
theorem t6.eq : ∀ x, t6 x = tailX (mkE tab es 28 [] []) (tailAt 6 code) (cutOf t6.A t6.c) (cutsOf t6.xs t6.y) x := fun x => by kernel_rfl
theorem t6.owed {R : Type} : owed (mkE (R := R) tab es 28 [] []) (tailAt 6 code) = [] := by kernel_rfl
theorem t6.ok (w0 : World) (M : Own) (h : Pinned M []) {R : Type} : SoundO prog w0 M 28 (tailAt 6 code) (tailO (R := R) (cutOf t6.A t6.c) (cutsOf t6.xs t6.y) t6) :=
  tail_ok tabOk uniOk mixed t6.eq (h.sub rfl) (h.sub rfl) fun x hx => by rw [t6.owed] at hx; exact absurd hx List.not_mem_nil

def t4.A : Ann := ⟨[(2, .box 5000128 0), (3, .box 5000192 0), (5, .sc)], [(5000128, 51, [.sc, .sc, .sc, .sc]), (5000192, 51, [.sc, .sc, .sc, .sc])], [], []⟩
def t4.c : Cod uni (Int × Bool × Int × Int × Int × Bool × Int × Int × Int) := (codC (iInt .i64) (codC iBool (codC (iInt .i64) (codC (iInt .i64) (codC (iInt .i64) (codC iBool (codC (iInt .i64) (codC (iInt .i64) (cod1 (iInt .i64))))))))))
def t4.xs : List (AExit × Ann) := [(.ret, ⟨[(4, .sc)], [], [], []⟩)]
def t4.y : Coy uni (Int) := (coy1 (cod1 (iInt .i64)))
noncomputable def t4 : Int × Bool × Int × Int × Int × Bool × Int × Int × Int → Option (Int)
  | (v5, b128_0, b128_1, b128_2, b128_3, b192_0, b192_1, b192_2, b192_3) =>
  cond (b128_2 != b192_2) (
   (t6 ((Go.IntKind.wrap (Go.IntKind.i64 ) (v5 + 1)), b128_0, b128_1, b128_2, b128_3, b192_0, b192_1, b192_2, b192_3)).bind fun yt6 =>
   some yt6) (
   (t6 (v5, b128_0, b128_1, b128_2, b128_3, b192_0, b192_1, b192_2, b192_3)).bind fun yt6 =>
   some yt6)
theorem t4.eq : ∀ x, t4 x = tailX (mkE tab es 28 [] [(6, some (tailO (cutOf t6.A t6.c) (cutsOf t6.xs t6.y) t6))]) (tailAt 4 code) (cutOf t4.A t4.c) (cutsOf t4.xs t4.y) x := fun x => by kernel_rfl
theorem t4.owed {R : Type} : owed (mkE (R := R) tab es 28 [] [(6, some (tailO (cutOf t6.A t6.c) (cutsOf t6.xs t6.y) t6))]) (tailAt 4 code) = [((tailAt 6 code), (tailO (R := _) (cutOf t6.A t6.c) (cutsOf t6.xs t6.y) t6))] := by kernel_rfl
theorem t4.ok (w0 : World) (M : Own) (h : Pinned M []) {R : Type} : SoundO prog w0 M 28 (tailAt 4 code) (tailO (R := R) (cutOf t4.A t4.c) (cutsOf t4.xs t4.y) t4) :=
  tail_ok tabOk uniOk mixed t4.eq (h.sub rfl) (h.sub rfl) fun x hx => by rw [t4.owed] at hx; rcases List.mem_cons.1 hx with rfl | hx; exact t6.ok w0 M h; exact absurd hx List.not_mem_nil

noncomputable def F : ((Bool × Int × Int × Int) × (Bool × Int × Int × Int)) → Option (Int)
  | ((p0_0, p0_1, p0_2, p0_3), (p1_0, p1_1, p1_2, p1_3)) =>
  cond (p0_1 != p1_1) (
   (t4 ((Go.IntKind.wrap (Go.IntKind.i64 ) (0 + 1)), p0_0, p0_1, p0_2, p0_3, p1_0, p1_1, p1_2, p1_3)).bind fun yt4 =>
   some yt4) (
   (t4 (0, p0_0, p0_1, p0_2, p0_3, p1_0, p1_1, p1_2, p1_3)).bind fun yt4 =>
   some yt4)
theorem F.eq : ∀ x, F x = runF (mkE tab es 28 [] [(4, some (tailO (cutOf t4.A t4.c) (cutsOf t4.xs t4.y) t4))]) code [.agg [.sc, .sc, .sc, .sc], .agg [.sc, .sc, .sc, .sc]] [.sc] [.tmp 4] (Coz.dec cr) (cp.enc x) := fun x => by kernel_rfl
theorem F.owed : owed (mkE (R := Int) tab es 28 [] [(4, some (tailO (cutOf t4.A t4.c) (cutsOf t4.xs t4.y) t4))]) code = [((tailAt 4 code), (tailO (R := _) (cutOf t4.A t4.c) (cutsOf t4.xs t4.y) t4))] := by kernel_rfl
theorem con : ∀ x y, F x = some y → Con prog 42 [.agg [.sc, .sc, .sc, .sc], .agg [.sc, .sc, .sc, .sc]] [.sc] (cp.enc x) (cr.enc y).1 (cr.enc y).2 :=
  func_ok (c := code) (n := 28) (pf := [.agg [.sc, .sc, .sc, .sc], .agg [.sc, .sc, .sc, .sc]]) (res := [.tmp 4]) tabOk uniOk mixed get (by kernel_rfl) (by kernel_rfl) (by kernel_rfl) (by decide) F.eq fun w0 M h x hx => by rw [F.owed] at hx; rcases List.mem_cons.1 hx with rfl | hx; exact t4.ok w0 M h; exact absurd hx List.not_mem_nil
noncomputable def ent : Ent prog uni := Ent.of 42 [.agg [.sc, .sc, .sc, .sc], .agg [.sc, .sc, .sc, .sc]] [.sc] cp cr F con fun args w => enters_of get (by kernel_rfl) rfl args w
end Go.Proofs.Ytpingihfadihfaa.AX.F42

/- The function 30 of the program in the small machine. No conditions. -/
namespace Go.Proofs.Ytpingihfadihfaa.AX.F30
open Go Go.Proofs.Try
noncomputable def code : Code := bodyOf f30
abbrev Y : Type := Int
def cp : Cod uni ((List S50) × Int × Int) := (codC (iRow 2) (codC (iInt .i64) (cod1 (iInt .i64))))
def cr : Coz uni Int := (cozR (cod1 (iInt .i64)) (codD (codD (codD cod0))))
noncomputable def es : List (Ent prog uni) := [F42.ent]
theorem get : prog.funcs[30]? = some f30 := by kernel_rfl

def l0.A : Ann := ⟨[(0, .slc 5000000 []), (7, .sc)], [], [(5000000, false, 2)], []⟩
def l0.c : Cod uni (Int × (List S50)) := (codC (iInt .i64) (cod1 (iRow 2)))
def l0.xs : List (AExit × Ann) := [(.ret, ⟨[(6, .sc)], [], [], []⟩), ((.exit 0), ⟨[(0, .slc 5000000 [])], [], [(5000000, false, 2)], []⟩)]
def l0.y : Coy uni (Int ⊕ (List S50)) := (coyS (cod1 (iInt .i64)) (coy1 (cod1 (iRow 2))))
noncomputable def l0.b : Int × (List S50) → Option ((Int × (List S50)) ⊕ (Int ⊕ (List S50)))
  | (v7, r0) =>
  let x0 := (decide (v7 < ((List.length r0) : Int)))
  cond x0 (
   cond ((decide (0 ≤ v7)) && x0) (
    let x1 := (List.getD r0 (Int.toNat v7) z50)
    cond ((((((decide (x1.f1 < 0)) || (decide (x1.f1 > 24))) || (decide (x1.f2 < 0))) || (decide (x1.f2 > 24))) || (decide (x1.f3 < 0))) || (decide (x1.f3 > 24))) (
     some (.inr (.inl 1))) (
     some (.inl ((Go.IntKind.wrap (Go.IntKind.i64 ) (v7 + 1)), r0)))) none) (
   some (.inr (.inr r0)))
noncomputable def l0 (x : Int × (List S50)) : Option (Int ⊕ (List S50)) := lim l0.b x
theorem l0.eq : ∀ x, l0.b x = roundX (mkE tab es 88 [] []) (loopAt 0 code) (cutOf l0.A l0.c) (cutsOf l0.xs l0.y) x := fun x => by kernel_rfl
theorem l0.owed {R : Type} : owed (mkE (R := R) tab es 88 [] []) (loopAt 0 code) = [] := by kernel_rfl
theorem l0.ok (w0 : World) (M : Own) (h : Pinned M []) {R : Type} : SoundO prog w0 M 88 (.block 0 (.loop (loopAt 0 code))) (loopO (R := R) 0 (cutOf l0.A l0.c) (cutsOf l0.xs l0.y) l0) :=
  loop_ok tabOk uniOk mixed l0.eq (h.sub rfl) (h.sub rfl) fun x hx => by rw [l0.owed] at hx; exact absurd hx List.not_mem_nil

def l2.A : Ann := ⟨[(0, .slc 5000000 []), (9, .box 5000576 0), (10, .sc)], [(5000576, 51, [.sc, .sc, .sc, .sc])], [(5000000, false, 2)], []⟩
def l2.c : Cod uni (Int × Bool × Int × Int × Int × (List S50)) := (codC (iInt .i64) (codC iBool (codC (iInt .i64) (codC (iInt .i64) (codC (iInt .i64) (cod1 (iRow 2)))))))
def l2.xs : List (AExit × Ann) := [(.ret, ⟨[(6, .sc)], [], [], []⟩), ((.exit 2), ⟨[], [], [], []⟩)]
def l2.y : Coy uni (Int ⊕ Unit) := (coyS (cod1 (iInt .i64)) (coy1 cod0))
noncomputable def l2.b : Int × Bool × Int × Int × Int × (List S50) → Option ((Int × Bool × Int × Int × Int × (List S50)) ⊕ (Int ⊕ Unit))
  | (v10, b576_0, b576_1, b576_2, b576_3, r0) =>
  let x1 := (decide (v10 < ((List.length r0) : Int)))
  cond x1 (
   let x0 := ((decide (0 ≤ v10)) && x1)
   cond x0 (
    let x2 := (List.getD r0 (Int.toNat v10) z50)
    (F42.F ((b576_0, (b576_1, (b576_2, b576_3))), (x2.f0, (x2.f1, (x2.f2, x2.f3))))).bind fun y42 =>
    cond (decide (y42 > 1)) (
     some (.inr (.inl 13))) (
     cond x0 (
      some (.inl ((Go.IntKind.wrap (Go.IntKind.i64 ) (v10 + 1)), x2.f0, x2.f1, x2.f2, x2.f3, r0))) none)) none) (
   some (.inr (.inr ())))
noncomputable def l2 (x : Int × Bool × Int × Int × Int × (List S50)) : Option (Int ⊕ Unit) := lim l2.b x
theorem l2.eq : ∀ x, l2.b x = roundX (mkE tab es 88 [] []) (loopAt 2 code) (cutOf l2.A l2.c) (cutsOf l2.xs l2.y) x := fun x => by kernel_rfl
theorem l2.owed {R : Type} : owed (mkE (R := R) tab es 88 [] []) (loopAt 2 code) = [] := by kernel_rfl
theorem l2.ok (w0 : World) (M : Own) (h : Pinned M []) {R : Type} : SoundO prog w0 M 88 (.block 2 (.loop (loopAt 2 code))) (loopO (R := R) 2 (cutOf l2.A l2.c) (cutsOf l2.xs l2.y) l2) :=
  loop_ok tabOk uniOk mixed l2.eq (h.sub rfl) (h.sub rfl) fun x hx => by rw [l2.owed] at hx; exact absurd hx List.not_mem_nil

noncomputable def F : ((List S50) × Int × Int) → Option (Int)
  | (p0, p1, p2) =>
  let x0 := ((List.length p0) : Int)
  cond (decide (x0 > 4096)) (
   some 2) (
   cond ((((decide (p1 < 1)) || (decide (p1 > 1000))) || (decide (p2 < 1))) || (decide (p2 > p1))) (
    some 1) (
    cond (decide (x0 > 2000)) (
     some 10) (
     (l0 (0, p0)).bind fun q => match q with
     | (.inl yl0) =>
      some yl0
     | (.inr yl0) =>
      (l2 (0, false, 0, 0, 0, yl0)).bind fun q => match q with
      | (.inl yl2) =>
       some yl2
      | (.inr yl2) =>
       some 0)))
theorem F.eq : ∀ x, F x = runF (mkE tab es 88 [(0, some (loopO 0 (cutOf l0.A l0.c) (cutsOf l0.xs l0.y) l0)), (2, some (loopO 2 (cutOf l2.A l2.c) (cutsOf l2.xs l2.y) l2))] []) code [.row 2 0, .sc, .sc] [.sc] [.tmp 6] (Coz.dec cr) (cp.enc x) := fun x => by kernel_rfl
theorem F.owed : owed (mkE (R := Int) tab es 88 [(0, some (loopO 0 (cutOf l0.A l0.c) (cutsOf l0.xs l0.y) l0)), (2, some (loopO 2 (cutOf l2.A l2.c) (cutsOf l2.xs l2.y) l2))] []) code = [((.block 0 (.loop (loopAt 0 code))), (loopO (R := _) 0 (cutOf l0.A l0.c) (cutsOf l0.xs l0.y) l0)), ((.block 2 (.loop (loopAt 2 code))), (loopO (R := _) 2 (cutOf l2.A l2.c) (cutsOf l2.xs l2.y) l2))] := by kernel_rfl
theorem con : ∀ x y, F x = some y → Con prog 30 [.row 2 0, .sc, .sc] [.sc] (cp.enc x) (cr.enc y).1 (cr.enc y).2 :=
  func_ok (c := code) (n := 88) (pf := [.row 2 0, .sc, .sc]) (res := [.tmp 6]) tabOk uniOk mixed get (by kernel_rfl) (by kernel_rfl) (by kernel_rfl) (by decide) F.eq fun w0 M h x hx => by rw [F.owed] at hx; rcases List.mem_cons.1 hx with rfl | hx; exact l0.ok w0 M h; rcases List.mem_cons.1 hx with rfl | hx; exact l2.ok w0 M h; exact absurd hx List.not_mem_nil
noncomputable def ent : Ent prog uni := Ent.of 30 [.row 2 0, .sc, .sc] [.sc] cp cr F con fun args w => enters_of get (by kernel_rfl) rfl args w
end Go.Proofs.Ytpingihfadihfaa.AX.F30

/- The function 15 of the program in the small machine. No conditions. -/
namespace Go.Proofs.Ytpingihfadihfaa.AX.F15
open Go Go.Proofs.Try
noncomputable def code : Code := bodyOf f15
abbrev Y : Type := ((List S50) × Int × Int)
def cp : Cod uni (List Int) := (cod1 (iRow 3))
def cr : Coz uni ((List S50) × Int × Int) := (cozR (codC (iRow 2) (codC (iInt .i64) (cod1 (iInt .i64)))) (codD cod0))
noncomputable def es : List (Ent prog uni) := [F28.ent, F29.ent, F30.ent]
theorem get : prog.funcs[15]? = some f15 := by kernel_rfl

def l0.A : Ann := ⟨[(5, .box 5000320 0), (6, .sc)], [(5000320, 82, [.slc 5000330 [], .sc, .sc])], [(5000330, false, 3)], []⟩
def l0.c : Cod uni (Int × Int × Int × (List Int)) := (codC (iInt .i64) (codC (iInt .i64) (codC (iInt .i64) (cod1 (iRow 3)))))
def l0.xs : List (AExit × Ann) := [(.ret, ⟨[(2, .slc 5000128 []), (3, .sc), (4, .sc)], [], [(5000128, true, 2)], []⟩), ((.exit 0), ⟨[], [], [], []⟩)]
def l0.y : Coy uni ((Int × Int × (List S50)) ⊕ Unit) := (coyS (codC (iInt .i64) (codC (iInt .i64) (cod1 (iRow 2)))) (coy1 cod0))
noncomputable def l0.b : Int × Int × Int × (List Int) → Option ((Int × Int × Int × (List Int)) ⊕ ((Int × Int × (List S50)) ⊕ Unit))
  | (v6, b320_1, b320_2, r330) =>
  cond (decide (v6 < 3)) (
   (F29.F (r330, (b320_1, b320_2))).bind fun y29 =>
   (F30.F (y29.1.1, (y29.1.2.1, y29.1.2.2))).bind fun y30 =>
   cond (y30 == 0) (
    some (.inr (.inl (y29.1.2.1, y29.1.2.2, y29.1.1)))) (
    some (.inl ((Go.IntKind.wrap (Go.IntKind.i64 ) (v6 + 1)), y29.2.1, y29.2.2, r330)))) (
   some (.inr (.inr ())))
noncomputable def l0 (x : Int × Int × Int × (List Int)) : Option ((Int × Int × (List S50)) ⊕ Unit) := lim l0.b x
theorem l0.eq : ∀ x, l0.b x = roundX (mkE tab es 34 [] []) (loopAt 0 code) (cutOf l0.A l0.c) (cutsOf l0.xs l0.y) x := fun x => by kernel_rfl
theorem l0.owed {R : Type} : owed (mkE (R := R) tab es 34 [] []) (loopAt 0 code) = [] := by kernel_rfl
theorem l0.ok (w0 : World) (M : Own) (h : Pinned M []) {R : Type} : SoundO prog w0 M 34 (.block 0 (.loop (loopAt 0 code))) (loopO (R := R) 0 (cutOf l0.A l0.c) (cutsOf l0.xs l0.y) l0) :=
  loop_ok tabOk uniOk mixed l0.eq (h.sub rfl) (h.sub rfl) fun x hx => by rw [l0.owed] at hx; exact absurd hx List.not_mem_nil

noncomputable def F : (List Int) → Option (((List S50) × Int × Int))
  | p0 =>
  (F28.F p0).bind fun y28 =>
  (l0 (0, y28.1, y28.2, p0)).bind fun q => match q with
  | (.inl yl0) =>
   some (yl0.2.2, (yl0.1, yl0.2.1))
  | (.inr yl0) =>
   some (((⟨false, 3, 0, 0⟩ : S50) :: ((⟨false, 5, 0, 0⟩ : S50) :: ((⟨true, 5, 2, 0⟩ : S50) :: []))), (9, 2))
theorem F.eq : ∀ x, F x = runF (mkE tab es 34 [(0, some (loopO 0 (cutOf l0.A l0.c) (cutsOf l0.xs l0.y) l0))] []) code [.row 3 0] [.row 2, .sc, .sc] [.tmp 2, .tmp 3, .tmp 4] (Coz.dec cr) (cp.enc x) := fun x => by kernel_rfl
theorem F.owed : owed (mkE (R := ((List S50) × Int × Int)) tab es 34 [(0, some (loopO 0 (cutOf l0.A l0.c) (cutsOf l0.xs l0.y) l0))] []) code = [((.block 0 (.loop (loopAt 0 code))), (loopO (R := _) 0 (cutOf l0.A l0.c) (cutsOf l0.xs l0.y) l0))] := by kernel_rfl
theorem con : ∀ x y, F x = some y → Con prog 15 [.row 3 0] [.row 2, .sc, .sc] (cp.enc x) (cr.enc y).1 (cr.enc y).2 :=
  func_ok (c := code) (n := 34) (pf := [.row 3 0]) (res := [.tmp 2, .tmp 3, .tmp 4]) tabOk uniOk mixed get (by kernel_rfl) (by kernel_rfl) (by kernel_rfl) (by decide) F.eq fun w0 M h x hx => by rw [F.owed] at hx; rcases List.mem_cons.1 hx with rfl | hx; exact l0.ok w0 M h; exact absurd hx List.not_mem_nil
noncomputable def ent : Ent prog uni := Ent.of 15 [.row 3 0] [.row 2, .sc, .sc] cp cr F con fun args w => enters_of get (by kernel_rfl) rfl args w
end Go.Proofs.Ytpingihfadihfaa.AX.F15

/- The function 47 of the program in the small machine. No conditions. -/
namespace Go.Proofs.Ytpingihfadihfaa.AX.F47
open Go Go.Proofs.Try
noncomputable def code : Code := bodyOf f47
abbrev Y : Type := Int
def cp : Cod uni Int := (cod1 (iInt .i64))
def cr : Coz uni Int := (cozR (cod1 (iInt .i64)) (codD cod0))
noncomputable def es : List (Ent prog uni) := []
theorem get : prog.funcs[47]? = some f47 := by kernel_rfl

noncomputable def F : Int → Option (Int)
  | p0 =>
  cond (decide (p0 > 0)) (
   some 1) (
   cond (decide (p0 < 0)) (
    some (-1)) (
    some 0))
theorem F.eq : ∀ x, F x = runF (mkE tab es 9 [] []) code [.sc] [.sc] [.tmp 2] (Coz.dec cr) (cp.enc x) := fun x => by kernel_rfl
theorem F.owed : owed (mkE (R := Int) tab es 9 [] []) code = [] := by kernel_rfl
theorem con : ∀ x y, F x = some y → Con prog 47 [.sc] [.sc] (cp.enc x) (cr.enc y).1 (cr.enc y).2 :=
  func_ok (c := code) (n := 9) (pf := [.sc]) (res := [.tmp 2]) tabOk uniOk mixed get (by kernel_rfl) (by kernel_rfl) (by kernel_rfl) (by decide) F.eq fun w0 M h x hx => by rw [F.owed] at hx; exact absurd hx List.not_mem_nil
noncomputable def ent : Ent prog uni := Ent.of 47 [.sc] [.sc] cp cr F con fun args w => enters_of get (by kernel_rfl) rfl args w
end Go.Proofs.Ytpingihfadihfaa.AX.F47

/- The function 44 of the program in the small machine. No conditions. -/
namespace Go.Proofs.Ytpingihfadihfaa.AX.F44
open Go Go.Proofs.Try
noncomputable def code : Code := bodyOf f44
abbrev Y : Type := Int
def cp : Cod uni Int := (cod1 (iInt .i64))
def cr : Coz uni Int := (cozR (cod1 (iInt .i64)) (codD cod0))
noncomputable def es : List (Ent prog uni) := []
theorem get : prog.funcs[44]? = some f44 := by kernel_rfl

noncomputable def F : Int → Option (Int)
  | p0 =>
  cond (decide (p0 < 0)) (
   some (Go.IntKind.wrap (Go.IntKind.i64 ) (0 - p0))) (
   some p0)
theorem F.eq : ∀ x, F x = runF (mkE tab es 8 [] []) code [.sc] [.sc] [.tmp 2] (Coz.dec cr) (cp.enc x) := fun x => by kernel_rfl
theorem F.owed : owed (mkE (R := Int) tab es 8 [] []) code = [] := by kernel_rfl
theorem con : ∀ x y, F x = some y → Con prog 44 [.sc] [.sc] (cp.enc x) (cr.enc y).1 (cr.enc y).2 :=
  func_ok (c := code) (n := 8) (pf := [.sc]) (res := [.tmp 2]) tabOk uniOk mixed get (by kernel_rfl) (by kernel_rfl) (by kernel_rfl) (by decide) F.eq fun w0 M h x hx => by rw [F.owed] at hx; exact absurd hx List.not_mem_nil
noncomputable def ent : Ent prog uni := Ent.of 44 [.sc] [.sc] cp cr F con fun args w => enters_of get (by kernel_rfl) rfl args w
end Go.Proofs.Ytpingihfadihfaa.AX.F44

/- The function 43 of the program in the small machine. No conditions. -/
namespace Go.Proofs.Ytpingihfadihfaa.AX.F43
open Go Go.Proofs.Try
noncomputable def code : Code := bodyOf f43
abbrev Y : Type := (Int × Int)
def cp : Cod uni ((Int × Bool × Int × Int × Int × Int) × (Int × Bool × Int × Int × Int × Int)) := (codC (iAgg (codC (iInt .i64) (codC iBool (codC (iInt .i64) (codC (iInt .i64) (codC (iInt .i64) (cod1 (iInt .i64)))))))) (cod1 (iAgg (codC (iInt .i64) (codC iBool (codC (iInt .i64) (codC (iInt .i64) (codC (iInt .i64) (cod1 (iInt .i64))))))))))
def cr : Coz uni (Int × Int) := (cozR (codC (iInt .i64) (cod1 (iInt .i64))) (codD (codD cod0)))
noncomputable def es : List (Ent prog uni) := [F47.ent, F44.ent]
theorem get : prog.funcs[43]? = some f43 := by kernel_rfl

noncomputable def F : ((Int × Bool × Int × Int × Int × Int) × (Int × Bool × Int × Int × Int × Int)) → Option ((Int × Int))
  | ((p0_0, p0_1, p0_2, p0_3, p0_4, p0_5), (p1_0, p1_1, p1_2, p1_3, p1_4, p1_5)) =>
  (F47.F (Go.IntKind.wrap (Go.IntKind.i64 ) (p1_2 - p0_2))).bind fun y47 =>
  (F47.F (Go.IntKind.wrap (Go.IntKind.i64 ) (p1_3 - p0_3))).bind fun y47x2 =>
  (F47.F (Go.IntKind.wrap (Go.IntKind.i64 ) (p1_4 - p0_4))).bind fun y47x3 =>
  (F44.F y47).bind fun y44 =>
  (F44.F y47x2).bind fun y44x2 =>
  (F44.F y47x3).bind fun y44x3 =>
  cond ((Go.IntKind.wrap (Go.IntKind.i64 ) ((Go.IntKind.wrap (Go.IntKind.i64 ) (y44 + y44x2)) + y44x3)) != 1) (
   some (0, 0)) (
   cond (y47 != 0) (
    some (1, y47)) (
    cond (y47x2 != 0) (
     some (2, y47x2)) (
     some (3, y47x3))))
theorem F.eq : ∀ x, F x = runF (mkE tab es 45 [] []) code [.agg [.sc, .sc, .sc, .sc, .sc, .sc], .agg [.sc, .sc, .sc, .sc, .sc, .sc]] [.sc, .sc] [.tmp 4, .tmp 5] (Coz.dec cr) (cp.enc x) := fun x => by kernel_rfl
theorem F.owed : owed (mkE (R := (Int × Int)) tab es 45 [] []) code = [] := by kernel_rfl
theorem con : ∀ x y, F x = some y → Con prog 43 [.agg [.sc, .sc, .sc, .sc, .sc, .sc], .agg [.sc, .sc, .sc, .sc, .sc, .sc]] [.sc, .sc] (cp.enc x) (cr.enc y).1 (cr.enc y).2 :=
  func_ok (c := code) (n := 45) (pf := [.agg [.sc, .sc, .sc, .sc, .sc, .sc], .agg [.sc, .sc, .sc, .sc, .sc, .sc]]) (res := [.tmp 4, .tmp 5]) tabOk uniOk mixed get (by kernel_rfl) (by kernel_rfl) (by kernel_rfl) (by decide) F.eq fun w0 M h x hx => by rw [F.owed] at hx; exact absurd hx List.not_mem_nil
noncomputable def ent : Ent prog uni := Ent.of 43 [.agg [.sc, .sc, .sc, .sc, .sc, .sc], .agg [.sc, .sc, .sc, .sc, .sc, .sc]] [.sc, .sc] cp cr F con fun args w => enters_of get (by kernel_rfl) rfl args w
end Go.Proofs.Ytpingihfadihfaa.AX.F43

/- The function 31 of the program in the small machine. No conditions. -/
namespace Go.Proofs.Ytpingihfadihfaa.AX.F31
open Go Go.Proofs.Try
noncomputable def code : Code := bodyOf f31
abbrev Y : Type := (List S69)
def cp : Cod uni (List S50) := (cod1 (iRow 2))
def cr : Coz uni (List S69) := (cozR (cod1 (iRow 5)) (codD cod0))
noncomputable def es : List (Ent prog uni) := [F42.ent, F43.ent, F44.ent]
theorem get : prog.funcs[31]? = some f31 := by kernel_rfl

def l0.A : Ann := ⟨[(0, .slc 5000000 []), (3, .slc 5000192 []), (4, .box 5000256 0), (5, .sc)], [(5000256, 51, [.sc, .sc, .sc, .sc])], [(5000000, false, 2), (5000192, true, 5)], []⟩
def l0.c : Cod uni (Int × Bool × Int × Int × Int × (List S50) × (List S69)) := (codC (iInt .i64) (codC iBool (codC (iInt .i64) (codC (iInt .i64) (codC (iInt .i64) (codC (iRow 2) (cod1 (iRow 5))))))))
def l0.xs : List (AExit × Ann) := [((.exit 0), ⟨[(3, .slc 5000192 [])], [], [(5000192, true, 5)], []⟩)]
def l0.y : Coy uni ((List S69)) := (coy1 (cod1 (iRow 5)))
noncomputable def l0.b : Int × Bool × Int × Int × Int × (List S50) × (List S69) → Option ((Int × Bool × Int × Int × Int × (List S50) × (List S69)) ⊕ ((List S69)))
  | (v5, b256_0, b256_1, b256_2, b256_3, r0, r192) =>
  let x14 := (decide (v5 < ((List.length r0) : Int)))
  cond x14 (
   cond ((decide (0 ≤ v5)) && x14) (
    let x15 := (List.getD r0 (Int.toNat v5) z50)
    (F42.F ((b256_0, (b256_1, (b256_2, b256_3))), (x15.f0, (x15.f1, (x15.f2, x15.f3))))).bind fun y42 =>
    let x13 := (Go.IntKind.wrap (Go.IntKind.i64 ) (v5 + 1))
    cond (y42 == 0) (
     some (.inl (x13, b256_0, b256_1, b256_2, b256_3, r0, r192))) (
     (F43.F ((0, (false, (b256_1, (b256_2, (b256_3, 0))))), (0, (false, (x15.f1, (x15.f2, (x15.f3, 0))))))).bind fun y43 =>
     (F44.F (Go.IntKind.wrap (Go.IntKind.i64 ) (x15.f1 - b256_1))).bind fun y44 =>
     (F44.F (Go.IntKind.wrap (Go.IntKind.i64 ) (x15.f2 - b256_2))).bind fun y44x2 =>
     (F44.F (Go.IntKind.wrap (Go.IntKind.i64 ) (x15.f3 - b256_3))).bind fun y44x3 =>
     let x16 := ((List.length r192) : Int)
     let x12 := (Go.IntKind.wrap (Go.IntKind.i64 ) (x16 - 1))
     let x9 := (decide (0 ≤ x12))
     let x6 := (x9 && (decide (x12 < x16)))
     let x10 := (decide (x12 ≥ 0))
     cond ((!x10) || x6) (
      let x11 := (Int.toNat x12)
      let x8 := (List.getD r192 x11 z69)
      let x5 := (x10 && (x8.f1 == y43.1))
      cond ((!x5) || x6) (
       let x3 := (x5 && (x8.f2 == y43.2))
       cond ((!x3) || x6) (
        let x7 := (Go.IntKind.wrap (Go.IntKind.i64 ) (20 * (Go.IntKind.wrap (Go.IntKind.i64 ) ((Go.IntKind.wrap (Go.IntKind.i64 ) (y44 + y44x2)) + y44x3))))
        cond (x3 && (x8.f3 == x15.f0)) (
         cond x6 (
          cond (decide (((List.length x8.f0) + (List.length (v5 :: []))) ≤ 274877906944)) (
           cond x6 (
            cond (decide (x12 = x12)) (
             let x2 := (List.set r192 x11 (⟨(x8.f0 ++ (v5 :: [])), x8.f1, x8.f2, x8.f3, x8.f4, x8.f5, x8.f6, x8.f7, x8.f8⟩ : S69))
             let x0 := (x9 && (decide (x12 < ((List.length x2) : Int))))
             cond x0 (
              cond x0 (
               let x1 := (List.getD x2 x11 z69)
               some (.inl (x13, x15.f0, x15.f1, x15.f2, x15.f3, r0, (List.set x2 x11 (⟨x1.f0, x1.f1, x1.f2, x1.f3, x1.f4, x1.f5, x1.f6, x1.f7, (Go.IntKind.wrap (Go.IntKind.i64 ) (x1.f8 + x7))⟩ : S69))))) none) none) none) none) none) none) (
         let x4 := ((⟨(v5 :: []), y43.1, y43.2, x15.f0, b256_0, b256_1, b256_2, b256_3, x7⟩ : S69) :: [])
         cond (decide (((List.length r192) + (List.length x4)) ≤ 274877906944)) (
          some (.inl (x13, x15.f0, x15.f1, x15.f2, x15.f3, r0, (r192 ++ x4)))) none)) none) none) none)) none) (
   some (.inr r192))
noncomputable def l0 (x : Int × Bool × Int × Int × Int × (List S50) × (List S69)) : Option ((List S69)) := lim l0.b x
theorem l0.eq : ∀ x, l0.b x = roundX (mkE tab es 134 [] []) (loopAt 0 code) (cutOf l0.A l0.c) (cutsOf l0.xs l0.y) x := fun x => by kernel_rfl
theorem l0.owed {R : Type} : owed (mkE (R := R) tab es 134 [] []) (loopAt 0 code) = [] := by kernel_rfl
theorem l0.ok (w0 : World) (M : Own) (h : Pinned M []) {R : Type} : SoundO prog w0 M 134 (.block 0 (.loop (loopAt 0 code))) (loopO (R := R) 0 (cutOf l0.A l0.c) (cutsOf l0.xs l0.y) l0) :=
  loop_ok tabOk uniOk mixed l0.eq (h.sub rfl) (h.sub rfl) fun x hx => by rw [l0.owed] at hx; exact absurd hx List.not_mem_nil

noncomputable def F : (List S50) → Option ((List S69))
  | p0 =>
  (l0 (0, false, 0, 0, 0, p0, ([] : List S69))).bind fun yl0 =>
  some yl0
theorem F.eq : ∀ x, F x = runF (mkE tab es 134 [(0, some (loopO 0 (cutOf l0.A l0.c) (cutsOf l0.xs l0.y) l0))] []) code [.row 2 0] [.row 5] [.tmp 2] (Coz.dec cr) (cp.enc x) := fun x => by kernel_rfl
theorem F.owed : owed (mkE (R := (List S69)) tab es 134 [(0, some (loopO 0 (cutOf l0.A l0.c) (cutsOf l0.xs l0.y) l0))] []) code = [((.block 0 (.loop (loopAt 0 code))), (loopO (R := _) 0 (cutOf l0.A l0.c) (cutsOf l0.xs l0.y) l0))] := by kernel_rfl
theorem con : ∀ x y, F x = some y → Con prog 31 [.row 2 0] [.row 5] (cp.enc x) (cr.enc y).1 (cr.enc y).2 :=
  func_ok (c := code) (n := 134) (pf := [.row 2 0]) (res := [.tmp 2]) tabOk uniOk mixed get (by kernel_rfl) (by kernel_rfl) (by kernel_rfl) (by decide) F.eq fun w0 M h x hx => by rw [F.owed] at hx; rcases List.mem_cons.1 hx with rfl | hx; exact l0.ok w0 M h; exact absurd hx List.not_mem_nil
noncomputable def ent : Ent prog uni := Ent.of 31 [.row 2 0] [.row 5] cp cr F con fun args w => enters_of get (by kernel_rfl) rfl args w
end Go.Proofs.Ytpingihfadihfaa.AX.F31

/- The function 32 of the program in the small machine. No conditions. -/
namespace Go.Proofs.Ytpingihfadihfaa.AX.F32
open Go Go.Proofs.Try
noncomputable def code : Code := bodyOf f32
abbrev Y : Type := (Int × Int × Int)
def cp : Cod uni ((List S50) × ((List Int) × Int × Int × Bool × Bool × Int × Int × Int × Int) × Int × Int) := (codC (iRow 2) (codC (iAgg (codC (iRow 6) (codC (iInt .i64) (codC (iInt .i64) (codC iBool (codC iBool (codC (iInt .i64) (codC (iInt .i64) (codC (iInt .i64) (cod1 (iInt .i64))))))))))) (codC (iInt .i64) (cod1 (iInt .i64)))))
def cr : Coz uni (Int × Int × Int) := (cozR (cod1 (iAgg (codC (iInt .i64) (codC (iInt .i64) (cod1 (iInt .i64)))))) (codD (codD (codD (codD cod0)))))
noncomputable def es : List (Ent prog uni) := [F44.ent]
theorem get : prog.funcs[32]? = some f32 := by kernel_rfl

def l0.A : Ann := ⟨[(0, .slc 5000000 []), (2, .sc), (3, .sc), (5, .box 5000320 0), (8, .box 5000512 0), (9, .box 5000576 0), (10, .sc)], [(5000320, 70, [.slc 5000330 [], .sc, .sc, .sc, .sc, .sc, .sc, .sc, .sc]), (5000512, 39, [.sc, .sc, .sc]), (5000576, 51, [.sc, .sc, .sc, .sc])], [(5000000, false, 2), (5000330, false, 6)], []⟩
def l0.c : Cod uni (Int × Int × Int × Int × Int × Bool × Bool × Int × Int × Int × Int × Int × Int × Int × Bool × Int × Int × Int × (List S50) × (List Int)) := (codC (iInt .i64) (codC (iInt .i64) (codC (iInt .i64) (codC (iInt .i64) (codC (iInt .i64) (codC iBool (codC iBool (codC (iInt .i64) (codC (iInt .i64) (codC (iInt .i64) (codC (iInt .i64) (codC (iInt .i64) (codC (iInt .i64) (codC (iInt .i64) (codC iBool (codC (iInt .i64) (codC (iInt .i64) (codC (iInt .i64) (codC (iRow 2) (cod1 (iRow 6)))))))))))))))))))))
def l0.xs : List (AExit × Ann) := [(.ret, ⟨[(8, .box 5000512 0)], [(5000512, 39, [.sc, .sc, .sc])], [], []⟩), ((.exit 0), ⟨[(8, .box 5000512 0)], [(5000512, 39, [.sc, .sc, .sc])], [], []⟩)]
def l0.y : Coy uni ((Int × Int × Int) ⊕ (Int × Int × Int)) := (coyS (codC (iInt .i64) (codC (iInt .i64) (cod1 (iInt .i64)))) (coy1 (codC (iInt .i64) (codC (iInt .i64) (cod1 (iInt .i64))))))
noncomputable def l0.b : Int × Int × Int × Int × Int × Bool × Bool × Int × Int × Int × Int × Int × Int × Int × Bool × Int × Int × Int × (List S50) × (List Int) → Option ((Int × Int × Int × Int × Int × Bool × Bool × Int × Int × Int × Int × Int × Int × Int × Bool × Int × Int × Int × (List S50) × (List Int)) ⊕ ((Int × Int × Int) ⊕ (Int × Int × Int)))
  | (v2, v3, v10, b320_1, b320_2, b320_3, b320_4, b320_5, b320_6, b320_7, b320_8, b512_0, b512_1, b512_2, b576_0, b576_1, b576_2, b576_3, r0, r330) =>
  let x3 := (decide (v10 < ((List.length r330) : Int)))
  cond x3 (
   let x1 := ((decide (0 ≤ v10)) && x3)
   cond x1 (
    let x4 := (List.getD r330 (Int.toNat v10) 0)
    cond ((decide (0 ≤ x4)) && (decide (x4 < ((List.length r0) : Int)))) (
     let x2 := (List.getD r0 (Int.toNat x4) z50)
     (F44.F (Go.IntKind.wrap (Go.IntKind.i64 ) (x2.f1 - b576_1))).bind fun y44 =>
     (F44.F (Go.IntKind.wrap (Go.IntKind.i64 ) (x2.f2 - b576_2))).bind fun y44x2 =>
     (F44.F (Go.IntKind.wrap (Go.IntKind.i64 ) (x2.f3 - b576_3))).bind fun y44x3 =>
     let x0 := (Go.IntKind.wrap (Go.IntKind.i64 ) (20 * (Go.IntKind.wrap (Go.IntKind.i64 ) ((Go.IntKind.wrap (Go.IntKind.i64 ) (y44 + y44x2)) + y44x3))))
     cond (decide (v2 < x0)) (
      cond x1 (
       some (.inr (.inl (x4, v2, v3)))) none) (
      some (.inl ((Go.IntKind.wrap (Go.IntKind.i64 ) (v2 - x0)), v3, (Go.IntKind.wrap (Go.IntKind.i64 ) (v10 + 1)), b320_1, b320_2, b320_3, b320_4, b320_5, b320_6, b320_7, b320_8, b512_0, b512_1, b512_2, x2.f0, x2.f1, x2.f2, x2.f3, r0, r330)))) none) none) (
   some (.inr (.inr (b512_0, b512_1, b512_2))))
noncomputable def l0 (x : Int × Int × Int × Int × Int × Bool × Bool × Int × Int × Int × Int × Int × Int × Int × Bool × Int × Int × Int × (List S50) × (List Int)) : Option ((Int × Int × Int) ⊕ (Int × Int × Int)) := lim l0.b x
theorem l0.eq : ∀ x, l0.b x = roundX (mkE tab es 67 [] []) (loopAt 0 code) (cutOf l0.A l0.c) (cutsOf l0.xs l0.y) x := fun x => by kernel_rfl
theorem l0.owed {R : Type} : owed (mkE (R := R) tab es 67 [] []) (loopAt 0 code) = [] := by kernel_rfl
theorem l0.ok (w0 : World) (M : Own) (h : Pinned M []) {R : Type} : SoundO prog w0 M 67 (.block 0 (.loop (loopAt 0 code))) (loopO (R := R) 0 (cutOf l0.A l0.c) (cutsOf l0.xs l0.y) l0) :=
  loop_ok tabOk uniOk mixed l0.eq (h.sub rfl) (h.sub rfl) fun x hx => by rw [l0.owed] at hx; exact absurd hx List.not_mem_nil

noncomputable def F : ((List S50) × ((List Int) × Int × Int × Bool × Bool × Int × Int × Int × Int) × Int × Int) → Option ((Int × Int × Int))
  | (p0, (p1_0, p1_1, p1_2, p1_3, p1_4, p1_5, p1_6, p1_7, p1_8), p2, p3) =>
  (l0 (p2, p3, 0, p1_1, p1_2, p1_3, p1_4, p1_5, p1_6, p1_7, p1_8, 0, 0, 0, p1_4, p1_5, p1_6, p1_7, p0, p1_0)).bind fun q => match q with
  | (.inl yl0) =>
   some (yl0.1, (yl0.2.1, yl0.2.2))
  | (.inr yl0) =>
   some ((-1), (0, 0))
theorem F.eq : ∀ x, F x = runF (mkE tab es 67 [(0, some (loopO 0 (cutOf l0.A l0.c) (cutsOf l0.xs l0.y) l0))] []) code [.row 2 0, .agg [.row 6 0, .sc, .sc, .sc, .sc, .sc, .sc, .sc, .sc], .sc, .sc] [.agg [.sc, .sc, .sc]] [.cell 8 39] (Coz.dec cr) (cp.enc x) := fun x => by kernel_rfl
theorem F.owed : owed (mkE (R := (Int × Int × Int)) tab es 67 [(0, some (loopO 0 (cutOf l0.A l0.c) (cutsOf l0.xs l0.y) l0))] []) code = [((.block 0 (.loop (loopAt 0 code))), (loopO (R := _) 0 (cutOf l0.A l0.c) (cutsOf l0.xs l0.y) l0))] := by kernel_rfl
theorem con : ∀ x y, F x = some y → Con prog 32 [.row 2 0, .agg [.row 6 0, .sc, .sc, .sc, .sc, .sc, .sc, .sc, .sc], .sc, .sc] [.agg [.sc, .sc, .sc]] (cp.enc x) (cr.enc y).1 (cr.enc y).2 :=
  func_ok (c := code) (n := 67) (pf := [.row 2 0, .agg [.row 6 0, .sc, .sc, .sc, .sc, .sc, .sc, .sc, .sc], .sc, .sc]) (res := [.cell 8 39]) tabOk uniOk mixed get (by kernel_rfl) (by kernel_rfl) (by kernel_rfl) (by decide) F.eq fun w0 M h x hx => by rw [F.owed] at hx; rcases List.mem_cons.1 hx with rfl | hx; exact l0.ok w0 M h; exact absurd hx List.not_mem_nil
noncomputable def ent : Ent prog uni := Ent.of 32 [.row 2 0, .agg [.row 6 0, .sc, .sc, .sc, .sc, .sc, .sc, .sc, .sc], .sc, .sc] [.agg [.sc, .sc, .sc]] cp cr F con fun args w => enters_of get (by kernel_rfl) rfl args w
end Go.Proofs.Ytpingihfadihfaa.AX.F32

/- The function 45 of the program in the small machine. No conditions. -/
namespace Go.Proofs.Ytpingihfadihfaa.AX.F45
open Go Go.Proofs.Try
noncomputable def code : Code := bodyOf f45
abbrev Y : Type := Int
def cp : Cod uni (Int × Int) := (codC (iInt .i64) (cod1 (iInt .i64)))
def cr : Coz uni Int := (cozR (cod1 (iInt .i64)) (codD (codD cod0)))
noncomputable def es : List (Ent prog uni) := []
theorem get : prog.funcs[45]? = some f45 := by kernel_rfl

def l0.A : Ann := ⟨[(0, .sc), (1, .sc), (5, .sc)], [], [], []⟩
def l0.c : Cod uni (Int × Int × Int) := (codC (iInt .i64) (codC (iInt .i64) (cod1 (iInt .i64))))
def l0.xs : List (AExit × Ann) := [((.exit 0), ⟨[(5, .sc)], [], [], []⟩)]
def l0.y : Coy uni (Int) := (coy1 (cod1 (iInt .i64)))
noncomputable def l0.b : Int × Int × Int → Option ((Int × Int × Int) ⊕ (Int))
  | (v0, v1, v5) =>
  cond (decide (v0 > 0)) (
   some (.inl ((Go.IntKind.wrap (Go.IntKind.i64 ) (v0 - v1)), v1, (Go.IntKind.wrap (Go.IntKind.i64 ) (v5 + v0))))) (
   some (.inr v5))
noncomputable def l0 (x : Int × Int × Int) : Option (Int) := lim l0.b x
theorem l0.eq : ∀ x, l0.b x = roundX (mkE tab es 15 [] []) (loopAt 0 code) (cutOf l0.A l0.c) (cutsOf l0.xs l0.y) x := fun x => by kernel_rfl
theorem l0.owed {R : Type} : owed (mkE (R := R) tab es 15 [] []) (loopAt 0 code) = [] := by kernel_rfl
theorem l0.ok (w0 : World) (M : Own) (h : Pinned M []) {R : Type} : SoundO prog w0 M 15 (.block 0 (.loop (loopAt 0 code))) (loopO (R := R) 0 (cutOf l0.A l0.c) (cutsOf l0.xs l0.y) l0) :=
  loop_ok tabOk uniOk mixed l0.eq (h.sub rfl) (h.sub rfl) fun x hx => by rw [l0.owed] at hx; exact absurd hx List.not_mem_nil

noncomputable def F : (Int × Int) → Option (Int)
  | (p0, p1) =>
  (l0 (p0, p1, 0)).bind fun yl0 =>
  some yl0
theorem F.eq : ∀ x, F x = runF (mkE tab es 15 [(0, some (loopO 0 (cutOf l0.A l0.c) (cutsOf l0.xs l0.y) l0))] []) code [.sc, .sc] [.sc] [.tmp 4] (Coz.dec cr) (cp.enc x) := fun x => by kernel_rfl
theorem F.owed : owed (mkE (R := Int) tab es 15 [(0, some (loopO 0 (cutOf l0.A l0.c) (cutsOf l0.xs l0.y) l0))] []) code = [((.block 0 (.loop (loopAt 0 code))), (loopO (R := _) 0 (cutOf l0.A l0.c) (cutsOf l0.xs l0.y) l0))] := by kernel_rfl
theorem con : ∀ x y, F x = some y → Con prog 45 [.sc, .sc] [.sc] (cp.enc x) (cr.enc y).1 (cr.enc y).2 :=
  func_ok (c := code) (n := 15) (pf := [.sc, .sc]) (res := [.tmp 4]) tabOk uniOk mixed get (by kernel_rfl) (by kernel_rfl) (by kernel_rfl) (by decide) F.eq fun w0 M h x hx => by rw [F.owed] at hx; rcases List.mem_cons.1 hx with rfl | hx; exact l0.ok w0 M h; exact absurd hx List.not_mem_nil
noncomputable def ent : Ent prog uni := Ent.of 45 [.sc, .sc] [.sc] cp cr F con fun args w => enters_of get (by kernel_rfl) rfl args w
end Go.Proofs.Ytpingihfadihfaa.AX.F45

/- The function 33 of the program in the small machine. No conditions. -/
namespace Go.Proofs.Ytpingihfadihfaa.AX.F33
open Go Go.Proofs.Try
noncomputable def code : Code := bodyOf f33
abbrev Y : Type := Int
def cp : Cod uni (Int × Int × Int × Int) := (codC (iInt .i64) (codC (iInt .i64) (codC (iInt .i64) (cod1 (iInt .i64)))))
def cr : Coz uni Int := (cozR (cod1 (iInt .i64)) (codD (codD (codD (codD cod0)))))
noncomputable def es : List (Ent prog uni) := [F45.ent]
theorem get : prog.funcs[33]? = some f33 := by kernel_rfl

def l0.A : Ann := ⟨[(2, .sc), (3, .sc), (9, .sc)], [], [], []⟩
def l0.c : Cod uni (Int × Int × Int) := (codC (iInt .i64) (codC (iInt .i64) (cod1 (iInt .i64))))
def l0.xs : List (AExit × Ann) := [((.exit 0), ⟨[(9, .sc)], [], [], []⟩)]
def l0.y : Coy uni (Int) := (coy1 (cod1 (iInt .i64)))
noncomputable def l0.b : Int × Int × Int → Option ((Int × Int × Int) ⊕ (Int))
  | (v2, v3, v9) =>
  let x0 := (Go.IntKind.wrap (Go.IntKind.i64 ) (v9 - 1))
  cond (decide (v9 > 1)) (
   (F45.F (v9, v2)).bind fun y45 =>
   cond ((decide (v9 > 1)) && (decide (y45 > v3))) (
    some (.inl (v2, v3, x0))) (
    some (.inr v9))) (
   cond ((decide (v9 > 1)) && (decide (0 > v3))) (
    some (.inl (v2, v3, x0))) (
    some (.inr v9)))
noncomputable def l0 (x : Int × Int × Int) : Option (Int) := lim l0.b x
theorem l0.eq : ∀ x, l0.b x = roundX (mkE tab es 27 [] []) (loopAt 0 code) (cutOf l0.A l0.c) (cutsOf l0.xs l0.y) x := fun x => by kernel_rfl
theorem l0.owed {R : Type} : owed (mkE (R := R) tab es 27 [] []) (loopAt 0 code) = [] := by kernel_rfl
theorem l0.ok (w0 : World) (M : Own) (h : Pinned M []) {R : Type} : SoundO prog w0 M 27 (.block 0 (.loop (loopAt 0 code))) (loopO (R := R) 0 (cutOf l0.A l0.c) (cutsOf l0.xs l0.y) l0) :=
  loop_ok tabOk uniOk mixed l0.eq (h.sub rfl) (h.sub rfl) fun x hx => by rw [l0.owed] at hx; exact absurd hx List.not_mem_nil

noncomputable def F : (Int × Int × Int × Int) → Option (Int)
  | (p0, p1, p2, p3) =>
  let x0 := (Go.IntKind.wrap (Go.IntKind.i64 ) (p0 + p2))
  (l0 (p2, p3, (if (x0 < p1) then x0 else p1))).bind fun yl0 =>
  some yl0
theorem F.eq : ∀ x, F x = runF (mkE tab es 27 [(0, some (loopO 0 (cutOf l0.A l0.c) (cutsOf l0.xs l0.y) l0))] []) code [.sc, .sc, .sc, .sc] [.sc] [.tmp 8] (Coz.dec cr) (cp.enc x) := fun x => by kernel_rfl
theorem F.owed : owed (mkE (R := Int) tab es 27 [(0, some (loopO 0 (cutOf l0.A l0.c) (cutsOf l0.xs l0.y) l0))] []) code = [((.block 0 (.loop (loopAt 0 code))), (loopO (R := _) 0 (cutOf l0.A l0.c) (cutsOf l0.xs l0.y) l0))] := by kernel_rfl
theorem con : ∀ x y, F x = some y → Con prog 33 [.sc, .sc, .sc, .sc] [.sc] (cp.enc x) (cr.enc y).1 (cr.enc y).2 :=
  func_ok (c := code) (n := 27) (pf := [.sc, .sc, .sc, .sc]) (res := [.tmp 8]) tabOk uniOk mixed get (by kernel_rfl) (by kernel_rfl) (by kernel_rfl) (by decide) F.eq fun w0 M h x hx => by rw [F.owed] at hx; rcases List.mem_cons.1 hx with rfl | hx; exact l0.ok w0 M h; exact absurd hx List.not_mem_nil
noncomputable def ent : Ent prog uni := Ent.of 33 [.sc, .sc, .sc, .sc] [.sc] cp cr F con fun args w => enters_of get (by kernel_rfl) rfl args w
end Go.Proofs.Ytpingihfadihfaa.AX.F33

/- The function 34 of the program in the small machine. No conditions. -/
namespace Go.Proofs.Ytpingihfadihfaa.AX.F34
open Go Go.Proofs.Try
noncomputable def code : Code := bodyOf f34
abbrev Y : Type := (Int × Int × Int × Int)
def cp : Cod uni (((List Int) × Int × Int × Bool × Bool × Int × Int × Int × Int) × Int) := (codC (iAgg (codC (iRow 6) (codC (iInt .i64) (codC (iInt .i64) (codC iBool (codC iBool (codC (iInt .i64) (codC (iInt .i64) (codC (iInt .i64) (cod1 (iInt .i64))))))))))) (cod1 (iInt .i64)))
def cr : Coz uni (Int × Int × Int × Int) := (cozR (cod1 (iAgg (codC (iInt .i64) (codC (iInt .i64) (codC (iInt .i64) (cod1 (iInt .i64))))))) (codD (codD cod0)))
noncomputable def es : List (Ent prog uni) := []
theorem get : prog.funcs[34]? = some f34 := by kernel_rfl

noncomputable def F : (((List Int) × Int × Int × Bool × Bool × Int × Int × Int × Int) × Int) → Option ((Int × Int × Int × Int))
  | ((p0_0, p0_1, p0_2, p0_3, p0_4, p0_5, p0_6, p0_7, p0_8), p1) =>
  let x0 := (Go.IntKind.wrap (Go.IntKind.i64 ) (p0_5 * 20))
  let x1 := (Go.IntKind.wrap (Go.IntKind.i64 ) (p0_2 * p1))
  let x2 := (Go.IntKind.wrap (Go.IntKind.i64 ) (p0_6 * 20))
  let x3 := (Go.IntKind.wrap (Go.IntKind.i64 ) (p0_7 * 20))
  cond (p0_1 == 1) (
   some ((Go.IntKind.wrap (Go.IntKind.i64 ) (x0 + x1)), (x2, (x3, 0)))) (
   cond (p0_1 == 2) (
    some (x0, ((Go.IntKind.wrap (Go.IntKind.i64 ) (x2 + x1)), (x3, 0)))) (
    some (x0, (x2, ((Go.IntKind.wrap (Go.IntKind.i64 ) (x3 + x1)), 0)))))
theorem F.eq : ∀ x, F x = runF (mkE tab es 50 [] []) code [.agg [.row 6 0, .sc, .sc, .sc, .sc, .sc, .sc, .sc, .sc], .sc] [.agg [.sc, .sc, .sc, .sc]] [.cell 4 60] (Coz.dec cr) (cp.enc x) := fun x => by kernel_rfl
theorem F.owed : owed (mkE (R := (Int × Int × Int × Int)) tab es 50 [] []) code = [] := by kernel_rfl
theorem con : ∀ x y, F x = some y → Con prog 34 [.agg [.row 6 0, .sc, .sc, .sc, .sc, .sc, .sc, .sc, .sc], .sc] [.agg [.sc, .sc, .sc, .sc]] (cp.enc x) (cr.enc y).1 (cr.enc y).2 :=
  func_ok (c := code) (n := 50) (pf := [.agg [.row 6 0, .sc, .sc, .sc, .sc, .sc, .sc, .sc, .sc], .sc]) (res := [.cell 4 60]) tabOk uniOk mixed get (by kernel_rfl) (by kernel_rfl) (by kernel_rfl) (by decide) F.eq fun w0 M h x hx => by rw [F.owed] at hx; exact absurd hx List.not_mem_nil
noncomputable def ent : Ent prog uni := Ent.of 34 [.agg [.row 6 0, .sc, .sc, .sc, .sc, .sc, .sc, .sc, .sc], .sc] [.agg [.sc, .sc, .sc, .sc]] cp cr F con fun args w => enters_of get (by kernel_rfl) rfl args w
end Go.Proofs.Ytpingihfadihfaa.AX.F34

/- The function 23 of the program in the small machine. No conditions. -/
namespace Go.Proofs.Ytpingihfadihfaa.AX.F23
open Go Go.Proofs.Try
noncomputable def code : Code := bodyOf f23
abbrev Y : Type := ((List S59) × (List S38) × Int)
def cp : Cod uni ((List S50) × Int × Int) := (codC (iRow 2) (codC (iInt .i64) (cod1 (iInt .i64))))
def cr : Coz uni ((List S59) × (List S38) × Int) := (cozR (codC (iRow 1) (codC (iRow 4) (cod1 (iInt .i64)))) (codD (codD (codD cod0))))
noncomputable def es : List (Ent prog uni) := [F30.ent, F31.ent, F32.ent, F33.ent, F34.ent]
theorem get : prog.funcs[23]? = some f23 := by kernel_rfl

def l2.A : Ann := ⟨[(0, .slc 5000000 []), (1, .sc), (2, .sc), (10, .slc 5000640 []), (11, .slc 5000704 []), (12, .slc 5000768 []), (13, .sc), (14, .box 5000896 0), (15, .sc), (16, .sc), (17, .sc)], [(5000896, 70, [.slc 5000640 [0], .sc, .sc, .sc, .sc, .sc, .sc, .sc, .sc])], [(5000000, false, 2), (5000640, true, 5), (5000704, true, 1), (5000768, true, 4)], []⟩
def l2.c : Cod uni (Int × Int × Int × Int × Int × Int × Int × Int × Int × Bool × Bool × Int × Int × Int × Int × (List S50) × (List S69) × (List S59) × (List S38)) := (codC (iInt .i64) (codC (iInt .i64) (codC (iInt .i64) (codC (iInt .i64) (codC (iInt .i64) (codC (iInt .i64) (codC (iInt .i64) (codC (iInt .i64) (codC (iInt .i64) (codC iBool (codC iBool (codC (iInt .i64) (codC (iInt .i64) (codC (iInt .i64) (codC (iInt .i64) (codC (iRow 2) (codC (iRow 5) (codC (iRow 1) (cod1 (iRow 4))))))))))))))))))))
def l2.xs : List (AExit × Ann) := [(.ret, ⟨[(6, .slc 5000384 []), (7, .slc 5000448 []), (8, .sc)], [], [(5000384, true, 1), (5000448, true, 4)], []⟩), ((.exit 2), ⟨[(0, .slc 5000000 []), (1, .sc), (2, .sc), (10, .slc 5000640 []), (11, .slc 5000704 []), (12, .slc 5000768 []), (13, .sc)], [], [(5000000, false, 2), (5000640, true, 5), (5000704, true, 1), (5000768, true, 4)], []⟩)]
def l2.y : Coy uni ((Int × (List S59) × (List S38)) ⊕ (Int × Int × Int × (List S50) × (List S69) × (List S59) × (List S38))) := (coyS (codC (iInt .i64) (codC (iRow 1) (cod1 (iRow 4)))) (coy1 (codC (iInt .i64) (codC (iInt .i64) (codC (iInt .i64) (codC (iRow 2) (codC (iRow 5) (codC (iRow 1) (cod1 (iRow 4))))))))))
noncomputable def l2.b : Int × Int × Int × Int × Int × Int × Int × Int × Int × Bool × Bool × Int × Int × Int × Int × (List S50) × (List S69) × (List S59) × (List S38) → Option ((Int × Int × Int × Int × Int × Int × Int × Int × Int × Bool × Bool × Int × Int × Int × Int × (List S50) × (List S69) × (List S59) × (List S38)) ⊕ ((Int × (List S59) × (List S38)) ⊕ (Int × Int × Int × (List S50) × (List S69) × (List S59) × (List S38))))
  | (v1, v2, v13, v15, v16, v17, b896_0i0, b896_1, b896_2, b896_3, b896_4, b896_5, b896_6, b896_7, b896_8, r0, r640, r704, r768) =>
  cond (decide (v16 < b896_8)) (
   let x3 := (List.getD r640 (Int.toNat b896_0i0) z69)
   (F32.F (r0, ((x3.f0, (b896_1, (b896_2, (b896_3, (b896_4, (b896_5, (b896_6, (b896_7, b896_8)))))))), (v16, v17)))).bind fun y32 =>
   let x4 := ((⟨y32.1, y32.2.1, y32.2.2⟩ : S38) :: [])
   cond (decide (((List.length r768) + (List.length x4)) ≤ 274877906944)) (
    (F33.F (v17, (v15, (v2, (Go.IntKind.wrap (Go.IntKind.i64 ) (b896_8 - v16)))))).bind fun y33 =>
    let x2 := (Go.IntKind.wrap (Go.IntKind.i64 ) (v16 + y33))
    (F34.F ((x3.f0, (b896_1, (b896_2, (b896_3, (b896_4, (b896_5, (b896_6, (b896_7, b896_8)))))))), x2)).bind fun y34 =>
    let x1 := ((⟨y34.1, y34.2.1, y34.2.2.1, y33⟩ : S59) :: [])
    cond (decide (((List.length r704) + (List.length x1)) ≤ 274877906944)) (
     let x0 := (r704 ++ x1)
     cond (decide (((List.length x0) : Int) > 20000)) (
      some (.inr (.inl (18, ([] : List S59), ([] : List S38))))) (
      some (.inl (v1, v2, v13, v15, x2, y33, b896_0i0, b896_1, b896_2, b896_3, b896_4, b896_5, b896_6, b896_7, b896_8, r0, r640, x0, (r768 ++ x4))))) none) none) (
   some (.inr (.inr (v1, v2, v13, r0, r640, r704, r768))))
noncomputable def l2 (x : Int × Int × Int × Int × Int × Int × Int × Int × Int × Bool × Bool × Int × Int × Int × Int × (List S50) × (List S69) × (List S59) × (List S38)) : Option ((Int × (List S59) × (List S38)) ⊕ (Int × Int × Int × (List S50) × (List S69) × (List S59) × (List S38))) := lim l2.b x
theorem l2.eq : ∀ x, l2.b x = roundX (mkE tab es 93 [] []) (loopAt 2 code) (cutOf l2.A l2.c) (cutsOf l2.xs l2.y) x := fun x => by kernel_rfl
theorem l2.owed {R : Type} : owed (mkE (R := R) tab es 93 [] []) (loopAt 2 code) = [] := by kernel_rfl
theorem l2.ok (w0 : World) (M : Own) (h : Pinned M []) {R : Type} : SoundO prog w0 M 93 (.block 2 (.loop (loopAt 2 code))) (loopO (R := R) 2 (cutOf l2.A l2.c) (cutsOf l2.xs l2.y) l2) :=
  loop_ok tabOk uniOk mixed l2.eq (h.sub rfl) (h.sub rfl) fun x hx => by rw [l2.owed] at hx; exact absurd hx List.not_mem_nil

def t14.A : Ann := ⟨[(0, .slc 5000000 []), (1, .sc), (2, .sc), (10, .slc 5000640 []), (11, .slc 5000704 []), (12, .slc 5000768 []), (13, .sc), (14, .box 5000896 0), (15, .sc)], [(5000896, 70, [.slc 5000640 [0], .sc, .sc, .sc, .sc, .sc, .sc, .sc, .sc])], [(5000000, false, 2), (5000640, true, 5), (5000704, true, 1), (5000768, true, 4)], []⟩
def t14.c : Cod uni (Int × Int × Int × Int × Int × Int × Int × Bool × Bool × Int × Int × Int × Int × (List S50) × (List S69) × (List S59) × (List S38)) := (codC (iInt .i64) (codC (iInt .i64) (codC (iInt .i64) (codC (iInt .i64) (codC (iInt .i64) (codC (iInt .i64) (codC (iInt .i64) (codC iBool (codC iBool (codC (iInt .i64) (codC (iInt .i64) (codC (iInt .i64) (codC (iInt .i64) (codC (iRow 2) (codC (iRow 5) (codC (iRow 1) (cod1 (iRow 4))))))))))))))))))
def t14.xs : List (AExit × Ann) := [(.ret, ⟨[(6, .slc 5000384 []), (7, .slc 5000448 []), (8, .sc)], [], [(5000384, true, 1), (5000448, true, 4)], []⟩), (.normal, ⟨[(0, .slc 5000000 []), (1, .sc), (2, .sc), (10, .slc 5000640 []), (11, .slc 5000704 []), (12, .slc 5000768 []), (13, .sc)], [], [(5000000, false, 2), (5000640, true, 5), (5000704, true, 1), (5000768, true, 4)], []⟩)]
def t14.y : Coy uni ((Int × (List S59) × (List S38)) ⊕ (Int × Int × Int × (List S50) × (List S69) × (List S59) × (List S38))) := (coyS (codC (iInt .i64) (codC (iRow 1) (cod1 (iRow 4)))) (coy1 (codC (iInt .i64) (codC (iInt .i64) (codC (iInt .i64) (codC (iRow 2) (codC (iRow 5) (codC (iRow 1) (cod1 (iRow 4))))))))))
noncomputable def t14 : Int × Int × Int × Int × Int × Int × Int × Bool × Bool × Int × Int × Int × Int × (List S50) × (List S69) × (List S59) × (List S38) → Option ((Int × (List S59) × (List S38)) ⊕ (Int × Int × Int × (List S50) × (List S69) × (List S59) × (List S38)))
  | (v1, v2, v13, v15, b896_0i0, b896_1, b896_2, b896_3, b896_4, b896_5, b896_6, b896_7, b896_8, r0, r640, r704, r768) =>
  (l2 (v1, v2, v13, v15, 0, 0, b896_0i0, b896_1, b896_2, b896_3, b896_4, b896_5, b896_6, b896_7, b896_8, r0, r640, r704, r768)).bind fun q => match q with
  | (.inl yl2) =>
   some (.inl (yl2.1, yl2.2.1, yl2.2.2))
  | (.inr yl2) =>
   some (.inr (yl2.1, yl2.2.1, yl2.2.2.1, yl2.2.2.2.1, yl2.2.2.2.2.1, yl2.2.2.2.2.2.1, yl2.2.2.2.2.2.2))
theorem t14.eq : ∀ x, t14 x = tailX (mkE tab es 93 [(2, some (loopO 2 (cutOf l2.A l2.c) (cutsOf l2.xs l2.y) l2))] []) (tailAt 14 code) (cutOf t14.A t14.c) (cutsOf t14.xs t14.y) x := fun x => by kernel_rfl
theorem t14.owed {R : Type} : owed (mkE (R := R) tab es 93 [(2, some (loopO 2 (cutOf l2.A l2.c) (cutsOf l2.xs l2.y) l2))] []) (tailAt 14 code) = [((.block 2 (.loop (loopAt 2 code))), (loopO (R := _) 2 (cutOf l2.A l2.c) (cutsOf l2.xs l2.y) l2))] := by kernel_rfl
theorem t14.ok (w0 : World) (M : Own) (h : Pinned M []) {R : Type} : SoundO prog w0 M 93 (tailAt 14 code) (tailO (R := R) (cutOf t14.A t14.c) (cutsOf t14.xs t14.y) t14) :=
  tail_ok tabOk uniOk mixed t14.eq (h.sub rfl) (h.sub rfl) fun x hx => by rw [t14.owed] at hx; rcases List.mem_cons.1 hx with rfl | hx; exact l2.ok w0 M h; exact absurd hx List.not_mem_nil

def l0.A : Ann := ⟨[(0, .slc 5000000 []), (1, .sc), (2, .sc), (10, .slc 5000640 []), (11, .slc 5000704 []), (12, .slc 5000768 []), (13, .sc)], [], [(5000000, false, 2), (5000640, true, 5), (5000704, true, 1), (5000768, true, 4)], []⟩
def l0.c : Cod uni (Int × Int × Int × (List S50) × (List S69) × (List S59) × (List S38)) := (codC (iInt .i64) (codC (iInt .i64) (codC (iInt .i64) (codC (iRow 2) (codC (iRow 5) (codC (iRow 1) (cod1 (iRow 4))))))))
def l0.xs : List (AExit × Ann) := [(.ret, ⟨[(6, .slc 5000384 []), (7, .slc 5000448 []), (8, .sc)], [], [(5000384, true, 1), (5000448, true, 4)], []⟩), ((.exit 0), ⟨[(0, .slc 5000000 []), (11, .slc 5000704 []), (12, .slc 5000768 [])], [], [(5000000, false, 2), (5000704, true, 1), (5000768, true, 4)], []⟩)]
def l0.y : Coy uni ((Int × (List S59) × (List S38)) ⊕ ((List S50) × (List S59) × (List S38))) := (coyS (codC (iInt .i64) (codC (iRow 1) (cod1 (iRow 4)))) (coy1 (codC (iRow 2) (codC (iRow 1) (cod1 (iRow 4))))))
noncomputable def l0.b : Int × Int × Int × (List S50) × (List S69) × (List S59) × (List S38) → Option ((Int × Int × Int × (List S50) × (List S69) × (List S59) × (List S38)) ⊕ ((Int × (List S59) × (List S38)) ⊕ ((List S50) × (List S59) × (List S38))))
  | (v1, v2, v13, r0, r640, r704, r768) =>
  let x0 := (decide (v13 < ((List.length r640) : Int)))
  cond x0 (
   cond ((decide (0 ≤ v13)) && x0) (
    let x1 := (List.getD r640 (Int.toNat v13) z69)
    cond (!x1.f3) (
     (t14 (v1, v2, v13, (Go.IntKind.wrap (Go.IntKind.i64 ) (Int.tdiv (Go.IntKind.wrap (Go.IntKind.i64 ) (v1 + 1)) 2)), v13, x1.f1, x1.f2, x1.f3, x1.f4, x1.f5, x1.f6, x1.f7, x1.f8, r0, r640, r704, r768)).bind fun q => match q with
     | (.inl yt14) =>
      some (.inr (.inl (yt14.1, yt14.2.1, yt14.2.2)))
     | (.inr yt14) =>
      some (.inl (yt14.1, yt14.2.1, (Go.IntKind.wrap (Go.IntKind.i64 ) (yt14.2.2.1 + 1)), yt14.2.2.2.1, yt14.2.2.2.2.1, yt14.2.2.2.2.2.1, yt14.2.2.2.2.2.2))) (
     (t14 (v1, v2, v13, v1, v13, x1.f1, x1.f2, x1.f3, x1.f4, x1.f5, x1.f6, x1.f7, x1.f8, r0, r640, r704, r768)).bind fun q => match q with
     | (.inl yt14) =>
      some (.inr (.inl (yt14.1, yt14.2.1, yt14.2.2)))
     | (.inr yt14) =>
      some (.inl (yt14.1, yt14.2.1, (Go.IntKind.wrap (Go.IntKind.i64 ) (yt14.2.2.1 + 1)), yt14.2.2.2.1, yt14.2.2.2.2.1, yt14.2.2.2.2.2.1, yt14.2.2.2.2.2.2)))) none) (
   some (.inr (.inr (r0, r704, r768))))
noncomputable def l0 (x : Int × Int × Int × (List S50) × (List S69) × (List S59) × (List S38)) : Option ((Int × (List S59) × (List S38)) ⊕ ((List S50) × (List S59) × (List S38))) := lim l0.b x
theorem l0.eq : ∀ x, l0.b x = roundX (mkE tab es 93 [] [(14, some (tailO (cutOf t14.A t14.c) (cutsOf t14.xs t14.y) t14))]) (loopAt 0 code) (cutOf l0.A l0.c) (cutsOf l0.xs l0.y) x := fun x => by kernel_rfl
theorem l0.owed {R : Type} : owed (mkE (R := R) tab es 93 [] [(14, some (tailO (cutOf t14.A t14.c) (cutsOf t14.xs t14.y) t14))]) (loopAt 0 code) = [((tailAt 14 code), (tailO (R := _) (cutOf t14.A t14.c) (cutsOf t14.xs t14.y) t14))] := by kernel_rfl
theorem l0.ok (w0 : World) (M : Own) (h : Pinned M []) {R : Type} : SoundO prog w0 M 93 (.block 0 (.loop (loopAt 0 code))) (loopO (R := R) 0 (cutOf l0.A l0.c) (cutsOf l0.xs l0.y) l0) :=
  loop_ok tabOk uniOk mixed l0.eq (h.sub rfl) (h.sub rfl) fun x hx => by rw [l0.owed] at hx; rcases List.mem_cons.1 hx with rfl | hx; exact t14.ok w0 M h; exact absurd hx List.not_mem_nil

noncomputable def F : ((List S50) × Int × Int) → Option (((List S59) × (List S38) × Int))
  | (p0, p1, p2) =>
  (F30.F (p0, (p1, p2))).bind fun y30 =>
  cond (y30 != 0) (
   some (([] : List S59), (([] : List S38), y30))) (
   (F31.F p0).bind fun y31 =>
   (l0 (p1, p2, 0, p0, y31, ([] : List S59), ([] : List S38))).bind fun q => match q with
   | (.inl yl0) =>
    some (yl0.2.1, (yl0.2.2, yl0.1))
   | (.inr yl0) =>
    let x0 := ((⟨((List.length yl0.1) : Int), 0, 0⟩ : S38) :: [])
    cond (decide (((List.length yl0.2.2) + (List.length x0)) ≤ 274877906944)) (
     some (yl0.2.1, ((yl0.2.2 ++ x0), 0))) none)
theorem F.eq : ∀ x, F x = runF (mkE tab es 93 [(0, some (loopO 0 (cutOf l0.A l0.c) (cutsOf l0.xs l0.y) l0))] []) code [.row 2 0, .sc, .sc] [.row 1, .row 4, .sc] [.tmp 6, .tmp 7, .tmp 8] (Coz.dec cr) (cp.enc x) := fun x => by kernel_rfl
theorem F.owed : owed (mkE (R := ((List S59) × (List S38) × Int)) tab es 93 [(0, some (loopO 0 (cutOf l0.A l0.c) (cutsOf l0.xs l0.y) l0))] []) code = [((.block 0 (.loop (loopAt 0 code))), (loopO (R := _) 0 (cutOf l0.A l0.c) (cutsOf l0.xs l0.y) l0))] := by kernel_rfl
theorem con : ∀ x y, F x = some y → Con prog 23 [.row 2 0, .sc, .sc] [.row 1, .row 4, .sc] (cp.enc x) (cr.enc y).1 (cr.enc y).2 :=
  func_ok (c := code) (n := 93) (pf := [.row 2 0, .sc, .sc]) (res := [.tmp 6, .tmp 7, .tmp 8]) tabOk uniOk mixed get (by kernel_rfl) (by kernel_rfl) (by kernel_rfl) (by decide) F.eq fun w0 M h x hx => by rw [F.owed] at hx; rcases List.mem_cons.1 hx with rfl | hx; exact l0.ok w0 M h; exact absurd hx List.not_mem_nil
noncomputable def ent : Ent prog uni := Ent.of 23 [.row 2 0, .sc, .sc] [.row 1, .row 4, .sc] cp cr F con fun args w => enters_of get (by kernel_rfl) rfl args w
end Go.Proofs.Ytpingihfadihfaa.AX.F23

/- The function 7 of the program in the small machine. No conditions. -/
namespace Go.Proofs.Ytpingihfadihfaa.AX.F7
open Go Go.Proofs.Try
noncomputable def code : Code := bodyOf f7
abbrev Y : Type := ((List S59) × Int)
def cp : Cod uni ((List S50) × Int × Int) := (codC (iRow 2) (codC (iInt .i64) (cod1 (iInt .i64))))
def cr : Coz uni ((List S59) × Int) := (cozR (codC (iRow 1) (cod1 (iInt .i64))) (codD (codD (codD cod0))))
noncomputable def es : List (Ent prog uni) := [F23.ent]
theorem get : prog.funcs[7]? = some f7 := by kernel_rfl

noncomputable def F : ((List S50) × Int × Int) → Option (((List S59) × Int))
  | (p0, p1, p2) =>
  (F23.F (p0, (p1, p2))).bind fun y23 =>
  some (y23.1, y23.2.2)
theorem F.eq : ∀ x, F x = runF (mkE tab es 21 [] []) code [.row 2 0, .sc, .sc] [.row 1, .sc] [.tmp 6, .tmp 7] (Coz.dec cr) (cp.enc x) := fun x => by kernel_rfl
theorem F.owed : owed (mkE (R := ((List S59) × Int)) tab es 21 [] []) code = [] := by kernel_rfl
theorem con : ∀ x y, F x = some y → Con prog 7 [.row 2 0, .sc, .sc] [.row 1, .sc] (cp.enc x) (cr.enc y).1 (cr.enc y).2 :=
  func_ok (c := code) (n := 21) (pf := [.row 2 0, .sc, .sc]) (res := [.tmp 6, .tmp 7]) tabOk uniOk mixed get (by kernel_rfl) (by kernel_rfl) (by kernel_rfl) (by decide) F.eq fun w0 M h x hx => by rw [F.owed] at hx; exact absurd hx List.not_mem_nil
noncomputable def ent : Ent prog uni := Ent.of 7 [.row 2 0, .sc, .sc] [.row 1, .sc] cp cr F con fun args w => enters_of get (by kernel_rfl) rfl args w
end Go.Proofs.Ytpingihfadihfaa.AX.F7

/- The function 16 of the program in the small machine. No conditions. -/
namespace Go.Proofs.Ytpingihfadihfaa.AX.F16
open Go Go.Proofs.Try
noncomputable def code : Code := bodyOf f16
abbrev Y : Type := Int
def cp : Cod uni ((List Int) × Int × Int) := (codC (iRow 3) (codC (iInt .i64) (cod1 (iInt .i64))))
def cr : Coz uni Int := (cozR (cod1 (iInt .i64)) (codD (codD (codD cod0))))
noncomputable def es : List (Ent prog uni) := []
theorem get : prog.funcs[16]? = some f16 := by kernel_rfl

noncomputable def F : ((List Int) × Int × Int) → Option (Int)
  | (p0, p1, p2) =>
  cond (decide (p2 ≤ 1)) (
   some 0) (
   let x3 := ((List.length p0) : Int)
   cond (x3 == 0) (
    cond (!(decide (p2 = 0))) (
     some (Int.tmod (Go.IntKind.wrap (Go.IntKind.i64 ) (p1 * 7)) p2)) none) (
    let x1 := (!(decide (x3 = 0)))
    cond x1 (
     let x2 := (Int.tmod p1 x3)
     cond ((decide (0 ≤ x2)) && (decide (x2 < x3))) (
      cond x1 (
       let x0 := (Int.tmod (Go.IntKind.wrap (Go.IntKind.i64 ) (p1 + 1)) x3)
       cond ((decide (0 ≤ x0)) && (decide (x0 < x3))) (
        cond x1 (
         cond (!(decide (p2 = 0))) (
          some (Int.tmod (Go.IntKind.wrap (Go.IntKind.i64 ) ((Go.IntKind.wrap (Go.IntKind.i64 ) ((Go.IntKind.wrap (Go.IntKind.i64 ) ((Go.IntKind.wrap (Go.IntKind.i64 ) (List.getD p0 (Int.toNat x2) 0)) * 31)) + (Go.IntKind.wrap (Go.IntKind.i64 ) (List.getD p0 (Int.toNat x0) 0)))) + (Go.IntKind.wrap (Go.IntKind.i64 ) (Int.tdiv p1 x3)))) p2)) none) none) none) none) none) none))
theorem F.eq : ∀ x, F x = runF (mkE tab es 42 [] []) code [.row 3 0, .sc, .sc] [.sc] [.tmp 6] (Coz.dec cr) (cp.enc x) := fun x => by kernel_rfl
theorem F.owed : owed (mkE (R := Int) tab es 42 [] []) code = [] := by kernel_rfl
theorem con : ∀ x y, F x = some y → Con prog 16 [.row 3 0, .sc, .sc] [.sc] (cp.enc x) (cr.enc y).1 (cr.enc y).2 :=
  func_ok (c := code) (n := 42) (pf := [.row 3 0, .sc, .sc]) (res := [.tmp 6]) tabOk uniOk mixed get (by kernel_rfl) (by kernel_rfl) (by kernel_rfl) (by decide) F.eq fun w0 M h x hx => by rw [F.owed] at hx; exact absurd hx List.not_mem_nil
noncomputable def ent : Ent prog uni := Ent.of 16 [.row 3 0, .sc, .sc] [.sc] cp cr F con fun args w => enters_of get (by kernel_rfl) rfl args w
end Go.Proofs.Ytpingihfadihfaa.AX.F16

/- The function 35 of the program in the small machine. No conditions. -/
namespace Go.Proofs.Ytpingihfadihfaa.AX.F35
open Go Go.Proofs.Try
noncomputable def code : Code := bodyOf f35
abbrev Y : Type := Int
def cp : Cod uni Int := (cod1 (iInt .i64))
def cr : Coz uni Int := (cozR (cod1 (iInt .i64)) (codD cod0))
noncomputable def es : List (Ent prog uni) := []
theorem get : prog.funcs[35]? = some f35 := by kernel_rfl

noncomputable def F : Int → Option (Int)
  | p0 =>
  cond (decide (p0 > 0)) (
   some 1) (
   cond (decide (p0 < 0)) (
    some (-1)) (
    some 0))
theorem F.eq : ∀ x, F x = runF (mkE tab es 9 [] []) code [.sc] [.sc] [.tmp 2] (Coz.dec cr) (cp.enc x) := fun x => by kernel_rfl
theorem F.owed : owed (mkE (R := Int) tab es 9 [] []) code = [] := by kernel_rfl
theorem con : ∀ x y, F x = some y → Con prog 35 [.sc] [.sc] (cp.enc x) (cr.enc y).1 (cr.enc y).2 :=
  func_ok (c := code) (n := 9) (pf := [.sc]) (res := [.tmp 2]) tabOk uniOk mixed get (by kernel_rfl) (by kernel_rfl) (by kernel_rfl) (by decide) F.eq fun w0 M h x hx => by rw [F.owed] at hx; exact absurd hx List.not_mem_nil
noncomputable def ent : Ent prog uni := Ent.of 35 [.sc] [.sc] cp cr F con fun args w => enters_of get (by kernel_rfl) rfl args w
end Go.Proofs.Ytpingihfadihfaa.AX.F35

/- The function 36 of the program in the small machine. No conditions. -/
namespace Go.Proofs.Ytpingihfadihfaa.AX.F36
open Go Go.Proofs.Try
noncomputable def code : Code := bodyOf f36
abbrev Y : Type := Int
def cp : Cod uni Int := (cod1 (iInt .i64))
def cr : Coz uni Int := (cozR (cod1 (iInt .i64)) (codD cod0))
noncomputable def es : List (Ent prog uni) := []
theorem get : prog.funcs[36]? = some f36 := by kernel_rfl

noncomputable def F : Int → Option (Int)
  | p0 =>
  some (if ((Go.IntKind.wrap (Go.IntKind.i64 ) (0 - p0)) > p0) then (Go.IntKind.wrap (Go.IntKind.i64 ) (0 - p0)) else p0)
theorem F.eq : ∀ x, F x = runF (mkE tab es 7 [] []) code [.sc] [.sc] [.tmp 2] (Coz.dec cr) (cp.enc x) := fun x => by kernel_rfl
theorem F.owed : owed (mkE (R := Int) tab es 7 [] []) code = [] := by kernel_rfl
theorem con : ∀ x y, F x = some y → Con prog 36 [.sc] [.sc] (cp.enc x) (cr.enc y).1 (cr.enc y).2 :=
  func_ok (c := code) (n := 7) (pf := [.sc]) (res := [.tmp 2]) tabOk uniOk mixed get (by kernel_rfl) (by kernel_rfl) (by kernel_rfl) (by decide) F.eq fun w0 M h x hx => by rw [F.owed] at hx; exact absurd hx List.not_mem_nil
noncomputable def ent : Ent prog uni := Ent.of 36 [.sc] [.sc] cp cr F con fun args w => enters_of get (by kernel_rfl) rfl args w
end Go.Proofs.Ytpingihfadihfaa.AX.F36

/- The function 37 of the program in the small machine. No conditions. -/
namespace Go.Proofs.Ytpingihfadihfaa.AX.F37
open Go Go.Proofs.Try
noncomputable def code : Code := bodyOf f37
abbrev Y : Type := Int
def cp : Cod uni (Int × Int) := (codC (iInt .i64) (cod1 (iInt .i64)))
def cr : Coz uni Int := (cozR (cod1 (iInt .i64)) (codD (codD cod0)))
noncomputable def es : List (Ent prog uni) := []
theorem get : prog.funcs[37]? = some f37 := by kernel_rfl

def l0.A : Ann := ⟨[(0, .sc), (1, .sc), (5, .sc)], [], [], []⟩
def l0.c : Cod uni (Int × Int × Int) := (codC (iInt .i64) (codC (iInt .i64) (cod1 (iInt .i64))))
def l0.xs : List (AExit × Ann) := [((.exit 0), ⟨[(5, .sc)], [], [], []⟩)]
def l0.y : Coy uni (Int) := (coy1 (cod1 (iInt .i64)))
noncomputable def l0.b : Int × Int × Int → Option ((Int × Int × Int) ⊕ (Int))
  | (v0, v1, v5) =>
  cond (decide (v0 > 0)) (
   some (.inl ((Go.IntKind.wrap (Go.IntKind.i64 ) (v0 - v1)), v1, (Go.IntKind.wrap (Go.IntKind.i64 ) (v5 + v0))))) (
   some (.inr v5))
noncomputable def l0 (x : Int × Int × Int) : Option (Int) := lim l0.b x
theorem l0.eq : ∀ x, l0.b x = roundX (mkE tab es 15 [] []) (loopAt 0 code) (cutOf l0.A l0.c) (cutsOf l0.xs l0.y) x := fun x => by kernel_rfl
theorem l0.owed {R : Type} : owed (mkE (R := R) tab es 15 [] []) (loopAt 0 code) = [] := by kernel_rfl
theorem l0.ok (w0 : World) (M : Own) (h : Pinned M []) {R : Type} : SoundO prog w0 M 15 (.block 0 (.loop (loopAt 0 code))) (loopO (R := R) 0 (cutOf l0.A l0.c) (cutsOf l0.xs l0.y) l0) :=
  loop_ok tabOk uniOk mixed l0.eq (h.sub rfl) (h.sub rfl) fun x hx => by rw [l0.owed] at hx; exact absurd hx List.not_mem_nil

noncomputable def F : (Int × Int) → Option (Int)
  | (p0, p1) =>
  (l0 (p0, p1, 0)).bind fun yl0 =>
  some yl0
theorem F.eq : ∀ x, F x = runF (mkE tab es 15 [(0, some (loopO 0 (cutOf l0.A l0.c) (cutsOf l0.xs l0.y) l0))] []) code [.sc, .sc] [.sc] [.tmp 4] (Coz.dec cr) (cp.enc x) := fun x => by kernel_rfl
theorem F.owed : owed (mkE (R := Int) tab es 15 [(0, some (loopO 0 (cutOf l0.A l0.c) (cutsOf l0.xs l0.y) l0))] []) code = [((.block 0 (.loop (loopAt 0 code))), (loopO (R := _) 0 (cutOf l0.A l0.c) (cutsOf l0.xs l0.y) l0))] := by kernel_rfl
theorem con : ∀ x y, F x = some y → Con prog 37 [.sc, .sc] [.sc] (cp.enc x) (cr.enc y).1 (cr.enc y).2 :=
  func_ok (c := code) (n := 15) (pf := [.sc, .sc]) (res := [.tmp 4]) tabOk uniOk mixed get (by kernel_rfl) (by kernel_rfl) (by kernel_rfl) (by decide) F.eq fun w0 M h x hx => by rw [F.owed] at hx; rcases List.mem_cons.1 hx with rfl | hx; exact l0.ok w0 M h; exact absurd hx List.not_mem_nil
noncomputable def ent : Ent prog uni := Ent.of 37 [.sc, .sc] [.sc] cp cr F con fun args w => enters_of get (by kernel_rfl) rfl args w
end Go.Proofs.Ytpingihfadihfaa.AX.F37

/- The function 25 of the program in the small machine. No conditions. -/
namespace Go.Proofs.Ytpingihfadihfaa.AX.F25
open Go Go.Proofs.Try
noncomputable def code : Code := bodyOf f25
abbrev Y : Type := (((List S59) × (List S38)) × Int)
def cp : Cod uni ((List S50) × Int × Int) := (codC (iRow 2) (codC (iInt .i64) (cod1 (iInt .i64))))
def cr : Coz uni (((List S59) × (List S38)) × Int) := (cozR (codC (iAgg (codC (iRow 1) (cod1 (iRow 4)))) (cod1 (iInt .i64))) (codD (codD (codD cod0))))
noncomputable def es : List (Ent prog uni) := [F35.ent, F36.ent, F37.ent]
theorem get : prog.funcs[25]? = some f25 := by kernel_rfl

def l0.A : Ann := ⟨[(0, .slc 5000000 []), (1, .sc), (2, .sc), (6, .box 5000384 0), (8, .box 5000512 0), (55, .slc 5000000 []), (56, .sc), (57, .sc)], [(5000384, 55, [.nil, .nil]), (5000512, 55, [.nil, .nil])], [(5000000, false, 2)], []⟩
def l0.c : Cod uni (Int × Int × Int × Int × (List S50)) := (codC (iInt .i64) (codC (iInt .i64) (codC (iInt .i64) (codC (iInt .i64) (cod1 (iRow 2))))))
def l0.xs : List (AExit × Ann) := [(.ret, ⟨[(6, .box 5000384 0), (7, .sc)], [(5000384, 55, [.nil, .nil])], [], []⟩), ((.exit 0), ⟨[(0, .slc 5000000 []), (1, .sc), (2, .sc), (6, .box 5000384 0), (8, .box 5000512 0)], [(5000384, 55, [.nil, .nil]), (5000512, 55, [.nil, .nil])], [(5000000, false, 2)], []⟩)]
def l0.y : Coy uni (Int ⊕ (Int × Int × (List S50))) := (coyS (cod1 (iInt .i64)) (coy1 (codC (iInt .i64) (codC (iInt .i64) (cod1 (iRow 2))))))
noncomputable def l0.b : Int × Int × Int × Int × (List S50) → Option ((Int × Int × Int × Int × (List S50)) ⊕ (Int ⊕ (Int × Int × (List S50))))
  | (v1, v2, v56, v57, r0) =>
  cond (decide (v57 < v56)) (
   cond ((decide (0 ≤ v57)) && (decide (v57 < ((List.length r0) : Int)))) (
    let x0 := (List.getD r0 (Int.toNat v57) z50)
    cond ((((((decide (x0.f1 < 0)) || (decide (x0.f1 > 24))) || (decide (x0.f2 < 0))) || (decide (x0.f2 > 24))) || (decide (x0.f3 < 0))) || (decide (x0.f3 > 24))) (
     some (.inr (.inl 1))) (
     some (.inl (v1, v2, v56, (Go.IntKind.wrap (Go.IntKind.i64 ) (v57 + 1)), r0)))) none) (
   some (.inr (.inr (v1, v2, r0))))
noncomputable def l0 (x : Int × Int × Int × Int × (List S50)) : Option (Int ⊕ (Int × Int × (List S50))) := lim l0.b x
theorem l0.eq : ∀ x, l0.b x = roundX (mkE tab es 346 [] []) (loopAt 0 code) (cutOf l0.A l0.c) (cutsOf l0.xs l0.y) x := fun x => by kernel_rfl
theorem l0.owed {R : Type} : owed (mkE (R := R) tab es 346 [] []) (loopAt 0 code) = [] := by kernel_rfl
theorem l0.ok (w0 : World) (M : Own) (h : Pinned M []) {R : Type} : SoundO prog w0 M 346 (.block 0 (.loop (loopAt 0 code))) (loopO (R := R) 0 (cutOf l0.A l0.c) (cutsOf l0.xs l0.y) l0) :=
  loop_ok tabOk uniOk mixed l0.eq (h.sub rfl) (h.sub rfl) fun x hx => by rw [l0.owed] at hx; exact absurd hx List.not_mem_nil

def t29.A : Ann := ⟨[(0, .slc 5000000 []), (1, .sc), (2, .sc), (6, .box 5000384 0), (8, .box 5000512 0), (11, .slc 5000704 []), (12, .box 5000768 0), (15, .box 5000960 0), (92, .slc 5000000 []), (93, .sc), (94, .sc)], [(5000384, 55, [.nil, .nil]), (5000512, 55, [.nil, .nil]), (5000768, 51, [.sc, .sc, .sc, .sc]), (5000960, 77, [.sc, .sc, .sc, .sc, .sc, .sc])], [(5000000, false, 2), (5000704, true, 7)], []⟩
def t29.c : Cod uni (Int × Int × Int × Int × Bool × Int × Int × Int × Int × Bool × Int × Int × Int × Int × (List S50) × (List (List S76))) := (codC (iInt .i64) (codC (iInt .i64) (codC (iInt .i64) (codC (iInt .i64) (codC iBool (codC (iInt .i64) (codC (iInt .i64) (codC (iInt .i64) (codC (iInt .i64) (codC iBool (codC (iInt .i64) (codC (iInt .i64) (codC (iInt .i64) (codC (iInt .i64) (codC (iRow 2) (cod1 (iRow 7)))))))))))))))))
def t29.xs : List (AExit × Ann) := [(.normal, ⟨[(0, .slc 5000000 []), (1, .sc), (2, .sc), (6, .box 5000384 0), (8, .box 5000512 0), (11, .slc 5000704 []), (12, .box 5000768 0), (92, .slc 5000000 []), (93, .sc), (94, .sc)], [(5000384, 55, [.nil, .nil]), (5000512, 55, [.nil, .nil]), (5000768, 51, [.sc, .sc, .sc, .sc])], [(5000000, false, 2), (5000704, true, 7)], []⟩)]
def t29.y : Coy uni ((Int × Int × Int × Int × Bool × Int × Int × Int × (List S50) × (List (List S76)))) := (coy1 (codC (iInt .i64) (codC (iInt .i64) (codC (iInt .i64) (codC (iInt .i64) (codC iBool (codC (iInt .i64) (codC (iInt .i64) (codC (iInt .i64) (codC (iRow 2) (cod1 (iRow 7))))))))))))
noncomputable def t29 : Int × Int × Int × Int × Bool × Int × Int × Int × Int × Bool × Int × Int × Int × Int × (List S50) × (List (List S76)) → Option ((Int × Int × Int × Int × Bool × Int × Int × Int × (List S50) × (List (List S76))))
  | (v1, v2, v93, v94, b768_0, b768_1, b768_2, b768_3, b960_0, b960_1, b960_2, b960_3, b960_4, b960_5, r0, r704) =>
  let x0 := (((⟨b960_0, b960_1, b960_2, b960_3, b960_4, b960_5⟩ : S76) :: []) :: [])
  cond (decide (((List.length r704) + (List.length x0)) ≤ 274877906944)) (
   some (v1, v2, v93, v94, b768_0, b768_1, b768_2, b768_3, r0, (r704 ++ x0))) none
theorem t29.eq : ∀ x, t29 x = tailX (mkE tab es 346 [] []) (tailAt 29 code) (cutOf t29.A t29.c) (cutsOf t29.xs t29.y) x := fun x => by kernel_rfl
theorem t29.owed {R : Type} : owed (mkE (R := R) tab es 346 [] []) (tailAt 29 code) = [] := by kernel_rfl
theorem t29.ok (w0 : World) (M : Own) (h : Pinned M []) {R : Type} : SoundO prog w0 M 346 (tailAt 29 code) (tailO (R := R) (cutOf t29.A t29.c) (cutsOf t29.xs t29.y) t29) :=
  tail_ok tabOk uniOk mixed t29.eq (h.sub rfl) (h.sub rfl) fun x hx => by rw [t29.owed] at hx; exact absurd hx List.not_mem_nil

def l2.A : Ann := ⟨[(0, .slc 5000000 []), (1, .sc), (2, .sc), (6, .box 5000384 0), (8, .box 5000512 0), (11, .slc 5000704 []), (12, .box 5000768 0), (92, .slc 5000000 []), (93, .sc), (94, .sc)], [(5000384, 55, [.nil, .nil]), (5000512, 55, [.nil, .nil]), (5000768, 51, [.sc, .sc, .sc, .sc])], [(5000000, false, 2), (5000704, true, 7)], []⟩
def l2.c : Cod uni (Int × Int × Int × Int × Bool × Int × Int × Int × (List S50) × (List (List S76))) := (codC (iInt .i64) (codC (iInt .i64) (codC (iInt .i64) (codC (iInt .i64) (codC iBool (codC (iInt .i64) (codC (iInt .i64) (codC (iInt .i64) (codC (iRow 2) (cod1 (iRow 7)))))))))))
def l2.xs : List (AExit × Ann) := [(.ret, ⟨[(6, .box 5000384 0), (7, .sc)], [(5000384, 55, [.nil, .nil])], [], []⟩), ((.exit 2), ⟨[(0, .slc 5000000 []), (1, .sc), (2, .sc), (6, .box 5000384 0), (8, .box 5000512 0), (11, .slc 5000704 [])], [(5000384, 55, [.nil, .nil]), (5000512, 55, [.nil, .nil])], [(5000000, false, 2), (5000704, true, 7)], []⟩)]
def l2.y : Coy uni (Int ⊕ (Int × Int × (List S50) × (List (List S76)))) := (coyS (cod1 (iInt .i64)) (coy1 (codC (iInt .i64) (codC (iInt .i64) (codC (iRow 2) (cod1 (iRow 7)))))))
noncomputable def l2.b : Int × Int × Int × Int × Bool × Int × Int × Int × (List S50) × (List (List S76)) → Option ((Int × Int × Int × Int × Bool × Int × Int × Int × (List S50) × (List (List S76))) ⊕ (Int ⊕ (Int × Int × (List S50) × (List (List S76)))))
  | (v1, v2, v93, v94, b768_0, b768_1, b768_2, b768_3, r0, r704) =>
  cond (decide (v94 < v93)) (
   cond ((decide (0 ≤ v94)) && (decide (v94 < ((List.length r0) : Int)))) (
    let x13 := (List.getD r0 (Int.toNat v94) z50)
    let x7 := (Go.IntKind.wrap (Go.IntKind.i64 ) (x13.f1 - b768_1))
    (F35.F x7).bind fun y35 =>
    let x8 := (Go.IntKind.wrap (Go.IntKind.i64 ) (x13.f2 - b768_2))
    (F35.F x8).bind fun y35x2 =>
    let x9 := (Go.IntKind.wrap (Go.IntKind.i64 ) (x13.f3 - b768_3))
    (F35.F x9).bind fun y35x3 =>
    (F36.F x7).bind fun y36 =>
    (F36.F x8).bind fun y36x2 =>
    (F36.F x9).bind fun y36x3 =>
    (F36.F y35).bind fun y36x4 =>
    (F36.F y35x2).bind fun y36x5 =>
    (F36.F y35x3).bind fun y36x6 =>
    cond (decide ((Go.IntKind.wrap (Go.IntKind.i64 ) ((Go.IntKind.wrap (Go.IntKind.i64 ) (y36x4 + y36x5)) + y36x6)) > 1)) (
     some (.inr (.inl 13))) (
     let x4 := (Go.IntKind.wrap (Go.IntKind.i64 ) (20 * (Go.IntKind.wrap (Go.IntKind.i64 ) ((Go.IntKind.wrap (Go.IntKind.i64 ) (y36 + y36x2)) + y36x3))))
     let x12 := (Go.IntKind.wrap (Go.IntKind.i64 ) (v94 + 1))
     cond (x4 == 0) (
      some (.inl (v1, v2, v93, x12, x13.f0, x13.f1, x13.f2, x13.f3, r0, r704))) (
      let x0 := (t29 (v1, v2, v93, v94, x13.f0, x13.f1, x13.f2, x13.f3, v94, x13.f0, y35, y35x2, y35x3, x4, r0, r704))
      let x14 := ((List.length r704) : Int)
      cond (decide (x14 > 0)) (
       let x11 := (Go.IntKind.wrap (Go.IntKind.i64 ) (x14 - 1))
       let x2 := ((decide (0 ≤ x11)) && (decide (x11 < x14)))
       cond x2 (
        let x10 := (Int.toNat x11)
        let x6 := (List.getD r704 x10 ([] : List S76))
        let x5 := (List.length x6)
        cond ((decide (0 ≤ 0)) && (decide (0 < (x5 : Int)))) (
         let x3 := (List.getD x6 (Int.toNat 0) z76)
         cond ((((x3.f1 == x13.f0) && (x3.f2 == y35)) && (x3.f3 == y35x2)) && (x3.f4 == y35x3)) (
          cond x2 (
           let x1 := ((⟨v94, x13.f0, y35, y35x2, y35x3, x4⟩ : S76) :: [])
           cond (decide ((x5 + (List.length x1)) ≤ 274877906944)) (
            cond x2 (
             cond (decide (x11 = x11)) (
              some (.inl (v1, v2, v93, x12, x13.f0, x13.f1, x13.f2, x13.f3, r0, (List.set r704 x10 (x6 ++ x1))))) none) none) none) none) (
          x0.bind fun yt29 =>
          some (.inl (yt29.1, yt29.2.1, yt29.2.2.1, (Go.IntKind.wrap (Go.IntKind.i64 ) (yt29.2.2.2.1 + 1)), yt29.2.2.2.2.1, yt29.2.2.2.2.2.1, yt29.2.2.2.2.2.2.1, yt29.2.2.2.2.2.2.2.1, yt29.2.2.2.2.2.2.2.2.1, yt29.2.2.2.2.2.2.2.2.2)))) none) none) (
       x0.bind fun yt29 =>
       some (.inl (yt29.1, yt29.2.1, yt29.2.2.1, (Go.IntKind.wrap (Go.IntKind.i64 ) (yt29.2.2.2.1 + 1)), yt29.2.2.2.2.1, yt29.2.2.2.2.2.1, yt29.2.2.2.2.2.2.1, yt29.2.2.2.2.2.2.2.1, yt29.2.2.2.2.2.2.2.2.1, yt29.2.2.2.2.2.2.2.2.2)))))) none) (
   some (.inr (.inr (v1, v2, r0, r704))))
noncomputable def l2 (x : Int × Int × Int × Int × Bool × Int × Int × Int × (List S50) × (List (List S76))) : Option (Int ⊕ (Int × Int × (List S50) × (List (List S76)))) := lim l2.b x
theorem l2.eq : ∀ x, l2.b x = roundX (mkE tab es 346 [] [(29, some (tailO (cutOf t29.A t29.c) (cutsOf t29.xs t29.y) t29))]) (loopAt 2 code) (cutOf l2.A l2.c) (cutsOf l2.xs l2.y) x := fun x => by kernel_rfl
theorem l2.owed {R : Type} : owed (mkE (R := R) tab es 346 [] [(29, some (tailO (cutOf t29.A t29.c) (cutsOf t29.xs t29.y) t29))]) (loopAt 2 code) = [((tailAt 29 code), (tailO (R := _) (cutOf t29.A t29.c) (cutsOf t29.xs t29.y) t29))] := by kernel_rfl
theorem l2.ok (w0 : World) (M : Own) (h : Pinned M []) {R : Type} : SoundO prog w0 M 346 (.block 2 (.loop (loopAt 2 code))) (loopO (R := R) 2 (cutOf l2.A l2.c) (cutsOf l2.xs l2.y) l2) :=
  loop_ok tabOk uniOk mixed l2.eq (h.sub rfl) (h.sub rfl) fun x hx => by rw [l2.owed] at hx; rcases List.mem_cons.1 hx with rfl | hx; exact t29.ok w0 M h; exact absurd hx List.not_mem_nil

def l6.A : Ann := ⟨[(0, .slc 5000000 []), (1, .sc), (2, .sc), (6, .box 5000384 0), (8, .box 5000512 0), (18, .box 5001152 0), (20, .slc 5001280 [0]), (21, .sc), (22, .sc), (215, .slc 5001280 []), (216, .sc), (217, .sc), (230, .slc 5001280 [0]), (231, .sc), (232, .sc)], [(5000384, 55, [.nil, .nil]), (5000512, 55, [.slc 5000522 [], .slc 5000523 []]), (5001152, 60, [.sc, .sc, .sc, .sc])], [(5000000, false, 2), (5001280, true, 7), (5000522, true, 1), (5000523, true, 4)], []⟩
def l6.c : Cod uni (Int × Int × Int × Int × Int × Int × Int × Int × Int × Int × Int × Int × Int × Int × (List S50) × (List (List S76)) × (List S59) × (List S38)) := (codC (iInt .i64) (codC (iInt .i64) (codC (iInt .i64) (codC (iInt .i64) (codC (iInt .i64) (codC (iInt .i64) (codC (iInt .i64) (codC (iInt .i64) (codC (iInt .i64) (codC (iInt .i64) (codC (iInt .i64) (codC (iInt .i64) (codC (iInt .i64) (codC (iInt .i64) (codC (iRow 2) (codC (iRow 7) (codC (iRow 1) (cod1 (iRow 4)))))))))))))))))))
def l6.xs : List (AExit × Ann) := [((.exit 6), ⟨[(0, .slc 5000000 []), (1, .sc), (2, .sc), (6, .box 5000384 0), (8, .box 5000512 0), (18, .box 5001152 0), (20, .slc 5001280 [0]), (21, .sc), (22, .sc), (215, .slc 5001280 []), (216, .sc), (217, .sc)], [(5000384, 55, [.nil, .nil]), (5000512, 55, [.slc 5000522 [], .slc 5000523 []]), (5001152, 60, [.sc, .sc, .sc, .sc])], [(5000000, false, 2), (5001280, true, 7), (5000522, true, 1), (5000523, true, 4)], []⟩)]
def l6.y : Coy uni ((Int × Int × Int × Int × Int × Int × Int × Int × Int × Int × Int × (List S50) × (List (List S76)) × (List S59) × (List S38))) := (coy1 (codC (iInt .i64) (codC (iInt .i64) (codC (iInt .i64) (codC (iInt .i64) (codC (iInt .i64) (codC (iInt .i64) (codC (iInt .i64) (codC (iInt .i64) (codC (iInt .i64) (codC (iInt .i64) (codC (iInt .i64) (codC (iRow 2) (codC (iRow 7) (codC (iRow 1) (cod1 (iRow 4)))))))))))))))))
noncomputable def l6.b : Int × Int × Int × Int × Int × Int × Int × Int × Int × Int × Int × Int × Int × Int × (List S50) × (List (List S76)) × (List S59) × (List S38) → Option ((Int × Int × Int × Int × Int × Int × Int × Int × Int × Int × Int × Int × Int × Int × (List S50) × (List (List S76)) × (List S59) × (List S38)) ⊕ ((Int × Int × Int × Int × Int × Int × Int × Int × Int × Int × Int × (List S50) × (List (List S76)) × (List S59) × (List S38))))
  | (v1, v2, v20i0, v21, v22, v216, v217, v230i0, v231, v232, b1152_0, b1152_1, b1152_2, b1152_3, r0, r1280, r522, r523) =>
  cond (decide (v232 < v231)) (
   let x0 := (List.getD r1280 (Int.toNat v230i0) ([] : List S76))
   cond ((decide (0 ≤ v232)) && (decide (v232 < ((List.length x0) : Int)))) (
    some (.inl (v1, v2, v20i0, v21, (Go.IntKind.wrap (Go.IntKind.i64 ) (v22 + (List.getD x0 (Int.toNat v232) z76).f5)), v216, v217, v230i0, v231, (Go.IntKind.wrap (Go.IntKind.i64 ) (v232 + 1)), b1152_0, b1152_1, b1152_2, b1152_3, r0, r1280, r522, r523))) none) (
   some (.inr (v1, v2, v20i0, v21, v22, v216, v217, b1152_0, b1152_1, b1152_2, b1152_3, r0, r1280, r522, r523)))
noncomputable def l6 (x : Int × Int × Int × Int × Int × Int × Int × Int × Int × Int × Int × Int × Int × Int × (List S50) × (List (List S76)) × (List S59) × (List S38)) : Option ((Int × Int × Int × Int × Int × Int × Int × Int × Int × Int × Int × (List S50) × (List (List S76)) × (List S59) × (List S38))) := lim l6.b x
theorem l6.eq : ∀ x, l6.b x = roundX (mkE tab es 346 [] []) (loopAt 6 code) (cutOf l6.A l6.c) (cutsOf l6.xs l6.y) x := fun x => by kernel_rfl
theorem l6.owed {R : Type} : owed (mkE (R := R) tab es 346 [] []) (loopAt 6 code) = [] := by kernel_rfl
theorem l6.ok (w0 : World) (M : Own) (h : Pinned M []) {R : Type} : SoundO prog w0 M 346 (.block 6 (.loop (loopAt 6 code))) (loopO (R := R) 6 (cutOf l6.A l6.c) (cutsOf l6.xs l6.y) l6) :=
  loop_ok tabOk uniOk mixed l6.eq (h.sub rfl) (h.sub rfl) fun x hx => by rw [l6.owed] at hx; exact absurd hx List.not_mem_nil

def l10.A : Ann := ⟨[(0, .slc 5000000 []), (1, .sc), (2, .sc), (6, .box 5000384 0), (8, .box 5000512 0), (18, .box 5001152 0), (20, .slc 5001280 [0]), (21, .sc), (22, .sc), (25, .sc), (26, .sc), (27, .box 5001728 0), (215, .slc 5001280 []), (216, .sc), (217, .sc), (246, .slc 5001280 [0]), (247, .sc), (248, .sc)], [(5000384, 55, [.nil, .nil]), (5000512, 55, [.slc 5000522 [], .slc 5000523 []]), (5001152, 60, [.sc, .sc, .sc, .sc]), (5001728, 39, [.sc, .sc, .sc])], [(5000000, false, 2), (5001280, true, 7), (5000522, true, 1), (5000523, true, 4)], []⟩
def l10.c : Cod uni (Int × Int × Int × Int × Int × Int × Int × Int × Int × Int × Int × Int × Int × Int × Int × Int × Int × Int × Int × (List S50) × (List (List S76)) × (List S59) × (List S38)) := (codC (iInt .i64) (codC (iInt .i64) (codC (iInt .i64) (codC (iInt .i64) (codC (iInt .i64) (codC (iInt .i64) (codC (iInt .i64) (codC (iInt .i64) (codC (iInt .i64) (codC (iInt .i64) (codC (iInt .i64) (codC (iInt .i64) (codC (iInt .i64) (codC (iInt .i64) (codC (iInt .i64) (codC (iInt .i64) (codC (iInt .i64) (codC (iInt .i64) (codC (iInt .i64) (codC (iRow 2) (codC (iRow 7) (codC (iRow 1) (cod1 (iRow 4))))))))))))))))))))))))
def l10.xs : List (AExit × Ann) := [((.exit 10), ⟨[(0, .slc 5000000 []), (1, .sc), (2, .sc), (6, .box 5000384 0), (8, .box 5000512 0), (18, .box 5001152 0), (20, .slc 5001280 [0]), (21, .sc), (22, .sc), (25, .sc), (26, .sc), (27, .box 5001728 0), (215, .slc 5001280 []), (216, .sc), (217, .sc)], [(5000384, 55, [.nil, .nil]), (5000512, 55, [.slc 5000522 [], .slc 5000523 []]), (5001152, 60, [.sc, .sc, .sc, .sc]), (5001728, 39, [.sc, .sc, .sc])], [(5000000, false, 2), (5001280, true, 7), (5000522, true, 1), (5000523, true, 4)], []⟩)]
def l10.y : Coy uni ((Int × Int × Int × Int × Int × Int × Int × Int × Int × Int × Int × Int × Int × Int × Int × Int × (List S50) × (List (List S76)) × (List S59) × (List S38))) := (coy1 (codC (iInt .i64) (codC (iInt .i64) (codC (iInt .i64) (codC (iInt .i64) (codC (iInt .i64) (codC (iInt .i64) (codC (iInt .i64) (codC (iInt .i64) (codC (iInt .i64) (codC (iInt .i64) (codC (iInt .i64) (codC (iInt .i64) (codC (iInt .i64) (codC (iInt .i64) (codC (iInt .i64) (codC (iInt .i64) (codC (iRow 2) (codC (iRow 7) (codC (iRow 1) (cod1 (iRow 4))))))))))))))))))))))
noncomputable def l10.b : Int × Int × Int × Int × Int × Int × Int × Int × Int × Int × Int × Int × Int × Int × Int × Int × Int × Int × Int × (List S50) × (List (List S76)) × (List S59) × (List S38) → Option ((Int × Int × Int × Int × Int × Int × Int × Int × Int × Int × Int × Int × Int × Int × Int × Int × Int × Int × Int × (List S50) × (List (List S76)) × (List S59) × (List S38)) ⊕ ((Int × Int × Int × Int × Int × Int × Int × Int × Int × Int × Int × Int × Int × Int × Int × Int × (List S50) × (List (List S76)) × (List S59) × (List S38))))
  | (v1, v2, v20i0, v21, v22, v25, v26, v216, v217, v246i0, v247, v248, b1152_0, b1152_1, b1152_2, b1152_3, b1728_0, b1728_1, b1728_2, r0, r1280, r522, r523) =>
  cond (decide (v248 < v247)) (
   let x1 := (List.getD r1280 (Int.toNat v246i0) ([] : List S76))
   cond ((decide (0 ≤ v248)) && (decide (v248 < ((List.length x1) : Int)))) (
    let x0 := (List.getD x1 (Int.toNat v248) z76)
    cond (decide (b1728_1 < x0.f5)) (
     some (.inr (v1, v2, v20i0, v21, v22, v25, v26, v216, v217, b1152_0, b1152_1, b1152_2, b1152_3, x0.f0, b1728_1, b1728_2, r0, r1280, r522, r523))) (
     some (.inl (v1, v2, v20i0, v21, v22, v25, v26, v216, v217, v246i0, v247, (Go.IntKind.wrap (Go.IntKind.i64 ) (v248 + 1)), b1152_0, b1152_1, b1152_2, b1152_3, x0.f0, (Go.IntKind.wrap (Go.IntKind.i64 ) (b1728_1 - x0.f5)), b1728_2, r0, r1280, r522, r523)))) none) (
   some (.inr (v1, v2, v20i0, v21, v22, v25, v26, v216, v217, b1152_0, b1152_1, b1152_2, b1152_3, b1728_0, b1728_1, b1728_2, r0, r1280, r522, r523)))
noncomputable def l10 (x : Int × Int × Int × Int × Int × Int × Int × Int × Int × Int × Int × Int × Int × Int × Int × Int × Int × Int × Int × (List S50) × (List (List S76)) × (List S59) × (List S38)) : Option ((Int × Int × Int × Int × Int × Int × Int × Int × Int × Int × Int × Int × Int × Int × Int × Int × (List S50) × (List (List S76)) × (List S59) × (List S38))) := lim l10.b x
theorem l10.eq : ∀ x, l10.b x = roundX (mkE tab es 346 [] []) (loopAt 10 code) (cutOf l10.A l10.c) (cutsOf l10.xs l10.y) x := fun x => by kernel_rfl
theorem l10.owed {R : Type} : owed (mkE (R := R) tab es 346 [] []) (loopAt 10 code) = [] := by kernel_rfl
theorem l10.ok (w0 : World) (M : Own) (h : Pinned M []) {R : Type} : SoundO prog w0 M 346 (.block 10 (.loop (loopAt 10 code))) (loopO (R := R) 10 (cutOf l10.A l10.c) (cutsOf l10.xs l10.y) l10) :=
  loop_ok tabOk uniOk mixed l10.eq (h.sub rfl) (h.sub rfl) fun x hx => by rw [l10.owed] at hx; exact absurd hx List.not_mem_nil

def l12.A : Ann := ⟨[(0, .slc 5000000 []), (1, .sc), (2, .sc), (6, .box 5000384 0), (8, .box 5000512 0), (18, .box 5001152 0), (20, .slc 5001280 [0]), (21, .sc), (22, .sc), (26, .sc), (30, .sc), (215, .slc 5001280 []), (216, .sc), (217, .sc)], [(5000384, 55, [.nil, .nil]), (5000512, 55, [.slc 5000522 [], .slc 5000523 []]), (5001152, 60, [.sc, .sc, .sc, .sc])], [(5000000, false, 2), (5001280, true, 7), (5000523, true, 4), (5000522, true, 1)], []⟩
def l12.c : Cod uni (Int × Int × Int × Int × Int × Int × Int × Int × Int × Int × Int × Int × Int × (List S50) × (List (List S76)) × (List S38) × (List S59)) := (codC (iInt .i64) (codC (iInt .i64) (codC (iInt .i64) (codC (iInt .i64) (codC (iInt .i64) (codC (iInt .i64) (codC (iInt .i64) (codC (iInt .i64) (codC (iInt .i64) (codC (iInt .i64) (codC (iInt .i64) (codC (iInt .i64) (codC (iInt .i64) (codC (iRow 2) (codC (iRow 7) (codC (iRow 4) (cod1 (iRow 1))))))))))))))))))
def l12.xs : List (AExit × Ann) := [((.exit 12), ⟨[(0, .slc 5000000 []), (1, .sc), (2, .sc), (6, .box 5000384 0), (8, .box 5000512 0), (18, .box 5001152 0), (20, .slc 5001280 [0]), (21, .sc), (22, .sc), (26, .sc), (30, .sc), (215, .slc 5001280 []), (216, .sc), (217, .sc)], [(5000384, 55, [.nil, .nil]), (5000512, 55, [.slc 5000522 [], .slc 5000523 []]), (5001152, 60, [.sc, .sc, .sc, .sc])], [(5000000, false, 2), (5001280, true, 7), (5000523, true, 4), (5000522, true, 1)], []⟩)]
def l12.y : Coy uni ((Int × Int × Int × Int × Int × Int × Int × Int × Int × Int × Int × Int × Int × (List S50) × (List (List S76)) × (List S38) × (List S59))) := (coy1 (codC (iInt .i64) (codC (iInt .i64) (codC (iInt .i64) (codC (iInt .i64) (codC (iInt .i64) (codC (iInt .i64) (codC (iInt .i64) (codC (iInt .i64) (codC (iInt .i64) (codC (iInt .i64) (codC (iInt .i64) (codC (iInt .i64) (codC (iInt .i64) (codC (iRow 2) (codC (iRow 7) (codC (iRow 4) (cod1 (iRow 1)))))))))))))))))))
noncomputable def l12.b : Int × Int × Int × Int × Int × Int × Int × Int × Int × Int × Int × Int × Int × (List S50) × (List (List S76)) × (List S38) × (List S59) → Option ((Int × Int × Int × Int × Int × Int × Int × Int × Int × Int × Int × Int × Int × (List S50) × (List (List S76)) × (List S38) × (List S59)) ⊕ ((Int × Int × Int × Int × Int × Int × Int × Int × Int × Int × Int × Int × Int × (List S50) × (List (List S76)) × (List S38) × (List S59))))
  | (v1, v2, v20i0, v21, v22, v26, v30, v216, v217, b1152_0, b1152_1, b1152_2, b1152_3, r0, r1280, r523, r522) =>
  (F37.F (v30, v2)).bind fun y37 =>
  cond (decide (y37 > v22)) (
   some (.inl (v1, v2, v20i0, v21, v22, v26, (Go.IntKind.wrap (Go.IntKind.i64 ) (v30 - 1)), v216, v217, b1152_0, b1152_1, b1152_2, b1152_3, r0, r1280, r523, r522))) (
   some (.inr (v1, v2, v20i0, v21, v22, v26, v30, v216, v217, b1152_0, b1152_1, b1152_2, b1152_3, r0, r1280, r523, r522)))
noncomputable def l12 (x : Int × Int × Int × Int × Int × Int × Int × Int × Int × Int × Int × Int × Int × (List S50) × (List (List S76)) × (List S38) × (List S59)) : Option ((Int × Int × Int × Int × Int × Int × Int × Int × Int × Int × Int × Int × Int × (List S50) × (List (List S76)) × (List S38) × (List S59))) := lim l12.b x
theorem l12.eq : ∀ x, l12.b x = roundX (mkE tab es 346 [] []) (loopAt 12 code) (cutOf l12.A l12.c) (cutsOf l12.xs l12.y) x := fun x => by kernel_rfl
theorem l12.owed {R : Type} : owed (mkE (R := R) tab es 346 [] []) (loopAt 12 code) = [] := by kernel_rfl
theorem l12.ok (w0 : World) (M : Own) (h : Pinned M []) {R : Type} : SoundO prog w0 M 346 (.block 12 (.loop (loopAt 12 code))) (loopO (R := R) 12 (cutOf l12.A l12.c) (cutsOf l12.xs l12.y) l12) :=
  loop_ok tabOk uniOk mixed l12.eq (h.sub rfl) (h.sub rfl) fun x hx => by rw [l12.owed] at hx; exact absurd hx List.not_mem_nil

def l8.A : Ann := ⟨[(0, .slc 5000000 []), (1, .sc), (2, .sc), (6, .box 5000384 0), (8, .box 5000512 0), (18, .box 5001152 0), (20, .slc 5001280 [0]), (21, .sc), (22, .sc), (25, .sc), (26, .sc), (215, .slc 5001280 []), (216, .sc), (217, .sc)], [(5000384, 55, [.nil, .nil]), (5000512, 55, [.slc 5000522 [], .slc 5000523 []]), (5001152, 60, [.sc, .sc, .sc, .sc])], [(5000000, false, 2), (5001280, true, 7), (5000522, true, 1), (5000523, true, 4)], []⟩
def l8.c : Cod uni (Int × Int × Int × Int × Int × Int × Int × Int × Int × Int × Int × Int × Int × (List S50) × (List (List S76)) × (List S59) × (List S38)) := (codC (iInt .i64) (codC (iInt .i64) (codC (iInt .i64) (codC (iInt .i64) (codC (iInt .i64) (codC (iInt .i64) (codC (iInt .i64) (codC (iInt .i64) (codC (iInt .i64) (codC (iInt .i64) (codC (iInt .i64) (codC (iInt .i64) (codC (iInt .i64) (codC (iRow 2) (codC (iRow 7) (codC (iRow 1) (cod1 (iRow 4))))))))))))))))))
def l8.xs : List (AExit × Ann) := [((.exit 8), ⟨[(0, .slc 5000000 []), (1, .sc), (2, .sc), (6, .box 5000384 0), (8, .box 5000512 0), (18, .box 5001152 0), (215, .slc 5013760 []), (216, .sc), (217, .sc)], [(5000384, 55, [.nil, .nil]), (5000512, 55, [.slc 5000522 [], .slc 5000523 []]), (5001152, 60, [.sc, .sc, .sc, .sc])], [(5000000, false, 2), (5013760, true, 7), (5000522, true, 1), (5000523, true, 4)], []⟩), (.ret, ⟨[(6, .box 5000384 0), (7, .sc)], [(5000384, 55, [.nil, .nil])], [], []⟩)]
def l8.y : Coy uni ((Int × Int × Int × Int × Int × Int × Int × Int × (List S50) × (List (List S76)) × (List S59) × (List S38)) ⊕ Int) := (coyS (codC (iInt .i64) (codC (iInt .i64) (codC (iInt .i64) (codC (iInt .i64) (codC (iInt .i64) (codC (iInt .i64) (codC (iInt .i64) (codC (iInt .i64) (codC (iRow 2) (codC (iRow 7) (codC (iRow 1) (cod1 (iRow 4))))))))))))) (coy1 (cod1 (iInt .i64))))
noncomputable def l8.b : Int × Int × Int × Int × Int × Int × Int × Int × Int × Int × Int × Int × Int × (List S50) × (List (List S76)) × (List S59) × (List S38) → Option ((Int × Int × Int × Int × Int × Int × Int × Int × Int × Int × Int × Int × Int × (List S50) × (List (List S76)) × (List S59) × (List S38)) ⊕ ((Int × Int × Int × Int × Int × Int × Int × Int × (List S50) × (List (List S76)) × (List S59) × (List S38)) ⊕ Int))
  | (v1, v2, v20i0, v21, v22, v25, v26, v216, v217, b1152_0, b1152_1, b1152_2, b1152_3, r0, r1280, r522, r523) =>
  cond (decide (v22 > 0)) (
   (l10 (v1, v2, v20i0, v21, v22, v25, v26, v216, v217, v20i0, ((List.length (List.getD r1280 (Int.toNat v20i0) ([] : List S76))) : Int), 0, b1152_0, b1152_1, b1152_2, b1152_3, 0, v26, v25, r0, r1280, r522, r523)).bind fun yl10 =>
   let x6 := ((⟨yl10.2.2.2.2.2.2.2.2.2.2.2.2.2.1, yl10.2.2.2.2.2.2.2.2.2.2.2.2.2.2.1, yl10.2.2.2.2.2.2.2.2.2.2.2.2.2.2.2.1⟩ : S38) :: [])
   cond (decide (((List.length yl10.2.2.2.2.2.2.2.2.2.2.2.2.2.2.2.2.2.2.2) + (List.length x6)) ≤ 274877906944)) (
    let x9 := (Go.IntKind.wrap (Go.IntKind.i64 ) (yl10.2.2.2.2.2.1 + yl10.2.1))
    let x4 := (if (x9 < yl10.2.2.2.1) then x9 else yl10.2.2.2.1)
    (l12 (yl10.1, yl10.2.1, yl10.2.2.1, yl10.2.2.2.1, yl10.2.2.2.2.1, yl10.2.2.2.2.2.2.1, (if (yl10.2.2.2.2.1 < x4) then yl10.2.2.2.2.1 else x4), yl10.2.2.2.2.2.2.2.1, yl10.2.2.2.2.2.2.2.2.1, yl10.2.2.2.2.2.2.2.2.2.1, yl10.2.2.2.2.2.2.2.2.2.2.1, yl10.2.2.2.2.2.2.2.2.2.2.2.1, yl10.2.2.2.2.2.2.2.2.2.2.2.2.1, yl10.2.2.2.2.2.2.2.2.2.2.2.2.2.2.2.2.1, yl10.2.2.2.2.2.2.2.2.2.2.2.2.2.2.2.2.2.1, (yl10.2.2.2.2.2.2.2.2.2.2.2.2.2.2.2.2.2.2.2 ++ x6), yl10.2.2.2.2.2.2.2.2.2.2.2.2.2.2.2.2.2.2.1)).bind fun yl12 =>
    let x8 := (List.getD yl12.2.2.2.2.2.2.2.2.2.2.2.2.2.2.1 (Int.toNat yl12.2.2.1) ([] : List S76))
    let x5 := ((decide (0 ≤ 0)) && (decide (0 < ((List.length x8) : Int))))
    cond x5 (
     cond x5 (
      cond x5 (
       let x10 := (List.length yl12.2.2.2.2.2.2.2.2.2.2.2.2.2.2.2.2)
       cond (decide ((x10 : Int) ≥ 20000)) (
        some (.inr (.inr 18))) (
        let x7 := (List.getD x8 (Int.toNat 0) z76)
        let x1 := (Go.IntKind.wrap (Go.IntKind.i64 ) (yl12.2.2.2.2.2.2.2.2.2.2.2.1 + (Go.IntKind.wrap (Go.IntKind.i64 ) (yl12.2.2.2.2.2.2.1 * x7.f4))))
        let x2 := (Go.IntKind.wrap (Go.IntKind.i64 ) (yl12.2.2.2.2.2.2.2.2.2.2.1 + (Go.IntKind.wrap (Go.IntKind.i64 ) (yl12.2.2.2.2.2.2.1 * x7.f3))))
        let x3 := (Go.IntKind.wrap (Go.IntKind.i64 ) (yl12.2.2.2.2.2.2.2.2.2.1 + (Go.IntKind.wrap (Go.IntKind.i64 ) (yl12.2.2.2.2.2.2.1 * x7.f2))))
        let x0 := ((⟨x3, x2, x1, yl12.2.2.2.2.2.2.1⟩ : S59) :: [])
        cond (decide ((x10 + (List.length x0)) ≤ 274877906944)) (
         some (.inl (yl12.1, yl12.2.1, yl12.2.2.1, yl12.2.2.2.1, (Go.IntKind.wrap (Go.IntKind.i64 ) (yl12.2.2.2.2.1 - yl12.2.2.2.2.2.2.1)), yl12.2.2.2.2.2.2.1, (Go.IntKind.wrap (Go.IntKind.i64 ) (yl12.2.2.2.2.2.1 + yl12.2.2.2.2.2.2.1)), yl12.2.2.2.2.2.2.2.1, yl12.2.2.2.2.2.2.2.2.1, x3, x2, x1, yl12.2.2.2.2.2.2.1, yl12.2.2.2.2.2.2.2.2.2.2.2.2.2.1, yl12.2.2.2.2.2.2.2.2.2.2.2.2.2.2.1, (yl12.2.2.2.2.2.2.2.2.2.2.2.2.2.2.2.2 ++ x0), yl12.2.2.2.2.2.2.2.2.2.2.2.2.2.2.2.1))) none)) none) none) none) none) (
   some (.inr (.inl (v1, v2, v216, v217, b1152_0, b1152_1, b1152_2, b1152_3, r0, r1280, r522, r523))))
noncomputable def l8 (x : Int × Int × Int × Int × Int × Int × Int × Int × Int × Int × Int × Int × Int × (List S50) × (List (List S76)) × (List S59) × (List S38)) : Option ((Int × Int × Int × Int × Int × Int × Int × Int × (List S50) × (List (List S76)) × (List S59) × (List S38)) ⊕ Int) := lim l8.b x
theorem l8.eq : ∀ x, l8.b x = roundX (mkE tab es 346 [(10, some (loopO 10 (cutOf l10.A l10.c) (cutsOf l10.xs l10.y) l10)), (12, some (loopO 12 (cutOf l12.A l12.c) (cutsOf l12.xs l12.y) l12))] []) (loopAt 8 code) (cutOf l8.A l8.c) (cutsOf l8.xs l8.y) x := fun x => by kernel_rfl
theorem l8.owed {R : Type} : owed (mkE (R := R) tab es 346 [(10, some (loopO 10 (cutOf l10.A l10.c) (cutsOf l10.xs l10.y) l10)), (12, some (loopO 12 (cutOf l12.A l12.c) (cutsOf l12.xs l12.y) l12))] []) (loopAt 8 code) = [((.block 10 (.loop (loopAt 10 code))), (loopO (R := _) 10 (cutOf l10.A l10.c) (cutsOf l10.xs l10.y) l10)), ((.block 12 (.loop (loopAt 12 code))), (loopO (R := _) 12 (cutOf l12.A l12.c) (cutsOf l12.xs l12.y) l12))] := by kernel_rfl
theorem l8.ok (w0 : World) (M : Own) (h : Pinned M []) {R : Type} : SoundO prog w0 M 346 (.block 8 (.loop (loopAt 8 code))) (loopO (R := R) 8 (cutOf l8.A l8.c) (cutsOf l8.xs l8.y) l8) :=
  loop_ok tabOk uniOk mixed l8.eq (h.sub rfl) (h.sub rfl) fun x hx => by rw [l8.owed] at hx; rcases List.mem_cons.1 hx with rfl | hx; exact l10.ok w0 M h; rcases List.mem_cons.1 hx with rfl | hx; exact l12.ok w0 M h; exact absurd hx List.not_mem_nil

def t38.A : Ann := ⟨[(0, .slc 5000000 []), (1, .sc), (2, .sc), (6, .box 5000384 0), (8, .box 5000512 0), (18, .box 5001152 0), (20, .slc 5001280 [0]), (21, .sc), (215, .slc 5001280 []), (216, .sc), (217, .sc)], [(5000384, 55, [.nil, .nil]), (5000512, 55, [.slc 5000522 [], .slc 5000523 []]), (5001152, 60, [.sc, .sc, .sc, .sc])], [(5000000, false, 2), (5001280, true, 7), (5000522, true, 1), (5000523, true, 4)], []⟩
def t38.c : Cod uni (Int × Int × Int × Int × Int × Int × Int × Int × Int × Int × (List S50) × (List (List S76)) × (List S59) × (List S38)) := (codC (iInt .i64) (codC (iInt .i64) (codC (iInt .i64) (codC (iInt .i64) (codC (iInt .i64) (codC (iInt .i64) (codC (iInt .i64) (codC (iInt .i64) (codC (iInt .i64) (codC (iInt .i64) (codC (iRow 2) (codC (iRow 7) (codC (iRow 1) (cod1 (iRow 4)))))))))))))))
def t38.xs : List (AExit × Ann) := [(.normal, ⟨[(0, .slc 5000000 []), (1, .sc), (2, .sc), (6, .box 5000384 0), (8, .box 5000512 0), (18, .box 5001152 0), (215, .slc 5013760 []), (216, .sc), (217, .sc)], [(5000384, 55, [.nil, .nil]), (5000512, 55, [.slc 5000522 [], .slc 5000523 []]), (5001152, 60, [.sc, .sc, .sc, .sc])], [(5000000, false, 2), (5013760, true, 7), (5000522, true, 1), (5000523, true, 4)], []⟩), (.ret, ⟨[(6, .box 5000384 0), (7, .sc)], [(5000384, 55, [.nil, .nil])], [], []⟩)]
def t38.y : Coy uni ((Int × Int × Int × Int × Int × Int × Int × Int × (List S50) × (List (List S76)) × (List S59) × (List S38)) ⊕ Int) := (coyS (codC (iInt .i64) (codC (iInt .i64) (codC (iInt .i64) (codC (iInt .i64) (codC (iInt .i64) (codC (iInt .i64) (codC (iInt .i64) (codC (iInt .i64) (codC (iRow 2) (codC (iRow 7) (codC (iRow 1) (cod1 (iRow 4))))))))))))) (coy1 (cod1 (iInt .i64))))
noncomputable def t38 : Int × Int × Int × Int × Int × Int × Int × Int × Int × Int × (List S50) × (List (List S76)) × (List S59) × (List S38) → Option ((Int × Int × Int × Int × Int × Int × Int × Int × (List S50) × (List (List S76)) × (List S59) × (List S38)) ⊕ Int)
  | (v1, v2, v20i0, v21, v216, v217, b1152_0, b1152_1, b1152_2, b1152_3, r0, r1280, r522, r523) =>
  (l6 (v1, v2, v20i0, v21, 0, v216, v217, v20i0, ((List.length (List.getD r1280 (Int.toNat v20i0) ([] : List S76))) : Int), 0, b1152_0, b1152_1, b1152_2, b1152_3, r0, r1280, r522, r523)).bind fun yl6 =>
  (l8 (yl6.1, yl6.2.1, yl6.2.2.1, yl6.2.2.2.1, yl6.2.2.2.2.1, 0, 0, yl6.2.2.2.2.2.1, yl6.2.2.2.2.2.2.1, yl6.2.2.2.2.2.2.2.1, yl6.2.2.2.2.2.2.2.2.1, yl6.2.2.2.2.2.2.2.2.2.1, yl6.2.2.2.2.2.2.2.2.2.2.1, yl6.2.2.2.2.2.2.2.2.2.2.2.1, yl6.2.2.2.2.2.2.2.2.2.2.2.2.1, yl6.2.2.2.2.2.2.2.2.2.2.2.2.2.1, yl6.2.2.2.2.2.2.2.2.2.2.2.2.2.2)).bind fun q => match q with
  | (.inl yl8) =>
   some (.inl (yl8.1, yl8.2.1, yl8.2.2.1, yl8.2.2.2.1, yl8.2.2.2.2.1, yl8.2.2.2.2.2.1, yl8.2.2.2.2.2.2.1, yl8.2.2.2.2.2.2.2.1, yl8.2.2.2.2.2.2.2.2.1, yl8.2.2.2.2.2.2.2.2.2.1, yl8.2.2.2.2.2.2.2.2.2.2.1, yl8.2.2.2.2.2.2.2.2.2.2.2))
  | (.inr yl8) =>
   some (.inr yl8)
theorem t38.eq : ∀ x, t38 x = tailX (mkE tab es 346 [(6, some (loopO 6 (cutOf l6.A l6.c) (cutsOf l6.xs l6.y) l6)), (8, some (loopO 8 (cutOf l8.A l8.c) (cutsOf l8.xs l8.y) l8))] []) (tailAt 38 code) (cutOf t38.A t38.c) (cutsOf t38.xs t38.y) x := fun x => by kernel_rfl
theorem t38.owed {R : Type} : owed (mkE (R := R) tab es 346 [(6, some (loopO 6 (cutOf l6.A l6.c) (cutsOf l6.xs l6.y) l6)), (8, some (loopO 8 (cutOf l8.A l8.c) (cutsOf l8.xs l8.y) l8))] []) (tailAt 38 code) = [((.block 6 (.loop (loopAt 6 code))), (loopO (R := _) 6 (cutOf l6.A l6.c) (cutsOf l6.xs l6.y) l6)), ((.block 8 (.loop (loopAt 8 code))), (loopO (R := _) 8 (cutOf l8.A l8.c) (cutsOf l8.xs l8.y) l8))] := by kernel_rfl
theorem t38.ok (w0 : World) (M : Own) (h : Pinned M []) {R : Type} : SoundO prog w0 M 346 (tailAt 38 code) (tailO (R := R) (cutOf t38.A t38.c) (cutsOf t38.xs t38.y) t38) :=
  tail_ok tabOk uniOk mixed t38.eq (h.sub rfl) (h.sub rfl) fun x hx => by rw [t38.owed] at hx; rcases List.mem_cons.1 hx with rfl | hx; exact l6.ok w0 M h; rcases List.mem_cons.1 hx with rfl | hx; exact l8.ok w0 M h; exact absurd hx List.not_mem_nil

def l4.A : Ann := ⟨[(0, .slc 5000000 []), (1, .sc), (2, .sc), (6, .box 5000384 0), (8, .box 5000512 0), (18, .box 5001152 0), (215, .slc 5013760 []), (216, .sc), (217, .sc)], [(5000384, 55, [.nil, .nil]), (5000512, 55, [.slc 5000522 [], .slc 5000523 []]), (5001152, 60, [.sc, .sc, .sc, .sc])], [(5000000, false, 2), (5013760, true, 7), (5000522, true, 1), (5000523, true, 4)], []⟩
def l4.c : Cod uni (Int × Int × Int × Int × Int × Int × Int × Int × (List S50) × (List (List S76)) × (List S59) × (List S38)) := (codC (iInt .i64) (codC (iInt .i64) (codC (iInt .i64) (codC (iInt .i64) (codC (iInt .i64) (codC (iInt .i64) (codC (iInt .i64) (codC (iInt .i64) (codC (iRow 2) (codC (iRow 7) (codC (iRow 1) (cod1 (iRow 4)))))))))))))
def l4.xs : List (AExit × Ann) := [(.ret, ⟨[(6, .box 5000384 0), (7, .sc)], [(5000384, 55, [.nil, .nil])], [], []⟩), ((.exit 4), ⟨[(0, .slc 5000000 []), (6, .box 5000384 0), (8, .box 5000512 0)], [(5000384, 55, [.nil, .nil]), (5000512, 55, [.slc 5000522 [], .slc 5000523 []])], [(5000000, false, 2), (5000522, true, 1), (5000523, true, 4)], []⟩)]
def l4.y : Coy uni (Int ⊕ ((List S50) × (List S59) × (List S38))) := (coyS (cod1 (iInt .i64)) (coy1 (codC (iRow 2) (codC (iRow 1) (cod1 (iRow 4))))))
noncomputable def l4.b : Int × Int × Int × Int × Int × Int × Int × Int × (List S50) × (List (List S76)) × (List S59) × (List S38) → Option ((Int × Int × Int × Int × Int × Int × Int × Int × (List S50) × (List (List S76)) × (List S59) × (List S38)) ⊕ (Int ⊕ ((List S50) × (List S59) × (List S38))))
  | (v1, v2, v216, v217, b1152_0, b1152_1, b1152_2, b1152_3, r0, r13760, r522, r523) =>
  cond (decide (v217 < v216)) (
   cond ((decide (0 ≤ v217)) && (decide (v217 < ((List.length r13760) : Int)))) (
    let x0 := (List.getD r13760 (Int.toNat v217) ([] : List S76))
    cond ((decide (0 ≤ 0)) && (decide (0 < ((List.length x0) : Int)))) (
     cond (!(List.getD x0 (Int.toNat 0) z76).f1) (
      (t38 (v1, v2, v217, (Go.IntKind.wrap (Go.IntKind.i64 ) (Int.tdiv (Go.IntKind.wrap (Go.IntKind.i64 ) (v1 + 1)) 2)), v216, v217, b1152_0, b1152_1, b1152_2, b1152_3, r0, r13760, r522, r523)).bind fun q => match q with
      | (.inl yt38) =>
       some (.inl (yt38.1, yt38.2.1, yt38.2.2.1, (Go.IntKind.wrap (Go.IntKind.i64 ) (yt38.2.2.2.1 + 1)), yt38.2.2.2.2.1, yt38.2.2.2.2.2.1, yt38.2.2.2.2.2.2.1, yt38.2.2.2.2.2.2.2.1, yt38.2.2.2.2.2.2.2.2.1, yt38.2.2.2.2.2.2.2.2.2.1, yt38.2.2.2.2.2.2.2.2.2.2.1, yt38.2.2.2.2.2.2.2.2.2.2.2))
      | (.inr yt38) =>
       some (.inr (.inl yt38))) (
      (t38 (v1, v2, v217, v1, v216, v217, b1152_0, b1152_1, b1152_2, b1152_3, r0, r13760, r522, r523)).bind fun q => match q with
      | (.inl yt38) =>
       some (.inl (yt38.1, yt38.2.1, yt38.2.2.1, (Go.IntKind.wrap (Go.IntKind.i64 ) (yt38.2.2.2.1 + 1)), yt38.2.2.2.2.1, yt38.2.2.2.2.2.1, yt38.2.2.2.2.2.2.1, yt38.2.2.2.2.2.2.2.1, yt38.2.2.2.2.2.2.2.2.1, yt38.2.2.2.2.2.2.2.2.2.1, yt38.2.2.2.2.2.2.2.2.2.2.1, yt38.2.2.2.2.2.2.2.2.2.2.2))
      | (.inr yt38) =>
       some (.inr (.inl yt38)))) none) none) (
   some (.inr (.inr (r0, r522, r523))))
noncomputable def l4 (x : Int × Int × Int × Int × Int × Int × Int × Int × (List S50) × (List (List S76)) × (List S59) × (List S38)) : Option (Int ⊕ ((List S50) × (List S59) × (List S38))) := lim l4.b x
theorem l4.eq : ∀ x, l4.b x = roundX (mkE tab es 346 [] [(38, some (tailO (cutOf t38.A t38.c) (cutsOf t38.xs t38.y) t38))]) (loopAt 4 code) (cutOf l4.A l4.c) (cutsOf l4.xs l4.y) x := fun x => by kernel_rfl
theorem l4.owed {R : Type} : owed (mkE (R := R) tab es 346 [] [(38, some (tailO (cutOf t38.A t38.c) (cutsOf t38.xs t38.y) t38))]) (loopAt 4 code) = [((tailAt 38 code), (tailO (R := _) (cutOf t38.A t38.c) (cutsOf t38.xs t38.y) t38))] := by kernel_rfl
theorem l4.ok (w0 : World) (M : Own) (h : Pinned M []) {R : Type} : SoundO prog w0 M 346 (.block 4 (.loop (loopAt 4 code))) (loopO (R := R) 4 (cutOf l4.A l4.c) (cutsOf l4.xs l4.y) l4) :=
  loop_ok tabOk uniOk mixed l4.eq (h.sub rfl) (h.sub rfl) fun x hx => by rw [l4.owed] at hx; rcases List.mem_cons.1 hx with rfl | hx; exact t38.ok w0 M h; exact absurd hx List.not_mem_nil

noncomputable def F : ((List S50) × Int × Int) → Option ((((List S59) × (List S38)) × Int))
  | (p0, p1, p2) =>
  let x1 := ((List.length p0) : Int)
  cond (decide (x1 > 4096)) (
   some ((([] : List S59), ([] : List S38)), 2)) (
   cond ((((decide (p1 < 1)) || (decide (p1 > 1000))) || (decide (p2 < 1))) || (decide (p2 > p1))) (
    some ((([] : List S59), ([] : List S38)), 1)) (
    cond (decide (x1 > 2000)) (
     some ((([] : List S59), ([] : List S38)), 10)) (
     (l0 (p1, p2, x1, 0, p0)).bind fun q => match q with
     | (.inl yl0) =>
      some ((([] : List S59), ([] : List S38)), yl0)
     | (.inr yl0) =>
      (l2 (yl0.1, yl0.2.1, ((List.length yl0.2.2) : Int), 0, false, 0, 0, 0, yl0.2.2, ([] : List (List S76)))).bind fun q => match q with
      | (.inl yl2) =>
       some ((([] : List S59), ([] : List S38)), yl2)
      | (.inr yl2) =>
       (l4 (yl2.1, yl2.2.1, ((List.length yl2.2.2.2) : Int), 0, 0, 0, 0, 0, yl2.2.2.1, yl2.2.2.2, ([] : List S59), ([] : List S38))).bind fun q => match q with
       | (.inl yl4) =>
        some ((([] : List S59), ([] : List S38)), yl4)
       | (.inr yl4) =>
        let x0 := ((⟨((List.length yl4.1) : Int), 0, 0⟩ : S38) :: [])
        cond (decide (((List.length yl4.2.2) + (List.length x0)) ≤ 274877906944)) (
         some ((yl4.2.1, (yl4.2.2 ++ x0)), 0)) none)))
theorem F.eq : ∀ x, F x = runF (mkE tab es 346 [(0, some (loopO 0 (cutOf l0.A l0.c) (cutsOf l0.xs l0.y) l0)), (2, some (loopO 2 (cutOf l2.A l2.c) (cutsOf l2.xs l2.y) l2)), (4, some (loopO 4 (cutOf l4.A l4.c) (cutsOf l4.xs l4.y) l4))] []) code [.row 2 0, .sc, .sc] [.agg [.row 1, .row 4], .sc] [.cell 6 55, .tmp 7] (Coz.dec cr) (cp.enc x) := fun x => by kernel_rfl
theorem F.owed : owed (mkE (R := (((List S59) × (List S38)) × Int)) tab es 346 [(0, some (loopO 0 (cutOf l0.A l0.c) (cutsOf l0.xs l0.y) l0)), (2, some (loopO 2 (cutOf l2.A l2.c) (cutsOf l2.xs l2.y) l2)), (4, some (loopO 4 (cutOf l4.A l4.c) (cutsOf l4.xs l4.y) l4))] []) code = [((.block 0 (.loop (loopAt 0 code))), (loopO (R := _) 0 (cutOf l0.A l0.c) (cutsOf l0.xs l0.y) l0)), ((.block 2 (.loop (loopAt 2 code))), (loopO (R := _) 2 (cutOf l2.A l2.c) (cutsOf l2.xs l2.y) l2)), ((.block 4 (.loop (loopAt 4 code))), (loopO (R := _) 4 (cutOf l4.A l4.c) (cutsOf l4.xs l4.y) l4))] := by kernel_rfl
theorem con : ∀ x y, F x = some y → Con prog 25 [.row 2 0, .sc, .sc] [.agg [.row 1, .row 4], .sc] (cp.enc x) (cr.enc y).1 (cr.enc y).2 :=
  func_ok (c := code) (n := 346) (pf := [.row 2 0, .sc, .sc]) (res := [.cell 6 55, .tmp 7]) tabOk uniOk mixed get (by kernel_rfl) (by kernel_rfl) (by kernel_rfl) (by decide) F.eq fun w0 M h x hx => by rw [F.owed] at hx; rcases List.mem_cons.1 hx with rfl | hx; exact l0.ok w0 M h; rcases List.mem_cons.1 hx with rfl | hx; exact l2.ok w0 M h; rcases List.mem_cons.1 hx with rfl | hx; exact l4.ok w0 M h; exact absurd hx List.not_mem_nil
noncomputable def ent : Ent prog uni := Ent.of 25 [.row 2 0, .sc, .sc] [.agg [.row 1, .row 4], .sc] cp cr F con fun args w => enters_of get (by kernel_rfl) rfl args w
end Go.Proofs.Ytpingihfadihfaa.AX.F25

/- The function 17 of the program in the small machine. No conditions. -/
namespace Go.Proofs.Ytpingihfadihfaa.AX.F17
open Go Go.Proofs.Try
noncomputable def code : Code := bodyOf f17
abbrev Y : Type := ((Int × Int × Int) × Int)
def cp : Cod uni ((List S50) × Int × Int × Int) := (codC (iRow 2) (codC (iInt .i64) (codC (iInt .i64) (cod1 (iInt .i64)))))
def cr : Coz uni ((Int × Int × Int) × Int) := (cozR (codC (iAgg (codC (iInt .i64) (codC (iInt .i64) (cod1 (iInt .i64))))) (cod1 (iInt .i64))) (codD (codD (codD (codD cod0)))))
noncomputable def es : List (Ent prog uni) := [F25.ent]
theorem get : prog.funcs[17]? = some f17 := by kernel_rfl

noncomputable def F : ((List S50) × Int × Int × Int) → Option (((Int × Int × Int) × Int))
  | (p0, p1, p2, p3) =>
  (F25.F (p0, (p1, p2))).bind fun y25 =>
  cond (y25.2 != 0) (
   some ((0, (0, 0)), y25.2)) (
   cond ((decide (p3 < 0)) || (decide (p3 > ((List.length y25.1.1) : Int)))) (
    some ((0, (0, 0)), 5)) (
    cond ((decide (0 ≤ p3)) && (decide (p3 < ((List.length y25.1.2) : Int)))) (
     let x0 := (List.getD y25.1.2 (Int.toNat p3) z38)
     some ((x0.f0, (x0.f1, x0.f2)), 0)) none))
theorem F.eq : ∀ x, F x = runF (mkE tab es 38 [] []) code [.row 2 0, .sc, .sc, .sc] [.agg [.sc, .sc, .sc], .sc] [.cell 8 39, .tmp 9] (Coz.dec cr) (cp.enc x) := fun x => by kernel_rfl
theorem F.owed : owed (mkE (R := ((Int × Int × Int) × Int)) tab es 38 [] []) code = [] := by kernel_rfl
theorem con : ∀ x y, F x = some y → Con prog 17 [.row 2 0, .sc, .sc, .sc] [.agg [.sc, .sc, .sc], .sc] (cp.enc x) (cr.enc y).1 (cr.enc y).2 :=
  func_ok (c := code) (n := 38) (pf := [.row 2 0, .sc, .sc, .sc]) (res := [.cell 8 39, .tmp 9]) tabOk uniOk mixed get (by kernel_rfl) (by kernel_rfl) (by kernel_rfl) (by decide) F.eq fun w0 M h x hx => by rw [F.owed] at hx; exact absurd hx List.not_mem_nil
noncomputable def ent : Ent prog uni := Ent.of 17 [.row 2 0, .sc, .sc, .sc] [.agg [.sc, .sc, .sc], .sc] cp cr F con fun args w => enters_of get (by kernel_rfl) rfl args w
end Go.Proofs.Ytpingihfadihfaa.AX.F17

/- The function 18 of the program in the small machine. No conditions. -/
namespace Go.Proofs.Ytpingihfadihfaa.AX.F18
open Go Go.Proofs.Try
noncomputable def code : Code := bodyOf f18
abbrev Y : Type := ((Int × Int × Int) × Int)
def cp : Cod uni ((List S50) × Int × Int × Int) := (codC (iRow 2) (codC (iInt .i64) (codC (iInt .i64) (cod1 (iInt .i64)))))
def cr : Coz uni ((Int × Int × Int) × Int) := (cozR (codC (iAgg (codC (iInt .i64) (codC (iInt .i64) (cod1 (iInt .i64))))) (cod1 (iInt .i64))) (codD (codD (codD (codD cod0)))))
noncomputable def es : List (Ent prog uni) := [F23.ent]
theorem get : prog.funcs[18]? = some f18 := by kernel_rfl

noncomputable def F : ((List S50) × Int × Int × Int) → Option (((Int × Int × Int) × Int))
  | (p0, p1, p2, p3) =>
  (F23.F (p0, (p1, p2))).bind fun y23 =>
  cond (y23.2.2 != 0) (
   some ((0, (0, 0)), y23.2.2)) (
   let x1 := ((List.length y23.2.1) : Int)
   cond ((decide (p3 < 0)) || (decide (p3 ≥ x1))) (
    some ((0, (0, 0)), 5)) (
    cond ((decide (0 ≤ p3)) && (decide (p3 < x1))) (
     let x0 := (List.getD y23.2.1 (Int.toNat p3) z38)
     some ((x0.f0, (x0.f1, x0.f2)), 0)) none))
theorem F.eq : ∀ x, F x = runF (mkE tab es 38 [] []) code [.row 2 0, .sc, .sc, .sc] [.agg [.sc, .sc, .sc], .sc] [.cell 8 39, .tmp 9] (Coz.dec cr) (cp.enc x) := fun x => by kernel_rfl
theorem F.owed : owed (mkE (R := ((Int × Int × Int) × Int)) tab es 38 [] []) code = [] := by kernel_rfl
theorem con : ∀ x y, F x = some y → Con prog 18 [.row 2 0, .sc, .sc, .sc] [.agg [.sc, .sc, .sc], .sc] (cp.enc x) (cr.enc y).1 (cr.enc y).2 :=
  func_ok (c := code) (n := 38) (pf := [.row 2 0, .sc, .sc, .sc]) (res := [.cell 8 39, .tmp 9]) tabOk uniOk mixed get (by kernel_rfl) (by kernel_rfl) (by kernel_rfl) (by decide) F.eq fun w0 M h x hx => by rw [F.owed] at hx; exact absurd hx List.not_mem_nil
noncomputable def ent : Ent prog uni := Ent.of 18 [.row 2 0, .sc, .sc, .sc] [.agg [.sc, .sc, .sc], .sc] cp cr F con fun args w => enters_of get (by kernel_rfl) rfl args w
end Go.Proofs.Ytpingihfadihfaa.AX.F18

/- The function 19 of the program in the small machine. No conditions. -/
namespace Go.Proofs.Ytpingihfadihfaa.AX.F19
open Go Go.Proofs.Try
noncomputable def code : Code := bodyOf f19
abbrev Y : Type := ((List S59) × Int)
def cp : Cod uni ((List S50) × Int × Int × (Int × Int × Int)) := (codC (iRow 2) (codC (iInt .i64) (codC (iInt .i64) (cod1 (iAgg (codC (iInt .i64) (codC (iInt .i64) (cod1 (iInt .i64)))))))))
def cr : Coz uni ((List S59) × Int) := (cozR (codC (iRow 1) (cod1 (iInt .i64))) (codD (codD (codD (codD cod0)))))
noncomputable def es : List (Ent prog uni) := [F25.ent]
theorem get : prog.funcs[19]? = some f19 := by kernel_rfl

def l0.A : Ann := ⟨[(7, .box 5000448 0), (10, .box 5000640 0), (25, .slc 5001600 []), (26, .sc), (27, .sc)], [(5000448, 39, [.sc, .sc, .sc]), (5000640, 55, [.slc 5000650 [], .slc 5001600 []])], [(5001600, true, 4), (5000650, true, 1)], []⟩
def l0.c : Cod uni (Int × Int × Int × Int × Int × (List S38) × (List S59)) := (codC (iInt .i64) (codC (iInt .i64) (codC (iInt .i64) (codC (iInt .i64) (codC (iInt .i64) (codC (iRow 4) (cod1 (iRow 1))))))))
def l0.xs : List (AExit × Ann) := [(.ret, ⟨[(8, .slc 5000512 []), (9, .sc)], [], [(5000512, true, 1)], []⟩), ((.exit 0), ⟨[], [], [], []⟩)]
def l0.y : Coy uni ((Int × (List S59)) ⊕ Unit) := (coyS (codC (iInt .i64) (cod1 (iRow 1))) (coy1 cod0))
noncomputable def l0.b : Int × Int × Int × Int × Int × (List S38) × (List S59) → Option ((Int × Int × Int × Int × Int × (List S38) × (List S59)) ⊕ ((Int × (List S59)) ⊕ Unit))
  | (v26, v27, b448_0, b448_1, b448_2, r1600, r650) =>
  cond (decide (v27 < v26)) (
   cond ((decide (0 ≤ v27)) && (decide (v27 < ((List.length r1600) : Int)))) (
    let x1 := (List.getD r1600 (Int.toNat v27) z38)
    cond ((x1.f0 == b448_0) && ((x1.f1 == b448_1) && (x1.f2 == b448_2))) (
     let x2 := ((List.length r650) : Int)
     cond (((decide (0 ≤ v27)) && (decide (v27 ≤ x2))) && (decide (x2 ≤ x2))) (
      let x0 := (List.take (Int.toNat (x2 - v27)) (List.drop (Int.toNat v27) r650))
      cond (decide ((List.length x0) ≤ 274877906944)) (
       some (.inr (.inl (0, x0)))) none) none) (
     some (.inl (v26, (Go.IntKind.wrap (Go.IntKind.i64 ) (v27 + 1)), b448_0, b448_1, b448_2, r1600, r650)))) none) (
   some (.inr (.inr ())))
noncomputable def l0 (x : Int × Int × Int × Int × Int × (List S38) × (List S59)) : Option ((Int × (List S59)) ⊕ Unit) := lim l0.b x
theorem l0.eq : ∀ x, l0.b x = roundX (mkE tab es 41 [] []) (loopAt 0 code) (cutOf l0.A l0.c) (cutsOf l0.xs l0.y) x := fun x => by kernel_rfl
theorem l0.owed {R : Type} : owed (mkE (R := R) tab es 41 [] []) (loopAt 0 code) = [] := by kernel_rfl
theorem l0.ok (w0 : World) (M : Own) (h : Pinned M []) {R : Type} : SoundO prog w0 M 41 (.block 0 (.loop (loopAt 0 code))) (loopO (R := R) 0 (cutOf l0.A l0.c) (cutsOf l0.xs l0.y) l0) :=
  loop_ok tabOk uniOk mixed l0.eq (h.sub rfl) (h.sub rfl) fun x hx => by rw [l0.owed] at hx; exact absurd hx List.not_mem_nil

noncomputable def F : ((List S50) × Int × Int × (Int × Int × Int)) → Option (((List S59) × Int))
  | (p0, p1, p2, (p3_0, p3_1, p3_2)) =>
  (F25.F (p0, (p1, p2))).bind fun y25 =>
  cond (y25.2 != 0) (
   some (([] : List S59), y25.2)) (
   (l0 (((List.length y25.1.2) : Int), 0, p3_0, p3_1, p3_2, y25.1.2, y25.1.1)).bind fun q => match q with
   | (.inl yl0) =>
    some (yl0.2, yl0.1)
   | (.inr yl0) =>
    some (([] : List S59), 5))
theorem F.eq : ∀ x, F x = runF (mkE tab es 41 [(0, some (loopO 0 (cutOf l0.A l0.c) (cutsOf l0.xs l0.y) l0))] []) code [.row 2 0, .sc, .sc, .agg [.sc, .sc, .sc]] [.row 1, .sc] [.tmp 8, .tmp 9] (Coz.dec cr) (cp.enc x) := fun x => by kernel_rfl
theorem F.owed : owed (mkE (R := ((List S59) × Int)) tab es 41 [(0, some (loopO 0 (cutOf l0.A l0.c) (cutsOf l0.xs l0.y) l0))] []) code = [((.block 0 (.loop (loopAt 0 code))), (loopO (R := _) 0 (cutOf l0.A l0.c) (cutsOf l0.xs l0.y) l0))] := by kernel_rfl
theorem con : ∀ x y, F x = some y → Con prog 19 [.row 2 0, .sc, .sc, .agg [.sc, .sc, .sc]] [.row 1, .sc] (cp.enc x) (cr.enc y).1 (cr.enc y).2 :=
  func_ok (c := code) (n := 41) (pf := [.row 2 0, .sc, .sc, .agg [.sc, .sc, .sc]]) (res := [.tmp 8, .tmp 9]) tabOk uniOk mixed get (by kernel_rfl) (by kernel_rfl) (by kernel_rfl) (by decide) F.eq fun w0 M h x hx => by rw [F.owed] at hx; rcases List.mem_cons.1 hx with rfl | hx; exact l0.ok w0 M h; exact absurd hx List.not_mem_nil
noncomputable def ent : Ent prog uni := Ent.of 19 [.row 2 0, .sc, .sc, .agg [.sc, .sc, .sc]] [.row 1, .sc] cp cr F con fun args w => enters_of get (by kernel_rfl) rfl args w
end Go.Proofs.Ytpingihfadihfaa.AX.F19

/- The function 20 of the program in the small machine. No conditions. -/
namespace Go.Proofs.Ytpingihfadihfaa.AX.F20
open Go Go.Proofs.Try
noncomputable def code : Code := bodyOf f20
abbrev Y : Type := Bool
def cp : Cod uni ((List S59) × (List S59)) := (codC (iRow 1) (cod1 (iRow 1)))
def cr : Coz uni Bool := (cozR (cod1 iBool) (codD (codD cod0)))
noncomputable def es : List (Ent prog uni) := []
theorem get : prog.funcs[20]? = some f20 := by kernel_rfl

def l0.A : Ann := ⟨[(0, .slc 5000000 []), (1, .slc 5000064 []), (5, .sc)], [], [(5000000, false, 1), (5000064, false, 1)], []⟩
def l0.c : Cod uni (Int × (List S59) × (List S59)) := (codC (iInt .i64) (codC (iRow 1) (cod1 (iRow 1))))
def l0.xs : List (AExit × Ann) := [(.ret, ⟨[(4, .sc)], [], [], []⟩), ((.exit 0), ⟨[], [], [], []⟩)]
def l0.y : Coy uni (Bool ⊕ Unit) := (coyS (cod1 iBool) (coy1 cod0))
noncomputable def l0.b : Int × (List S59) × (List S59) → Option ((Int × (List S59) × (List S59)) ⊕ (Bool ⊕ Unit))
  | (v5, r0, r64) =>
  let x0 := (decide (v5 < ((List.length r0) : Int)))
  cond x0 (
   cond ((decide (0 ≤ v5)) && x0) (
    cond ((decide (0 ≤ v5)) && (decide (v5 < ((List.length r64) : Int)))) (
     let x1 := (List.getD r64 (Int.toNat v5) z59)
     let x2 := (List.getD r0 (Int.toNat v5) z59)
     cond (!((x2.f0 == x1.f0) && ((x2.f1 == x1.f1) && ((x2.f2 == x1.f2) && (x2.f3 == x1.f3))))) (
      some (.inr (.inl false))) (
      some (.inl ((Go.IntKind.wrap (Go.IntKind.i64 ) (v5 + 1)), r0, r64)))) none) none) (
   some (.inr (.inr ())))
noncomputable def l0 (x : Int × (List S59) × (List S59)) : Option (Bool ⊕ Unit) := lim l0.b x
theorem l0.eq : ∀ x, l0.b x = roundX (mkE tab es 26 [] []) (loopAt 0 code) (cutOf l0.A l0.c) (cutsOf l0.xs l0.y) x := fun x => by kernel_rfl
theorem l0.owed {R : Type} : owed (mkE (R := R) tab es 26 [] []) (loopAt 0 code) = [] := by kernel_rfl
theorem l0.ok (w0 : World) (M : Own) (h : Pinned M []) {R : Type} : SoundO prog w0 M 26 (.block 0 (.loop (loopAt 0 code))) (loopO (R := R) 0 (cutOf l0.A l0.c) (cutsOf l0.xs l0.y) l0) :=
  loop_ok tabOk uniOk mixed l0.eq (h.sub rfl) (h.sub rfl) fun x hx => by rw [l0.owed] at hx; exact absurd hx List.not_mem_nil

noncomputable def F : ((List S59) × (List S59)) → Option (Bool)
  | (p0, p1) =>
  cond (((List.length p0) : Int) != ((List.length p1) : Int)) (
   some false) (
   (l0 (0, p0, p1)).bind fun q => match q with
   | (.inl yl0) =>
    some yl0
   | (.inr yl0) =>
    some true)
theorem F.eq : ∀ x, F x = runF (mkE tab es 26 [(0, some (loopO 0 (cutOf l0.A l0.c) (cutsOf l0.xs l0.y) l0))] []) code [.row 1 0, .row 1 0] [.sc] [.tmp 4] (Coz.dec cr) (cp.enc x) := fun x => by kernel_rfl
theorem F.owed : owed (mkE (R := Bool) tab es 26 [(0, some (loopO 0 (cutOf l0.A l0.c) (cutsOf l0.xs l0.y) l0))] []) code = [((.block 0 (.loop (loopAt 0 code))), (loopO (R := _) 0 (cutOf l0.A l0.c) (cutsOf l0.xs l0.y) l0))] := by kernel_rfl
theorem con : ∀ x y, F x = some y → Con prog 20 [.row 1 0, .row 1 0] [.sc] (cp.enc x) (cr.enc y).1 (cr.enc y).2 :=
  func_ok (c := code) (n := 26) (pf := [.row 1 0, .row 1 0]) (res := [.tmp 4]) tabOk uniOk mixed get (by kernel_rfl) (by kernel_rfl) (by kernel_rfl) (by decide) F.eq fun w0 M h x hx => by rw [F.owed] at hx; rcases List.mem_cons.1 hx with rfl | hx; exact l0.ok w0 M h; exact absurd hx List.not_mem_nil
noncomputable def ent : Ent prog uni := Ent.of 20 [.row 1 0, .row 1 0] [.sc] cp cr F con fun args w => enters_of get (by kernel_rfl) rfl args w
end Go.Proofs.Ytpingihfadihfaa.AX.F20

/- The function 4 of the program in the small machine. No conditions. -/
namespace Go.Proofs.Ytpingihfadihfaa.AX.F4
open Go Go.Proofs.Try
noncomputable def code : Code := bodyOf f4
abbrev Y : Type := Bool
def cp : Cod uni ((List Int) × (List Int)) := (codC (iRow 3) (cod1 (iRow 3)))
def cr : Coz uni Bool := (cozR (cod1 iBool) (codD (codD cod0)))
noncomputable def es : List (Ent prog uni) := [F15.ent, F7.ent, F16.ent, F17.ent, F18.ent, F19.ent, F20.ent]
theorem get : prog.funcs[4]? = some f4 := by kernel_rfl

noncomputable def F : ((List Int) × (List Int)) → Option (Bool)
  | (p0, p1) =>
  cond ((decide (((List.length p0) : Int) > 1048576)) || (decide (((List.length p1) : Int) > 1048576))) (
   some true) (
   (F15.F p0).bind fun y15 =>
   (F7.F (y15.1, (y15.2.1, y15.2.2))).bind fun y7 =>
   cond (y7.2 != 0) (
    some true) (
    let x3 := ((List.length y7.1) : Int)
    let x1 := (Go.IntKind.wrap (Go.IntKind.i64 ) (x3 + 1))
    (F16.F (p1, (0, x1))).bind fun y16 =>
    (F17.F (y15.1, (y15.2.1, (y15.2.2, y16)))).bind fun y17 =>
    (F18.F (y15.1, (y15.2.1, (y15.2.2, y16)))).bind fun y18 =>
    cond ((y17.2 != 0) || (!((y17.1.1 == y18.1.1) && ((y17.1.2.1 == y18.1.2.1) && (y17.1.2.2 == y18.1.2.2))))) (
     some false) (
     (F19.F (y15.1, (y15.2.1, (y15.2.2, (y17.1.1, (y17.1.2.1, y17.1.2.2)))))).bind fun y19 =>
     cond ((!(!(y19.2 != 0))) || (((decide (0 ≤ y16)) && (decide (y16 ≤ x3))) && (decide (x3 ≤ x3)))) (
      let x0 := (F17.F (y15.1, (y15.2.1, (y15.2.2, x1))))
      let x2 := (F19.F (y15.1, (y15.2.1, (y15.2.2, ((-1), (0, 0))))))
      cond (!(y19.2 != 0)) (
       (F20.F (y19.1, (List.take (Int.toNat (x3 - y16)) (List.drop (Int.toNat y16) y7.1)))).bind fun y20 =>
       cond ((y19.2 != 0) || (!y20)) (
        some false) (
        x0.bind fun y17x2 =>
        x2.bind fun y19x2 =>
        some ((y17x2.2 == 5) && (y19x2.2 == 5)))) (
       cond ((y19.2 != 0) || true) (
        some false) (
        x0.bind fun y17x2 =>
        x2.bind fun y19x2 =>
        some ((y17x2.2 == 5) && (y19x2.2 == 5))))) none)))
theorem F.eq : ∀ x, F x = runF (mkE tab es 114 [] []) code [.row 3 0, .row 3 0] [.sc] [.tmp 4] (Coz.dec cr) (cp.enc x) := fun x => by kernel_rfl
theorem F.owed : owed (mkE (R := Bool) tab es 114 [] []) code = [] := by kernel_rfl
theorem con : ∀ x y, F x = some y → Con prog 4 [.row 3 0, .row 3 0] [.sc] (cp.enc x) (cr.enc y).1 (cr.enc y).2 :=
  func_ok (c := code) (n := 114) (pf := [.row 3 0, .row 3 0]) (res := [.tmp 4]) tabOk uniOk mixed get (by kernel_rfl) (by kernel_rfl) (by kernel_rfl) (by decide) F.eq fun w0 M h x hx => by rw [F.owed] at hx; exact absurd hx List.not_mem_nil
noncomputable def ent : Ent prog uni := Ent.of 4 [.row 3 0, .row 3 0] [.sc] cp cr F con fun args w => enters_of get (by kernel_rfl) rfl args w
end Go.Proofs.Ytpingihfadihfaa.AX.F4

/- The function 6 of the program in the small machine. No conditions. -/
namespace Go.Proofs.Ytpingihfadihfaa.AX.F6
open Go Go.Proofs.Try
noncomputable def code : Code := bodyOf f6
abbrev Y : Type := Int
def cp : Cod uni ((List S50) × Int) := (codC (iRow 0) (cod1 (iInt .i64)))
def cr : Coz uni Int := (cozR (cod1 (iInt .i64)) (codD (codD cod0)))
noncomputable def es : List (Ent prog uni) := []
theorem get : prog.funcs[6]? = some f6 := by kernel_rfl

noncomputable def F : ((List S50) × Int) → Option (Int)
  | (p0, p1) =>
  let x0 := (Go.IntKind.wrap (Go.IntKind.i64 ) (p1 - ((List.length p0) : Int)))
  cond (decide (x0 < 0)) (
   some (-1)) (
   some x0)
theorem F.eq : ∀ x, F x = runF (mkE tab es 12 [] []) code [.row 0 0, .sc] [.sc] [.tmp 4] (Coz.dec cr) (cp.enc x) := fun x => by kernel_rfl
theorem F.owed : owed (mkE (R := Int) tab es 12 [] []) code = [] := by kernel_rfl
theorem con : ∀ x y, F x = some y → Con prog 6 [.row 0 0, .sc] [.sc] (cp.enc x) (cr.enc y).1 (cr.enc y).2 :=
  func_ok (c := code) (n := 12) (pf := [.row 0 0, .sc]) (res := [.tmp 4]) tabOk uniOk mixed get (by kernel_rfl) (by kernel_rfl) (by kernel_rfl) (by decide) F.eq fun w0 M h x hx => by rw [F.owed] at hx; exact absurd hx List.not_mem_nil
noncomputable def ent : Ent prog uni := Ent.of 6 [.row 0 0, .sc] [.sc] cp cr F con fun args w => enters_of get (by kernel_rfl) rfl args w
end Go.Proofs.Ytpingihfadihfaa.AX.F6

/- The function 24 of the program in the small machine. No conditions. -/
namespace Go.Proofs.Ytpingihfadihfaa.AX.F24
open Go Go.Proofs.Try
noncomputable def code : Code := bodyOf f24
abbrev Y : Type := (Bool × Int × Int × Int)
def cp : Cod uni (Bool × Int × Int × Int) := (cod1 (iAgg (codC iBool (codC (iInt .i64) (codC (iInt .i64) (cod1 (iInt .i64)))))))
def cr : Coz uni (Bool × Int × Int × Int) := (cozR (cod1 (iAgg (codC iBool (codC (iInt .i64) (codC (iInt .i64) (cod1 (iInt .i64))))))) (codD cod0))
noncomputable def es : List (Ent prog uni) := []
theorem get : prog.funcs[24]? = some f24 := by kernel_rfl

noncomputable def F : (Bool × Int × Int × Int) → Option ((Bool × Int × Int × Int))
  | (p0_0, p0_1, p0_2, p0_3) =>
  some (p0_0, (p0_1, (p0_2, p0_3)))
theorem F.eq : ∀ x, F x = runF (mkE tab es 17 [] []) code [.agg [.sc, .sc, .sc, .sc]] [.agg [.sc, .sc, .sc, .sc]] [.cell 2 51] (Coz.dec cr) (cp.enc x) := fun x => by kernel_rfl
theorem F.owed : owed (mkE (R := (Bool × Int × Int × Int)) tab es 17 [] []) code = [] := by kernel_rfl
theorem con : ∀ x y, F x = some y → Con prog 24 [.agg [.sc, .sc, .sc, .sc]] [.agg [.sc, .sc, .sc, .sc]] (cp.enc x) (cr.enc y).1 (cr.enc y).2 :=
  func_ok (c := code) (n := 17) (pf := [.agg [.sc, .sc, .sc, .sc]]) (res := [.cell 2 51]) tabOk uniOk mixed get (by kernel_rfl) (by kernel_rfl) (by kernel_rfl) (by decide) F.eq fun w0 M h x hx => by rw [F.owed] at hx; exact absurd hx List.not_mem_nil
noncomputable def ent : Ent prog uni := Ent.of 24 [.agg [.sc, .sc, .sc, .sc]] [.agg [.sc, .sc, .sc, .sc]] cp cr F con fun args w => enters_of get (by kernel_rfl) rfl args w
end Go.Proofs.Ytpingihfadihfaa.AX.F24

/- The function 8 of the program in the small machine. No conditions. -/
namespace Go.Proofs.Ytpingihfadihfaa.AX.F8
open Go Go.Proofs.Try
noncomputable def code : Code := bodyOf f8
abbrev Y : Type := (List S50)
def cp : Cod uni (List S50) := (cod1 (iRow 0))
def cr : Coz uni (List S50) := (cozR (cod1 (iRow 2)) (codD cod0))
noncomputable def es : List (Ent prog uni) := [F24.ent]
theorem get : prog.funcs[8]? = some f8 := by kernel_rfl

def l0.A : Ann := ⟨[(0, .slc 5000000 []), (3, .slc 5000192 []), (4, .sc)], [], [(5000000, false, 0), (5000192, true, 2)], []⟩
def l0.c : Cod uni (Int × (List S50) × (List S50)) := (codC (iInt .i64) (codC (iRow 0) (cod1 (iRow 2))))
def l0.xs : List (AExit × Ann) := [((.exit 0), ⟨[(3, .slc 5000192 [])], [], [(5000192, true, 2)], []⟩)]
def l0.y : Coy uni ((List S50)) := (coy1 (cod1 (iRow 2)))
noncomputable def l0.b : Int × (List S50) × (List S50) → Option ((Int × (List S50) × (List S50)) ⊕ ((List S50)))
  | (v4, r0, r192) =>
  let x0 := (decide (v4 < ((List.length r0) : Int)))
  cond x0 (
   cond ((decide (0 ≤ v4)) && x0) (
    let x1 := (List.getD r0 (Int.toNat v4) z50)
    (F24.F (x1.f0, (x1.f1, (x1.f2, x1.f3)))).bind fun y24 =>
    cond ((decide (0 ≤ v4)) && (decide (v4 < ((List.length r192) : Int)))) (
     some (.inl ((Go.IntKind.wrap (Go.IntKind.i64 ) (v4 + 1)), r0, (List.set r192 (Int.toNat v4) (⟨y24.1, y24.2.1, y24.2.2.1, y24.2.2.2⟩ : S50))))) none) none) (
   some (.inr r192))
noncomputable def l0 (x : Int × (List S50) × (List S50)) : Option ((List S50)) := lim l0.b x
theorem l0.eq : ∀ x, l0.b x = roundX (mkE tab es 23 [] []) (loopAt 0 code) (cutOf l0.A l0.c) (cutsOf l0.xs l0.y) x := fun x => by kernel_rfl
theorem l0.owed {R : Type} : owed (mkE (R := R) tab es 23 [] []) (loopAt 0 code) = [] := by kernel_rfl
theorem l0.ok (w0 : World) (M : Own) (h : Pinned M []) {R : Type} : SoundO prog w0 M 23 (.block 0 (.loop (loopAt 0 code))) (loopO (R := R) 0 (cutOf l0.A l0.c) (cutsOf l0.xs l0.y) l0) :=
  loop_ok tabOk uniOk mixed l0.eq (h.sub rfl) (h.sub rfl) fun x hx => by rw [l0.owed] at hx; exact absurd hx List.not_mem_nil

noncomputable def F : (List S50) → Option ((List S50))
  | p0 =>
  let x0 := ((List.length p0) : Int)
  cond (((decide (0 ≤ x0)) && (decide (x0 ≤ x0))) && (decide (x0 ≤ 274877906944))) (
   (l0 (0, p0, (List.replicate (Int.toNat x0) z50))).bind fun yl0 =>
   some yl0) none
theorem F.eq : ∀ x, F x = runF (mkE tab es 23 [(0, some (loopO 0 (cutOf l0.A l0.c) (cutsOf l0.xs l0.y) l0))] []) code [.row 0 0] [.row 2] [.tmp 2] (Coz.dec cr) (cp.enc x) := fun x => by kernel_rfl
theorem F.owed : owed (mkE (R := (List S50)) tab es 23 [(0, some (loopO 0 (cutOf l0.A l0.c) (cutsOf l0.xs l0.y) l0))] []) code = [((.block 0 (.loop (loopAt 0 code))), (loopO (R := _) 0 (cutOf l0.A l0.c) (cutsOf l0.xs l0.y) l0))] := by kernel_rfl
theorem con : ∀ x y, F x = some y → Con prog 8 [.row 0 0] [.row 2] (cp.enc x) (cr.enc y).1 (cr.enc y).2 :=
  func_ok (c := code) (n := 23) (pf := [.row 0 0]) (res := [.tmp 2]) tabOk uniOk mixed get (by kernel_rfl) (by kernel_rfl) (by kernel_rfl) (by decide) F.eq fun w0 M h x hx => by rw [F.owed] at hx; rcases List.mem_cons.1 hx with rfl | hx; exact l0.ok w0 M h; exact absurd hx List.not_mem_nil
noncomputable def ent : Ent prog uni := Ent.of 8 [.row 0 0] [.row 2] cp cr F con fun args w => enters_of get (by kernel_rfl) rfl args w
end Go.Proofs.Ytpingihfadihfaa.AX.F8

/- The function 22 of the program in the small machine. No conditions. -/
namespace Go.Proofs.Ytpingihfadihfaa.AX.F22
open Go Go.Proofs.Try
noncomputable def code : Code := bodyOf f22
abbrev Y : Type := (Int × Int × Int)
def cp : Cod uni (Int × Int × Int) := (cod1 (iAgg (codC (iInt .i64) (codC (iInt .i64) (cod1 (iInt .i64))))))
def cr : Coz uni (Int × Int × Int) := (cozR (cod1 (iAgg (codC (iInt .i64) (codC (iInt .i64) (cod1 (iInt .i64)))))) (codD cod0))
noncomputable def es : List (Ent prog uni) := []
theorem get : prog.funcs[22]? = some f22 := by kernel_rfl

noncomputable def F : (Int × Int × Int) → Option ((Int × Int × Int))
  | (p0_0, p0_1, p0_2) =>
  some (p0_0, (p0_1, p0_2))
theorem F.eq : ∀ x, F x = runF (mkE tab es 14 [] []) code [.agg [.sc, .sc, .sc]] [.agg [.sc, .sc, .sc]] [.cell 2 39] (Coz.dec cr) (cp.enc x) := fun x => by kernel_rfl
theorem F.owed : owed (mkE (R := (Int × Int × Int)) tab es 14 [] []) code = [] := by kernel_rfl
theorem con : ∀ x y, F x = some y → Con prog 22 [.agg [.sc, .sc, .sc]] [.agg [.sc, .sc, .sc]] (cp.enc x) (cr.enc y).1 (cr.enc y).2 :=
  func_ok (c := code) (n := 14) (pf := [.agg [.sc, .sc, .sc]]) (res := [.cell 2 39]) tabOk uniOk mixed get (by kernel_rfl) (by kernel_rfl) (by kernel_rfl) (by decide) F.eq fun w0 M h x hx => by rw [F.owed] at hx; exact absurd hx List.not_mem_nil
noncomputable def ent : Ent prog uni := Ent.of 22 [.agg [.sc, .sc, .sc]] [.agg [.sc, .sc, .sc]] cp cr F con fun args w => enters_of get (by kernel_rfl) rfl args w
end Go.Proofs.Ytpingihfadihfaa.AX.F22

/- The function 21 of the program in the small machine. No conditions. -/
namespace Go.Proofs.Ytpingihfadihfaa.AX.F21
open Go Go.Proofs.Try
noncomputable def code : Code := bodyOf f21
abbrev Y : Type := ((List S59) × Int)
def cp : Cod uni ((List S50) × Int × Int × (Int × Int × Int)) := (codC (iRow 2) (codC (iInt .i64) (codC (iInt .i64) (cod1 (iAgg (codC (iInt .i64) (codC (iInt .i64) (cod1 (iInt .i64)))))))))
def cr : Coz uni ((List S59) × Int) := (cozR (codC (iRow 1) (cod1 (iInt .i64))) (codD (codD (codD (codD cod0)))))
noncomputable def es : List (Ent prog uni) := [F23.ent]
theorem get : prog.funcs[21]? = some f21 := by kernel_rfl

def l0.A : Ann := ⟨[(7, .box 5000448 0), (10, .slc 5000640 []), (11, .slc 5000704 []), (13, .sc)], [(5000448, 39, [.sc, .sc, .sc])], [(5000640, true, 1), (5000704, true, 4)], []⟩
def l0.c : Cod uni (Int × Int × Int × Int × (List S59) × (List S38)) := (codC (iInt .i64) (codC (iInt .i64) (codC (iInt .i64) (codC (iInt .i64) (codC (iRow 1) (cod1 (iRow 4)))))))
def l0.xs : List (AExit × Ann) := [(.ret, ⟨[(8, .slc 5000512 []), (9, .sc)], [], [(5000512, true, 1)], []⟩), ((.exit 0), ⟨[], [], [], []⟩)]
def l0.y : Coy uni ((Int × (List S59)) ⊕ Unit) := (coyS (codC (iInt .i64) (cod1 (iRow 1))) (coy1 cod0))
noncomputable def l0.b : Int × Int × Int × Int × (List S59) × (List S38) → Option ((Int × Int × Int × Int × (List S59) × (List S38)) ⊕ ((Int × (List S59)) ⊕ Unit))
  | (v13, b448_0, b448_1, b448_2, r640, r704) =>
  let x1 := (decide (v13 < ((List.length r704) : Int)))
  cond x1 (
   cond ((decide (0 ≤ v13)) && x1) (
    let x2 := (List.getD r704 (Int.toNat v13) z38)
    cond ((x2.f0 == b448_0) && ((x2.f1 == b448_1) && (x2.f2 == b448_2))) (
     let x3 := ((List.length r640) : Int)
     cond (((decide (0 ≤ v13)) && (decide (v13 ≤ x3))) && (decide (x3 ≤ x3))) (
      let x0 := (List.take (Int.toNat (x3 - v13)) (List.drop (Int.toNat v13) r640))
      cond (decide (((List.length ([] : List S59)) + (List.length x0)) ≤ 274877906944)) (
       some (.inr (.inl (0, (([] : List S59) ++ x0))))) none) none) (
     some (.inl ((Go.IntKind.wrap (Go.IntKind.i64 ) (v13 + 1)), b448_0, b448_1, b448_2, r640, r704)))) none) (
   some (.inr (.inr ())))
noncomputable def l0 (x : Int × Int × Int × Int × (List S59) × (List S38)) : Option ((Int × (List S59)) ⊕ Unit) := lim l0.b x
theorem l0.eq : ∀ x, l0.b x = roundX (mkE tab es 44 [] []) (loopAt 0 code) (cutOf l0.A l0.c) (cutsOf l0.xs l0.y) x := fun x => by kernel_rfl
theorem l0.owed {R : Type} : owed (mkE (R := R) tab es 44 [] []) (loopAt 0 code) = [] := by kernel_rfl
theorem l0.ok (w0 : World) (M : Own) (h : Pinned M []) {R : Type} : SoundO prog w0 M 44 (.block 0 (.loop (loopAt 0 code))) (loopO (R := R) 0 (cutOf l0.A l0.c) (cutsOf l0.xs l0.y) l0) :=
  loop_ok tabOk uniOk mixed l0.eq (h.sub rfl) (h.sub rfl) fun x hx => by rw [l0.owed] at hx; exact absurd hx List.not_mem_nil

noncomputable def F : ((List S50) × Int × Int × (Int × Int × Int)) → Option (((List S59) × Int))
  | (p0, p1, p2, (p3_0, p3_1, p3_2)) =>
  (F23.F (p0, (p1, p2))).bind fun y23 =>
  cond (y23.2.2 != 0) (
   some (([] : List S59), y23.2.2)) (
   (l0 (0, p3_0, p3_1, p3_2, y23.1, y23.2.1)).bind fun q => match q with
   | (.inl yl0) =>
    some (yl0.2, yl0.1)
   | (.inr yl0) =>
    some (([] : List S59), 5))
theorem F.eq : ∀ x, F x = runF (mkE tab es 44 [(0, some (loopO 0 (cutOf l0.A l0.c) (cutsOf l0.xs l0.y) l0))] []) code [.row 2 0, .sc, .sc, .agg [.sc, .sc, .sc]] [.row 1, .sc] [.tmp 8, .tmp 9] (Coz.dec cr) (cp.enc x) := fun x => by kernel_rfl
theorem F.owed : owed (mkE (R := ((List S59) × Int)) tab es 44 [(0, some (loopO 0 (cutOf l0.A l0.c) (cutsOf l0.xs l0.y) l0))] []) code = [((.block 0 (.loop (loopAt 0 code))), (loopO (R := _) 0 (cutOf l0.A l0.c) (cutsOf l0.xs l0.y) l0))] := by kernel_rfl
theorem con : ∀ x y, F x = some y → Con prog 21 [.row 2 0, .sc, .sc, .agg [.sc, .sc, .sc]] [.row 1, .sc] (cp.enc x) (cr.enc y).1 (cr.enc y).2 :=
  func_ok (c := code) (n := 44) (pf := [.row 2 0, .sc, .sc, .agg [.sc, .sc, .sc]]) (res := [.tmp 8, .tmp 9]) tabOk uniOk mixed get (by kernel_rfl) (by kernel_rfl) (by kernel_rfl) (by decide) F.eq fun w0 M h x hx => by rw [F.owed] at hx; rcases List.mem_cons.1 hx with rfl | hx; exact l0.ok w0 M h; exact absurd hx List.not_mem_nil
noncomputable def ent : Ent prog uni := Ent.of 21 [.row 2 0, .sc, .sc, .agg [.sc, .sc, .sc]] [.row 1, .sc] cp cr F con fun args w => enters_of get (by kernel_rfl) rfl args w
end Go.Proofs.Ytpingihfadihfaa.AX.F21

/- The function 26 of the program in the small machine. No conditions. -/
namespace Go.Proofs.Ytpingihfadihfaa.AX.F26
open Go Go.Proofs.Try
noncomputable def code : Code := bodyOf f26
abbrev Y : Type := Bool
def cp : Cod uni ((Int × Int × Int × Int) × (Int × Int × Int × Int)) := (codC (iAgg (codC (iInt .i64) (codC (iInt .i64) (codC (iInt .i64) (cod1 (iInt .i64)))))) (cod1 (iAgg (codC (iInt .i64) (codC (iInt .i64) (codC (iInt .i64) (cod1 (iInt .i64))))))))
def cr : Coz uni Bool := (cozR (cod1 iBool) (codD (codD cod0)))
noncomputable def es : List (Ent prog uni) := []
theorem get : prog.funcs[26]? = some f26 := by kernel_rfl

noncomputable def F : ((Int × Int × Int × Int) × (Int × Int × Int × Int)) → Option (Bool)
  | ((p0_0, p0_1, p0_2, p0_3), (p1_0, p1_1, p1_2, p1_3)) =>
  cond (p0_0 != p1_0) (
   some false) (
   cond (p0_1 != p1_1) (
    some false) (
    cond (p0_2 != p1_2) (
     some false) (
     cond (p0_3 != p1_3) (
      some false) (
      some true))))
theorem F.eq : ∀ x, F x = runF (mkE tab es 25 [] []) code [.agg [.sc, .sc, .sc, .sc], .agg [.sc, .sc, .sc, .sc]] [.sc] [.tmp 4] (Coz.dec cr) (cp.enc x) := fun x => by kernel_rfl
theorem F.owed : owed (mkE (R := Bool) tab es 25 [] []) code = [] := by kernel_rfl
theorem con : ∀ x y, F x = some y → Con prog 26 [.agg [.sc, .sc, .sc, .sc], .agg [.sc, .sc, .sc, .sc]] [.sc] (cp.enc x) (cr.enc y).1 (cr.enc y).2 :=
  func_ok (c := code) (n := 25) (pf := [.agg [.sc, .sc, .sc, .sc], .agg [.sc, .sc, .sc, .sc]]) (res := [.tmp 4]) tabOk uniOk mixed get (by kernel_rfl) (by kernel_rfl) (by kernel_rfl) (by decide) F.eq fun w0 M h x hx => by rw [F.owed] at hx; exact absurd hx List.not_mem_nil
noncomputable def ent : Ent prog uni := Ent.of 26 [.agg [.sc, .sc, .sc, .sc], .agg [.sc, .sc, .sc, .sc]] [.sc] cp cr F con fun args w => enters_of get (by kernel_rfl) rfl args w
end Go.Proofs.Ytpingihfadihfaa.AX.F26

/- The function 10 of the program in the small machine. No conditions. -/
namespace Go.Proofs.Ytpingihfadihfaa.AX.F10
open Go Go.Proofs.Try
noncomputable def code : Code := bodyOf f10
abbrev Y : Type := Bool
def cp : Cod uni ((List S59) × (List S59)) := (codC (iRow 1) (cod1 (iRow 1)))
def cr : Coz uni Bool := (cozR (cod1 iBool) (codD (codD cod0)))
noncomputable def es : List (Ent prog uni) := [F26.ent]
theorem get : prog.funcs[10]? = some f10 := by kernel_rfl

def l0.A : Ann := ⟨[(0, .slc 5000000 []), (1, .slc 5000064 []), (5, .sc)], [], [(5000000, false, 1), (5000064, false, 1)], []⟩
def l0.c : Cod uni (Int × (List S59) × (List S59)) := (codC (iInt .i64) (codC (iRow 1) (cod1 (iRow 1))))
def l0.xs : List (AExit × Ann) := [(.ret, ⟨[(4, .sc)], [], [], []⟩), ((.exit 0), ⟨[], [], [], []⟩)]
def l0.y : Coy uni (Bool ⊕ Unit) := (coyS (cod1 iBool) (coy1 cod0))
noncomputable def l0.b : Int × (List S59) × (List S59) → Option ((Int × (List S59) × (List S59)) ⊕ (Bool ⊕ Unit))
  | (v5, r0, r64) =>
  let x0 := (decide (v5 < ((List.length r0) : Int)))
  cond x0 (
   cond ((decide (0 ≤ v5)) && x0) (
    cond ((decide (0 ≤ v5)) && (decide (v5 < ((List.length r64) : Int)))) (
     let x1 := (List.getD r64 (Int.toNat v5) z59)
     let x2 := (List.getD r0 (Int.toNat v5) z59)
     (F26.F ((x2.f0, (x2.f1, (x2.f2, x2.f3))), (x1.f0, (x1.f1, (x1.f2, x1.f3))))).bind fun y26 =>
     cond (!y26) (
      some (.inr (.inl false))) (
      some (.inl ((Go.IntKind.wrap (Go.IntKind.i64 ) (v5 + 1)), r0, r64)))) none) none) (
   some (.inr (.inr ())))
noncomputable def l0 (x : Int × (List S59) × (List S59)) : Option (Bool ⊕ Unit) := lim l0.b x
theorem l0.eq : ∀ x, l0.b x = roundX (mkE tab es 27 [] []) (loopAt 0 code) (cutOf l0.A l0.c) (cutsOf l0.xs l0.y) x := fun x => by kernel_rfl
theorem l0.owed {R : Type} : owed (mkE (R := R) tab es 27 [] []) (loopAt 0 code) = [] := by kernel_rfl
theorem l0.ok (w0 : World) (M : Own) (h : Pinned M []) {R : Type} : SoundO prog w0 M 27 (.block 0 (.loop (loopAt 0 code))) (loopO (R := R) 0 (cutOf l0.A l0.c) (cutsOf l0.xs l0.y) l0) :=
  loop_ok tabOk uniOk mixed l0.eq (h.sub rfl) (h.sub rfl) fun x hx => by rw [l0.owed] at hx; exact absurd hx List.not_mem_nil

noncomputable def F : ((List S59) × (List S59)) → Option (Bool)
  | (p0, p1) =>
  cond (((List.length p0) : Int) != ((List.length p1) : Int)) (
   some false) (
   (l0 (0, p0, p1)).bind fun q => match q with
   | (.inl yl0) =>
    some yl0
   | (.inr yl0) =>
    some true)
theorem F.eq : ∀ x, F x = runF (mkE tab es 27 [(0, some (loopO 0 (cutOf l0.A l0.c) (cutsOf l0.xs l0.y) l0))] []) code [.row 1 0, .row 1 0] [.sc] [.tmp 4] (Coz.dec cr) (cp.enc x) := fun x => by kernel_rfl
theorem F.owed : owed (mkE (R := Bool) tab es 27 [(0, some (loopO 0 (cutOf l0.A l0.c) (cutsOf l0.xs l0.y) l0))] []) code = [((.block 0 (.loop (loopAt 0 code))), (loopO (R := _) 0 (cutOf l0.A l0.c) (cutsOf l0.xs l0.y) l0))] := by kernel_rfl
theorem con : ∀ x y, F x = some y → Con prog 10 [.row 1 0, .row 1 0] [.sc] (cp.enc x) (cr.enc y).1 (cr.enc y).2 :=
  func_ok (c := code) (n := 27) (pf := [.row 1 0, .row 1 0]) (res := [.tmp 4]) tabOk uniOk mixed get (by kernel_rfl) (by kernel_rfl) (by kernel_rfl) (by decide) F.eq fun w0 M h x hx => by rw [F.owed] at hx; rcases List.mem_cons.1 hx with rfl | hx; exact l0.ok w0 M h; exact absurd hx List.not_mem_nil
noncomputable def ent : Ent prog uni := Ent.of 10 [.row 1 0, .row 1 0] [.sc] cp cr F con fun args w => enters_of get (by kernel_rfl) rfl args w
end Go.Proofs.Ytpingihfadihfaa.AX.F10

/- The function 27 of the program in the small machine. No conditions. -/
namespace Go.Proofs.Ytpingihfadihfaa.AX.F27
open Go Go.Proofs.Try
noncomputable def code : Code := bodyOf f27
abbrev Y : Type := Bool
def cp : Cod uni ((Bool × Int × Int × Int) × (Bool × Int × Int × Int)) := (codC (iAgg (codC iBool (codC (iInt .i64) (codC (iInt .i64) (cod1 (iInt .i64)))))) (cod1 (iAgg (codC iBool (codC (iInt .i64) (codC (iInt .i64) (cod1 (iInt .i64))))))))
def cr : Coz uni Bool := (cozR (cod1 iBool) (codD (codD cod0)))
noncomputable def es : List (Ent prog uni) := []
theorem get : prog.funcs[27]? = some f27 := by kernel_rfl

noncomputable def F : ((Bool × Int × Int × Int) × (Bool × Int × Int × Int)) → Option (Bool)
  | ((p0_0, p0_1, p0_2, p0_3), (p1_0, p1_1, p1_2, p1_3)) =>
  cond (!(p0_0 == p1_0)) (
   some false) (
   cond (p0_1 != p1_1) (
    some false) (
    cond (p0_2 != p1_2) (
     some false) (
     cond (p0_3 != p1_3) (
      some false) (
      some true))))
theorem F.eq : ∀ x, F x = runF (mkE tab es 25 [] []) code [.agg [.sc, .sc, .sc, .sc], .agg [.sc, .sc, .sc, .sc]] [.sc] [.tmp 4] (Coz.dec cr) (cp.enc x) := fun x => by kernel_rfl
theorem F.owed : owed (mkE (R := Bool) tab es 25 [] []) code = [] := by kernel_rfl
theorem con : ∀ x y, F x = some y → Con prog 27 [.agg [.sc, .sc, .sc, .sc], .agg [.sc, .sc, .sc, .sc]] [.sc] (cp.enc x) (cr.enc y).1 (cr.enc y).2 :=
  func_ok (c := code) (n := 25) (pf := [.agg [.sc, .sc, .sc, .sc], .agg [.sc, .sc, .sc, .sc]]) (res := [.tmp 4]) tabOk uniOk mixed get (by kernel_rfl) (by kernel_rfl) (by kernel_rfl) (by decide) F.eq fun w0 M h x hx => by rw [F.owed] at hx; exact absurd hx List.not_mem_nil
noncomputable def ent : Ent prog uni := Ent.of 27 [.agg [.sc, .sc, .sc, .sc], .agg [.sc, .sc, .sc, .sc]] [.sc] cp cr F con fun args w => enters_of get (by kernel_rfl) rfl args w
end Go.Proofs.Ytpingihfadihfaa.AX.F27

/- The function 11 of the program in the small machine. No conditions. -/
namespace Go.Proofs.Ytpingihfadihfaa.AX.F11
open Go Go.Proofs.Try
noncomputable def code : Code := bodyOf f11
abbrev Y : Type := Bool
def cp : Cod uni ((List S50) × (List S50)) := (codC (iRow 2) (cod1 (iRow 2)))
def cr : Coz uni Bool := (cozR (cod1 iBool) (codD (codD cod0)))
noncomputable def es : List (Ent prog uni) := [F27.ent]
theorem get : prog.funcs[11]? = some f11 := by kernel_rfl

def l0.A : Ann := ⟨[(0, .slc 5000000 []), (1, .slc 5000064 []), (5, .sc)], [], [(5000000, false, 2), (5000064, false, 2)], []⟩
def l0.c : Cod uni (Int × (List S50) × (List S50)) := (codC (iInt .i64) (codC (iRow 2) (cod1 (iRow 2))))
def l0.xs : List (AExit × Ann) := [(.ret, ⟨[(4, .sc)], [], [], []⟩), ((.exit 0), ⟨[], [], [], []⟩)]
def l0.y : Coy uni (Bool ⊕ Unit) := (coyS (cod1 iBool) (coy1 cod0))
noncomputable def l0.b : Int × (List S50) × (List S50) → Option ((Int × (List S50) × (List S50)) ⊕ (Bool ⊕ Unit))
  | (v5, r0, r64) =>
  let x0 := (decide (v5 < ((List.length r0) : Int)))
  cond x0 (
   cond ((decide (0 ≤ v5)) && x0) (
    cond ((decide (0 ≤ v5)) && (decide (v5 < ((List.length r64) : Int)))) (
     let x1 := (List.getD r64 (Int.toNat v5) z50)
     let x2 := (List.getD r0 (Int.toNat v5) z50)
     (F27.F ((x2.f0, (x2.f1, (x2.f2, x2.f3))), (x1.f0, (x1.f1, (x1.f2, x1.f3))))).bind fun y27 =>
     cond (!y27) (
      some (.inr (.inl false))) (
      some (.inl ((Go.IntKind.wrap (Go.IntKind.i64 ) (v5 + 1)), r0, r64)))) none) none) (
   some (.inr (.inr ())))
noncomputable def l0 (x : Int × (List S50) × (List S50)) : Option (Bool ⊕ Unit) := lim l0.b x
theorem l0.eq : ∀ x, l0.b x = roundX (mkE tab es 27 [] []) (loopAt 0 code) (cutOf l0.A l0.c) (cutsOf l0.xs l0.y) x := fun x => by kernel_rfl
theorem l0.owed {R : Type} : owed (mkE (R := R) tab es 27 [] []) (loopAt 0 code) = [] := by kernel_rfl
theorem l0.ok (w0 : World) (M : Own) (h : Pinned M []) {R : Type} : SoundO prog w0 M 27 (.block 0 (.loop (loopAt 0 code))) (loopO (R := R) 0 (cutOf l0.A l0.c) (cutsOf l0.xs l0.y) l0) :=
  loop_ok tabOk uniOk mixed l0.eq (h.sub rfl) (h.sub rfl) fun x hx => by rw [l0.owed] at hx; exact absurd hx List.not_mem_nil

noncomputable def F : ((List S50) × (List S50)) → Option (Bool)
  | (p0, p1) =>
  cond (((List.length p0) : Int) != ((List.length p1) : Int)) (
   some false) (
   (l0 (0, p0, p1)).bind fun q => match q with
   | (.inl yl0) =>
    some yl0
   | (.inr yl0) =>
    some true)
theorem F.eq : ∀ x, F x = runF (mkE tab es 27 [(0, some (loopO 0 (cutOf l0.A l0.c) (cutsOf l0.xs l0.y) l0))] []) code [.row 2 0, .row 2 0] [.sc] [.tmp 4] (Coz.dec cr) (cp.enc x) := fun x => by kernel_rfl
theorem F.owed : owed (mkE (R := Bool) tab es 27 [(0, some (loopO 0 (cutOf l0.A l0.c) (cutsOf l0.xs l0.y) l0))] []) code = [((.block 0 (.loop (loopAt 0 code))), (loopO (R := _) 0 (cutOf l0.A l0.c) (cutsOf l0.xs l0.y) l0))] := by kernel_rfl
theorem con : ∀ x y, F x = some y → Con prog 11 [.row 2 0, .row 2 0] [.sc] (cp.enc x) (cr.enc y).1 (cr.enc y).2 :=
  func_ok (c := code) (n := 27) (pf := [.row 2 0, .row 2 0]) (res := [.tmp 4]) tabOk uniOk mixed get (by kernel_rfl) (by kernel_rfl) (by kernel_rfl) (by decide) F.eq fun w0 M h x hx => by rw [F.owed] at hx; rcases List.mem_cons.1 hx with rfl | hx; exact l0.ok w0 M h; exact absurd hx List.not_mem_nil
noncomputable def ent : Ent prog uni := Ent.of 11 [.row 2 0, .row 2 0] [.sc] cp cr F con fun args w => enters_of get (by kernel_rfl) rfl args w
end Go.Proofs.Ytpingihfadihfaa.AX.F11

/- The function 12 of the program in the small machine. No conditions. -/
namespace Go.Proofs.Ytpingihfadihfaa.AX.F12
open Go Go.Proofs.Try
noncomputable def code : Code := bodyOf f12
abbrev Y : Type := (Int × ((List S50) × Unit))
def cp : Cod uni ((List S50) × Int) := (codC (iRow 2) (cod1 (iInt .i64)))
def cr : Coz uni (Int × ((List S50) × Unit)) := (cozRM (cod1 (iInt .i64)) (codC (iRow 2) (codD cod0)))
noncomputable def es : List (Ent prog uni) := []
theorem get : prog.funcs[12]? = some f12 := by kernel_rfl

def l0.A : Ann := ⟨[(0, .slc 4194304 []), (1, .sc), (5, .sc)], [], [(4194304, true, 2)], [4194304]⟩
def l0.c : Cod uni (Int × Int × (List S50)) := (codC (iInt .i64) (codC (iInt .i64) (cod1 (iRow 2))))
def l0.xs : List (AExit × Ann) := [((.exit 0), ⟨[(0, .slc 4194304 []), (1, .sc)], [], [(4194304, true, 2)], [4194304]⟩)]
def l0.y : Coy uni ((Int × (List S50))) := (coy1 (codC (iInt .i64) (cod1 (iRow 2))))
noncomputable def l0.b : Int × Int × (List S50) → Option ((Int × Int × (List S50)) ⊕ ((Int × (List S50))))
  | (v1, v5, r94304) =>
  let x8 := (decide (v5 < ((List.length r94304) : Int)))
  cond x8 (
   cond ((decide (0 ≤ v5)) && x8) (
    let x10 := (List.getD r94304 (Int.toNat v5) z50)
    let x5 := (List.set r94304 (Int.toNat v5) (⟨((Int.tmod v1 3) == 0), x10.f1, x10.f2, x10.f3⟩ : S50))
    cond ((decide (0 ≤ v5)) && (decide (v5 < ((List.length x5) : Int)))) (
     let x4 := (List.getD x5 (Int.toNat v5) z50)
     let x9 := (Go.IntKind.wrap (Go.IntKind.i64 ) (v1 + 1))
     let x3 := (List.set x5 (Int.toNat v5) (⟨x4.f0, x9, x4.f2, x4.f3⟩ : S50))
     cond ((decide (0 ≤ v5)) && (decide (v5 < ((List.length x3) : Int)))) (
      let x2 := (List.getD x3 (Int.toNat v5) z50)
      let x7 := (Go.IntKind.wrap (Go.IntKind.i64 ) (x9 + 1))
      let x1 := (List.set x3 (Int.toNat v5) (⟨x2.f0, x2.f1, x7, x2.f3⟩ : S50))
      cond ((decide (0 ≤ v5)) && (decide (v5 < ((List.length x1) : Int)))) (
       let x0 := (List.getD x1 (Int.toNat v5) z50)
       let x6 := (Go.IntKind.wrap (Go.IntKind.i64 ) (x7 + 1))
       some (.inl ((Go.IntKind.wrap (Go.IntKind.i64 ) (x6 + 1)), (Go.IntKind.wrap (Go.IntKind.i64 ) (v5 + 1)), (List.set x1 (Int.toNat v5) (⟨x0.f0, x0.f1, x0.f2, x6⟩ : S50))))) none) none) none) none) (
   some (.inr (v1, r94304)))
noncomputable def l0 (x : Int × Int × (List S50)) : Option ((Int × (List S50))) := lim l0.b x
theorem l0.eq : ∀ x, l0.b x = roundX (mkE tab es 43 [] []) (loopAt 0 code) (cutOf l0.A l0.c) (cutsOf l0.xs l0.y) x := fun x => by kernel_rfl
theorem l0.owed {R : Type} : owed (mkE (R := R) tab es 43 [] []) (loopAt 0 code) = [] := by kernel_rfl
theorem l0.ok (w0 : World) (M : Own) (h : Pinned M [4194304]) {R : Type} : SoundO prog w0 M 43 (.block 0 (.loop (loopAt 0 code))) (loopO (R := R) 0 (cutOf l0.A l0.c) (cutsOf l0.xs l0.y) l0) :=
  loop_ok tabOk uniOk mixed l0.eq (h.sub rfl) (h.sub rfl) fun x hx => by rw [l0.owed] at hx; exact absurd hx List.not_mem_nil

noncomputable def F : ((List S50) × Int) → Option ((Int × ((List S50) × Unit)))
  | (p0, p1) =>
  (l0 (p1, 0, p0)).bind fun yl0 =>
  some (yl0.1, (yl0.2, ()))
theorem F.eq : ∀ x, F x = runF (mkE tab es 43 [(0, some (loopO 0 (cutOf l0.A l0.c) (cutsOf l0.xs l0.y) l0))] []) code [.row 2 1, .sc] [.sc] [.tmp 4] (Coz.dec cr) (cp.enc x) := fun x => by kernel_rfl
theorem F.owed : owed (mkE (R := (Int × ((List S50) × Unit))) tab es 43 [(0, some (loopO 0 (cutOf l0.A l0.c) (cutsOf l0.xs l0.y) l0))] []) code = [((.block 0 (.loop (loopAt 0 code))), (loopO (R := _) 0 (cutOf l0.A l0.c) (cutsOf l0.xs l0.y) l0))] := by kernel_rfl
theorem con : ∀ x y, F x = some y → Con prog 12 [.row 2 1, .sc] [.sc] (cp.enc x) (cr.enc y).1 (cr.enc y).2 :=
  func_ok (c := code) (n := 43) (pf := [.row 2 1, .sc]) (res := [.tmp 4]) tabOk uniOk mixed get (by kernel_rfl) (by kernel_rfl) (by kernel_rfl) (by decide) F.eq fun w0 M h x hx => by rw [F.owed] at hx; rcases List.mem_cons.1 hx with rfl | hx; exact l0.ok w0 M h; exact absurd hx List.not_mem_nil
noncomputable def ent : Ent prog uni := Ent.of 12 [.row 2 1, .sc] [.sc] cp cr F con fun args w => enters_of get (by kernel_rfl) rfl args w
end Go.Proofs.Ytpingihfadihfaa.AX.F12

/- The function 13 of the program in the small machine. No conditions. -/
namespace Go.Proofs.Ytpingihfadihfaa.AX.F13
open Go Go.Proofs.Try
noncomputable def code : Code := bodyOf f13
abbrev Y : Type := (Int × ((List S59) × Unit))
def cp : Cod uni ((List S59) × Int) := (codC (iRow 1) (cod1 (iInt .i64)))
def cr : Coz uni (Int × ((List S59) × Unit)) := (cozRM (cod1 (iInt .i64)) (codC (iRow 1) (codD cod0)))
noncomputable def es : List (Ent prog uni) := []
theorem get : prog.funcs[13]? = some f13 := by kernel_rfl

def l0.A : Ann := ⟨[(0, .slc 4194304 []), (1, .sc), (5, .sc)], [], [(4194304, true, 1)], [4194304]⟩
def l0.c : Cod uni (Int × Int × (List S59)) := (codC (iInt .i64) (codC (iInt .i64) (cod1 (iRow 1))))
def l0.xs : List (AExit × Ann) := [((.exit 0), ⟨[(0, .slc 4194304 []), (1, .sc)], [], [(4194304, true, 1)], [4194304]⟩)]
def l0.y : Coy uni ((Int × (List S59))) := (coy1 (codC (iInt .i64) (cod1 (iRow 1))))
noncomputable def l0.b : Int × Int × (List S59) → Option ((Int × Int × (List S59)) ⊕ ((Int × (List S59))))
  | (v1, v5, r94304) =>
  let x8 := (decide (v5 < ((List.length r94304) : Int)))
  cond x8 (
   cond ((decide (0 ≤ v5)) && x8) (
    let x10 := (List.getD r94304 (Int.toNat v5) z59)
    let x5 := (List.set r94304 (Int.toNat v5) (⟨v1, x10.f1, x10.f2, x10.f3⟩ : S59))
    cond ((decide (0 ≤ v5)) && (decide (v5 < ((List.length x5) : Int)))) (
     let x4 := (List.getD x5 (Int.toNat v5) z59)
     let x9 := (Go.IntKind.wrap (Go.IntKind.i64 ) (v1 + 1))
     let x3 := (List.set x5 (Int.toNat v5) (⟨x4.f0, x9, x4.f2, x4.f3⟩ : S59))
     cond ((decide (0 ≤ v5)) && (decide (v5 < ((List.length x3) : Int)))) (
      let x2 := (List.getD x3 (Int.toNat v5) z59)
      let x7 := (Go.IntKind.wrap (Go.IntKind.i64 ) (x9 + 1))
      let x1 := (List.set x3 (Int.toNat v5) (⟨x2.f0, x2.f1, x7, x2.f3⟩ : S59))
      cond ((decide (0 ≤ v5)) && (decide (v5 < ((List.length x1) : Int)))) (
       let x0 := (List.getD x1 (Int.toNat v5) z59)
       let x6 := (Go.IntKind.wrap (Go.IntKind.i64 ) (x7 + 1))
       some (.inl ((Go.IntKind.wrap (Go.IntKind.i64 ) (x6 + 1)), (Go.IntKind.wrap (Go.IntKind.i64 ) (v5 + 1)), (List.set x1 (Int.toNat v5) (⟨x0.f0, x0.f1, x0.f2, x6⟩ : S59))))) none) none) none) none) (
   some (.inr (v1, r94304)))
noncomputable def l0 (x : Int × Int × (List S59)) : Option ((Int × (List S59))) := lim l0.b x
theorem l0.eq : ∀ x, l0.b x = roundX (mkE tab es 41 [] []) (loopAt 0 code) (cutOf l0.A l0.c) (cutsOf l0.xs l0.y) x := fun x => by kernel_rfl
theorem l0.owed {R : Type} : owed (mkE (R := R) tab es 41 [] []) (loopAt 0 code) = [] := by kernel_rfl
theorem l0.ok (w0 : World) (M : Own) (h : Pinned M [4194304]) {R : Type} : SoundO prog w0 M 41 (.block 0 (.loop (loopAt 0 code))) (loopO (R := R) 0 (cutOf l0.A l0.c) (cutsOf l0.xs l0.y) l0) :=
  loop_ok tabOk uniOk mixed l0.eq (h.sub rfl) (h.sub rfl) fun x hx => by rw [l0.owed] at hx; exact absurd hx List.not_mem_nil

noncomputable def F : ((List S59) × Int) → Option ((Int × ((List S59) × Unit)))
  | (p0, p1) =>
  (l0 (p1, 0, p0)).bind fun yl0 =>
  some (yl0.1, (yl0.2, ()))
theorem F.eq : ∀ x, F x = runF (mkE tab es 41 [(0, some (loopO 0 (cutOf l0.A l0.c) (cutsOf l0.xs l0.y) l0))] []) code [.row 1 1, .sc] [.sc] [.tmp 4] (Coz.dec cr) (cp.enc x) := fun x => by kernel_rfl
theorem F.owed : owed (mkE (R := (Int × ((List S59) × Unit))) tab es 41 [(0, some (loopO 0 (cutOf l0.A l0.c) (cutsOf l0.xs l0.y) l0))] []) code = [((.block 0 (.loop (loopAt 0 code))), (loopO (R := _) 0 (cutOf l0.A l0.c) (cutsOf l0.xs l0.y) l0))] := by kernel_rfl
theorem con : ∀ x y, F x = some y → Con prog 13 [.row 1 1, .sc] [.sc] (cp.enc x) (cr.enc y).1 (cr.enc y).2 :=
  func_ok (c := code) (n := 41) (pf := [.row 1 1, .sc]) (res := [.tmp 4]) tabOk uniOk mixed get (by kernel_rfl) (by kernel_rfl) (by kernel_rfl) (by decide) F.eq fun w0 M h x hx => by rw [F.owed] at hx; rcases List.mem_cons.1 hx with rfl | hx; exact l0.ok w0 M h; exact absurd hx List.not_mem_nil
noncomputable def ent : Ent prog uni := Ent.of 13 [.row 1 1, .sc] [.sc] cp cr F con fun args w => enters_of get (by kernel_rfl) rfl args w
end Go.Proofs.Ytpingihfadihfaa.AX.F13

/- The function 14 of the program in the small machine. No conditions. -/
namespace Go.Proofs.Ytpingihfadihfaa.AX.F14
open Go Go.Proofs.Try
noncomputable def code : Code := bodyOf f14
abbrev Y : Type := Int
def cp : Cod uni ((List S59) × Int) := (codC (iRow 1) (cod1 (iInt .i64)))
def cr : Coz uni Int := (cozR (cod1 (iInt .i64)) (codD (codD cod0)))
noncomputable def es : List (Ent prog uni) := []
theorem get : prog.funcs[14]? = some f14 := by kernel_rfl

def l0.A : Ann := ⟨[(0, .slc 5000000 []), (1, .sc), (5, .sc)], [], [(5000000, false, 1)], []⟩
def l0.c : Cod uni (Int × Int × (List S59)) := (codC (iInt .i64) (codC (iInt .i64) (cod1 (iRow 1))))
def l0.xs : List (AExit × Ann) := [(.ret, ⟨[(4, .sc)], [], [], []⟩), ((.exit 0), ⟨[(1, .sc)], [], [], []⟩)]
def l0.y : Coy uni (Int ⊕ Int) := (coyS (cod1 (iInt .i64)) (coy1 (cod1 (iInt .i64))))
noncomputable def l0.b : Int × Int × (List S59) → Option ((Int × Int × (List S59)) ⊕ (Int ⊕ Int))
  | (v1, v5, r0) =>
  let x4 := (decide (v5 < ((List.length r0) : Int)))
  cond x4 (
   let x2 := ((decide (0 ≤ v5)) && x4)
   cond x2 (
    let x5 := (List.getD r0 (Int.toNat v5) z59)
    cond (x5.f0 != v1) (
     some (.inr (.inl (-1)))) (
     cond x2 (
      let x3 := (Go.IntKind.wrap (Go.IntKind.i64 ) (v1 + 1))
      cond (x5.f1 != x3) (
       some (.inr (.inl (-1)))) (
       cond x2 (
        let x1 := (Go.IntKind.wrap (Go.IntKind.i64 ) (x3 + 1))
        cond (x5.f2 != x1) (
         some (.inr (.inl (-1)))) (
         cond x2 (
          let x0 := (Go.IntKind.wrap (Go.IntKind.i64 ) (x1 + 1))
          cond (x5.f3 != x0) (
           some (.inr (.inl (-1)))) (
           some (.inl ((Go.IntKind.wrap (Go.IntKind.i64 ) (x0 + 1)), (Go.IntKind.wrap (Go.IntKind.i64 ) (v5 + 1)), r0)))) none)) none)) none)) none) (
   some (.inr (.inr v1)))
noncomputable def l0 (x : Int × Int × (List S59)) : Option (Int ⊕ Int) := lim l0.b x
theorem l0.eq : ∀ x, l0.b x = roundX (mkE tab es 49 [] []) (loopAt 0 code) (cutOf l0.A l0.c) (cutsOf l0.xs l0.y) x := fun x => by kernel_rfl
theorem l0.owed {R : Type} : owed (mkE (R := R) tab es 49 [] []) (loopAt 0 code) = [] := by kernel_rfl
theorem l0.ok (w0 : World) (M : Own) (h : Pinned M []) {R : Type} : SoundO prog w0 M 49 (.block 0 (.loop (loopAt 0 code))) (loopO (R := R) 0 (cutOf l0.A l0.c) (cutsOf l0.xs l0.y) l0) :=
  loop_ok tabOk uniOk mixed l0.eq (h.sub rfl) (h.sub rfl) fun x hx => by rw [l0.owed] at hx; exact absurd hx List.not_mem_nil

noncomputable def F : ((List S59) × Int) → Option (Int)
  | (p0, p1) =>
  (l0 (p1, 0, p0)).bind fun q => match q with
  | (.inl yl0) =>
   some yl0
  | (.inr yl0) =>
   some yl0
theorem F.eq : ∀ x, F x = runF (mkE tab es 49 [(0, some (loopO 0 (cutOf l0.A l0.c) (cutsOf l0.xs l0.y) l0))] []) code [.row 1 0, .sc] [.sc] [.tmp 4] (Coz.dec cr) (cp.enc x) := fun x => by kernel_rfl
theorem F.owed : owed (mkE (R := Int) tab es 49 [(0, some (loopO 0 (cutOf l0.A l0.c) (cutsOf l0.xs l0.y) l0))] []) code = [((.block 0 (.loop (loopAt 0 code))), (loopO (R := _) 0 (cutOf l0.A l0.c) (cutsOf l0.xs l0.y) l0))] := by kernel_rfl
theorem con : ∀ x y, F x = some y → Con prog 14 [.row 1 0, .sc] [.sc] (cp.enc x) (cr.enc y).1 (cr.enc y).2 :=
  func_ok (c := code) (n := 49) (pf := [.row 1 0, .sc]) (res := [.tmp 4]) tabOk uniOk mixed get (by kernel_rfl) (by kernel_rfl) (by kernel_rfl) (by decide) F.eq fun w0 M h x hx => by rw [F.owed] at hx; rcases List.mem_cons.1 hx with rfl | hx; exact l0.ok w0 M h; exact absurd hx List.not_mem_nil
noncomputable def ent : Ent prog uni := Ent.of 14 [.row 1 0, .sc] [.sc] cp cr F con fun args w => enters_of get (by kernel_rfl) rfl args w
end Go.Proofs.Ytpingihfadihfaa.AX.F14

/- The function 5 of the program in the small machine. No conditions. -/
namespace Go.Proofs.Ytpingihfadihfaa.AX.F5
open Go Go.Proofs.Try
noncomputable def code : Code := bodyOf f5
abbrev Y : Type := Bool
def cp : Cod uni ((List S50) × Int × Int × (Int × Int × Int)) := (codC (iRow 0) (codC (iInt .i64) (codC (iInt .i64) (cod1 (iAgg (codC (iInt .i64) (codC (iInt .i64) (cod1 (iInt .i64)))))))))
def cr : Coz uni Bool := (cozR (cod1 iBool) (codD (codD (codD (codD cod0)))))
noncomputable def es : List (Ent prog uni) := [F6.ent, F8.ent, F22.ent, F21.ent, F19.ent, F10.ent, F11.ent, F12.ent, F13.ent, F14.ent]
theorem get : prog.funcs[5]? = some f5 := by kernel_rfl

noncomputable def F : ((List S50) × Int × Int × (Int × Int × Int)) → Option (Bool)
  | (p0, p1, p2, (p3_0, p3_1, p3_2)) =>
  (F6.F (p0, 1048576)).bind fun y6 =>
  cond (decide (y6 < 0)) (
   some true) (
   (F8.F p0).bind fun y8 =>
   let x0 := (F22.F (p3_0, (p3_1, p3_2)))
   x0.bind fun y22 =>
   (F21.F (y8, (p1, (p2, (y22.1, (y22.2.1, y22.2.2)))))).bind fun y21 =>
   (F8.F p0).bind fun y8x2 =>
   x0.bind fun y22x2 =>
   (F19.F (y8x2, (p1, (p2, (y22x2.1, (y22x2.2.1, y22x2.2.2)))))).bind fun y19 =>
   let x1 := (F10.F (y19.1, y21.1))
   x1.bind fun y10 =>
   cond ((!y10) || (y19.2 != y21.2)) (
    some false) (
    (F8.F p0).bind fun y8x3 =>
    (F11.F (y8x2, y8x3)).bind fun y11 =>
    cond (!y11) (
     some false) (
     (F12.F (y8x2, 1)).bind fun y12 =>
     cond (!(decide (y12.1 < 0))) (
      x1.bind fun y10x2 =>
      cond (((decide (y12.1 < 0)) || (!y10x2)) || (y19.2 != y21.2)) (
       some false) (
       (F13.F (y19.1, 1)).bind fun y13 =>
       (F14.F (y13.2.1, 1)).bind fun y14 =>
       cond (decide (y14 < 0)) (
        some false) (
        cond (y14 != y13.1) (
         some false) (
         (F8.F p0).bind fun y8x4 =>
         x0.bind fun y22x3 =>
         (F19.F (y8x4, (p1, (p2, (y22x3.1, (y22x3.2.1, y22x3.2.2)))))).bind fun y19x2 =>
         (F10.F (y19x2.1, y21.1)).bind fun y10x3 =>
         cond ((!y10x3) || (y19x2.2 != y21.2)) (
          some false) (
          (F14.F (y13.2.1, 1)).bind fun y14x2 =>
          cond (decide (y14x2 < 0)) (
           some false) (
           cond (y14x2 != y13.1) (
            some false) (
            some true))))))) (
      cond (((decide (y12.1 < 0)) || true) || (y19.2 != y21.2)) (
       some false) (
       (F13.F (y19.1, 1)).bind fun y13 =>
       (F14.F (y13.2.1, 1)).bind fun y14 =>
       cond (decide (y14 < 0)) (
        some false) (
        cond (y14 != y13.1) (
         some false) (
         (F8.F p0).bind fun y8x4 =>
         x0.bind fun y22x3 =>
         (F19.F (y8x4, (p1, (p2, (y22x3.1, (y22x3.2.1, y22x3.2.2)))))).bind fun y19x2 =>
         (F10.F (y19x2.1, y21.1)).bind fun y10x2 =>
         cond ((!y10x2) || (y19x2.2 != y21.2)) (
          some false) (
          (F14.F (y13.2.1, 1)).bind fun y14x2 =>
          cond (decide (y14x2 < 0)) (
           some false) (
           cond (y14x2 != y13.1) (
            some false) (
            some true))))))))))
theorem F.eq : ∀ x, F x = runF (mkE tab es 114 [] []) code [.row 0 0, .sc, .sc, .agg [.sc, .sc, .sc]] [.sc] [.tmp 8] (Coz.dec cr) (cp.enc x) := fun x => by kernel_rfl
theorem F.owed : owed (mkE (R := Bool) tab es 114 [] []) code = [] := by kernel_rfl
theorem con : ∀ x y, F x = some y → Con prog 5 [.row 0 0, .sc, .sc, .agg [.sc, .sc, .sc]] [.sc] (cp.enc x) (cr.enc y).1 (cr.enc y).2 :=
  func_ok (c := code) (n := 114) (pf := [.row 0 0, .sc, .sc, .agg [.sc, .sc, .sc]]) (res := [.tmp 8]) tabOk uniOk mixed get (by kernel_rfl) (by kernel_rfl) (by kernel_rfl) (by decide) F.eq fun w0 M h x hx => by rw [F.owed] at hx; exact absurd hx List.not_mem_nil
noncomputable def ent : Ent prog uni := Ent.of 5 [.row 0 0, .sc, .sc, .agg [.sc, .sc, .sc]] [.sc] cp cr F con fun args w => enters_of get (by kernel_rfl) rfl args w
end Go.Proofs.Ytpingihfadihfaa.AX.F5

/- The function 9 of the program in the small machine. No conditions. -/
namespace Go.Proofs.Ytpingihfadihfaa.AX.F9
open Go Go.Proofs.Try
noncomputable def code : Code := bodyOf f9
abbrev Y : Type := ((List S59) × Int)
def cp : Cod uni ((List S50) × Int × Int) := (codC (iRow 2) (codC (iInt .i64) (cod1 (iInt .i64))))
def cr : Coz uni ((List S59) × Int) := (cozR (codC (iRow 1) (cod1 (iInt .i64))) (codD (codD (codD cod0))))
noncomputable def es : List (Ent prog uni) := [F25.ent]
theorem get : prog.funcs[9]? = some f9 := by kernel_rfl

noncomputable def F : ((List S50) × Int × Int) → Option (((List S59) × Int))
  | (p0, p1, p2) =>
  (F25.F (p0, (p1, p2))).bind fun y25 =>
  cond (y25.2 != 0) (
   some (([] : List S59), y25.2)) (
   some (y25.1.1, 0))
theorem F.eq : ∀ x, F x = runF (mkE tab es 22 [] []) code [.row 2 0, .sc, .sc] [.row 1, .sc] [.tmp 6, .tmp 7] (Coz.dec cr) (cp.enc x) := fun x => by kernel_rfl
theorem F.owed : owed (mkE (R := ((List S59) × Int)) tab es 22 [] []) code = [] := by kernel_rfl
theorem con : ∀ x y, F x = some y → Con prog 9 [.row 2 0, .sc, .sc] [.row 1, .sc] (cp.enc x) (cr.enc y).1 (cr.enc y).2 :=
  func_ok (c := code) (n := 22) (pf := [.row 2 0, .sc, .sc]) (res := [.tmp 6, .tmp 7]) tabOk uniOk mixed get (by kernel_rfl) (by kernel_rfl) (by kernel_rfl) (by decide) F.eq fun w0 M h x hx => by rw [F.owed] at hx; exact absurd hx List.not_mem_nil
noncomputable def ent : Ent prog uni := Ent.of 9 [.row 2 0, .sc, .sc] [.row 1, .sc] cp cr F con fun args w => enters_of get (by kernel_rfl) rfl args w
end Go.Proofs.Ytpingihfadihfaa.AX.F9

/- The function 3 of the program in the small machine. No conditions. -/
namespace Go.Proofs.Ytpingihfadihfaa.AX.F3
open Go Go.Proofs.Try
noncomputable def code : Code := bodyOf f3
abbrev Y : Type := Bool
def cp : Cod uni ((List S50) × Int × Int) := (codC (iRow 0) (codC (iInt .i64) (cod1 (iInt .i64))))
def cr : Coz uni Bool := (cozR (cod1 iBool) (codD (codD (codD cod0))))
noncomputable def es : List (Ent prog uni) := [F6.ent, F8.ent, F7.ent, F9.ent, F10.ent, F11.ent, F12.ent, F13.ent, F14.ent]
theorem get : prog.funcs[3]? = some f3 := by kernel_rfl

noncomputable def F : ((List S50) × Int × Int) → Option (Bool)
  | (p0, p1, p2) =>
  (F6.F (p0, 1048576)).bind fun y6 =>
  cond (decide (y6 < 0)) (
   some true) (
   (F8.F p0).bind fun y8 =>
   (F7.F (y8, (p1, p2))).bind fun y7 =>
   (F8.F p0).bind fun y8x2 =>
   (F9.F (y8x2, (p1, p2))).bind fun y9 =>
   (F10.F (y9.1, y7.1)).bind fun y10 =>
   cond ((!y10) || (y9.2 != y7.2)) (
    some false) (
    (F8.F p0).bind fun y8x3 =>
    (F11.F (y8x2, y8x3)).bind fun y11 =>
    cond (!y11) (
     some false) (
     (F12.F (y8x2, 1)).bind fun y12 =>
     cond (!(decide (y12.1 < 0))) (
      (F10.F (y9.1, y7.1)).bind fun y10x2 =>
      cond (((decide (y12.1 < 0)) || (!y10x2)) || (y9.2 != y7.2)) (
       some false) (
       (F13.F (y9.1, 1)).bind fun y13 =>
       (F14.F (y13.2.1, 1)).bind fun y14 =>
       cond (decide (y14 < 0)) (
        some false) (
        cond (y14 != y13.1) (
         some false) (
         (F8.F p0).bind fun y8x4 =>
         (F9.F (y8x4, (p1, p2))).bind fun y9x2 =>
         (F10.F (y9x2.1, y7.1)).bind fun y10x3 =>
         cond ((!y10x3) || (y9x2.2 != y7.2)) (
          some false) (
          (F14.F (y13.2.1, 1)).bind fun y14x2 =>
          cond (decide (y14x2 < 0)) (
           some false) (
           cond (y14x2 != y13.1) (
            some false) (
            some true))))))) (
      cond (((decide (y12.1 < 0)) || true) || (y9.2 != y7.2)) (
       some false) (
       (F13.F (y9.1, 1)).bind fun y13 =>
       (F14.F (y13.2.1, 1)).bind fun y14 =>
       cond (decide (y14 < 0)) (
        some false) (
        cond (y14 != y13.1) (
         some false) (
         (F8.F p0).bind fun y8x4 =>
         (F9.F (y8x4, (p1, p2))).bind fun y9x2 =>
         (F10.F (y9x2.1, y7.1)).bind fun y10x2 =>
         cond ((!y10x2) || (y9x2.2 != y7.2)) (
          some false) (
          (F14.F (y13.2.1, 1)).bind fun y14x2 =>
          cond (decide (y14x2 < 0)) (
           some false) (
           cond (y14x2 != y13.1) (
            some false) (
            some true))))))))))
theorem F.eq : ∀ x, F x = runF (mkE tab es 106 [] []) code [.row 0 0, .sc, .sc] [.sc] [.tmp 6] (Coz.dec cr) (cp.enc x) := fun x => by kernel_rfl
theorem F.owed : owed (mkE (R := Bool) tab es 106 [] []) code = [] := by kernel_rfl
theorem con : ∀ x y, F x = some y → Con prog 3 [.row 0 0, .sc, .sc] [.sc] (cp.enc x) (cr.enc y).1 (cr.enc y).2 :=
  func_ok (c := code) (n := 106) (pf := [.row 0 0, .sc, .sc]) (res := [.tmp 6]) tabOk uniOk mixed get (by kernel_rfl) (by kernel_rfl) (by kernel_rfl) (by decide) F.eq fun w0 M h x hx => by rw [F.owed] at hx; exact absurd hx List.not_mem_nil
noncomputable def ent : Ent prog uni := Ent.of 3 [.row 0 0, .sc, .sc] [.sc] cp cr F con fun args w => enters_of get (by kernel_rfl) rfl args w
end Go.Proofs.Ytpingihfadihfaa.AX.F3

/- Small facts for plain laws. No conditions. -/
namespace Go.Proofs.Ytpingihfadihfaa.AX
open Go

theorem w64 {x : Int} (h0 : -9223372036854775808 ≤ x) (h1 : x < 9223372036854775808) : IntKind.wrap .i64 x = x := by
  unfold IntKind.wrap
  simp [IntKind.signed, IntKind.bits]
  omega

/- Not by rfl: a proof by simp then names each step, and the kernel need not find them. -/
theorem bS {α β : Type} {x : α} {f : α → Option β} : (some x).bind f = f x := by simp
theorem bN {α β : Type} {f : α → Option β} : (none : Option α).bind f = none := by simp
theorem cT {α : Type} {a b : α} : cond true a b = a := by simp
theorem cF {α : Type} {a b : α} : cond false a b = b := by simp

theorem dT {p : Prop} [Decidable p] (h : p) : decide p = true := decide_eq_true h
theorem dF {p : Prop} [Decidable p] (h : ¬ p) : decide p = false := decide_eq_false h

section
variable {α : Type} [BEq α] [LawfulBEq α] {a b : α}
theorem qT (h : a = b) : (a == b) = true := by simp [h]
theorem qF (h : ¬ a = b) : (a == b) = false := by simpa using h
theorem nT (h : ¬ a = b) : (a != b) = true := by simp [bne, qF h]
theorem nF (h : a = b) : (a != b) = false := by simp [bne, h]
end

theorem lim_in {X Y : Type} {f : X → Option (X ⊕ Y)} {x x' : X} (h : f x = some (.inl x')) : lim f x = lim f x' := by rw [lim_step, h]; rfl
theorem lim_out {X Y : Type} {f : X → Option (X ⊕ Y)} {x : X} {y : Y} (h : f x = some (.inr y)) : lim f x = some y := by rw [lim_step, h]; rfl

/-- So many rounds, told one by one. -/
theorem lim_to {X Y : Type} {f : X → Option (X ⊕ Y)} (s : Nat → X) : ∀ (n : Nat), (∀ i, i < n → f (s i) = some (.inl (s (i + 1)))) → lim f (s 0) = lim f (s n)
  | 0, _ => rfl
  | n + 1, h => by rw [lim_to s n fun i hi => h i (by omega), lim_in (h n (by omega))]
theorem lim_run {X Y : Type} {f : X → Option (X ⊕ Y)} (s : Nat → X) (n : Nat) {y : Y} (h : ∀ i, i < n → f (s i) = some (.inl (s (i + 1)))) (hn : f (s n) = some (.inr y)) : lim f (s 0) = some y := by
  rw [lim_to s n h, lim_out hn]

theorem getD_lt {α : Type} {l : List α} {i : Nat} {d : α} (h : i < l.length) : l.getD i d = l[i] := by simp [List.getD, h]

theorem set_self {α : Type} {l : List α} {i : Nat} {d : α} : l.set i (l.getD i d) = l := by
  by_cases h : i < l.length
  · rw [getD_lt h, List.set_getElem_self]
  · rw [List.set_eq_of_length_le (by omega)]

theorem getD_set {α : Type} {l : List α} {i : Nat} {d x : α} (h : i < l.length) : (l.set i x).getD i d = x := by simp [List.getD, h]

theorem set_app {α : Type} {p r : List α} {x y : α} {i : Nat} (h : i = p.length) : (p ++ x :: r).set i y = p ++ y :: r := by subst h; simp

theorem drop_cons {α : Type} {l : List α} {i : Nat} (h : i < l.length) : l.drop i = l[i] :: l.drop (i + 1) := by simp

section
variable {A B E : Type}

/-- A row laid anew, as far as i. -/
def upTo (c : A → B) (z : B) (l : List A) (i : Nat) : List B := (l.take i).map c ++ List.replicate (l.length - i) z
theorem upTo_zero {c : A → B} {z : B} {l : List A} : upTo c z l 0 = List.replicate l.length z := by simp [upTo]
theorem upTo_all {c : A → B} {z : B} {l : List A} : upTo c z l l.length = l.map c := by simp [upTo]
theorem upTo_len {c : A → B} {z : B} {l : List A} {i : Nat} (h : i ≤ l.length) : (upTo c z l i).length = l.length := by simp [upTo]; omega
theorem upTo_set {c : A → B} {z : B} {l : List A} {i : Nat} {d : A} (h : i < l.length) : (upTo c z l i).set i (c (l.getD i d)) = upTo c z l (i + 1) := by
  unfold upTo
  rw [show l.length - i = (l.length - (i + 1)) + 1 by omega, List.replicate_succ, set_app (by simp; omega), getD_lt h, ← List.take_append_getElem h, List.map_append, List.append_assoc]
  rfl

/-- Each element turned, with a number that counts on. -/
def mkL (g : Int → E → E) (c : E → Int) : Int → List E → List E
  | _, [] => []
  | k, x :: r => g k x :: mkL g c (k + c x) r
def mkK (c : E → Int) : Int → List E → Int
  | k, [] => k
  | k, x :: r => mkK c (k + c x) r
theorem mkL_len {g : Int → E → E} {c : E → Int} : ∀ {k : Int} {l : List E}, (mkL g c k l).length = l.length
  | _, [] => rfl
  | _, _ :: _ => by simp [mkL, mkL_len]
theorem mkL_app {g : Int → E → E} {c : E → Int} : ∀ {k : Int} {l r : List E}, mkL g c k (l ++ r) = mkL g c k l ++ mkL g c (mkK c k l) r
  | _, [], _ => rfl
  | k, x :: l, r => by simp [mkL, mkK, mkL_app]
theorem mkK_app {c : E → Int} : ∀ {k : Int} {l r : List E}, mkK c k (l ++ r) = mkK c (mkK c k l) r
  | _, [], _ => rfl
  | k, x :: l, r => by simp [mkK, mkK_app]
theorem mkK_take {c : E → Int} {k : Int} {l : List E} {i : Nat} {d : E} (h : i < l.length) : mkK c k (l.take (i + 1)) = mkK c k (l.take i) + c (l.getD i d) := by
  rw [← List.take_append_getElem h, mkK_app, getD_lt h]; rfl
theorem mkK_const {n : Int} : ∀ {k : Int} {l : List E}, mkK (fun _ => n) k l = k + n * l.length
  | k, [] => by simp [mkK]
  | k, x :: l => by
    simp only [mkK, mkK_const, List.length_cons]
    rw [show ((l.length + 1 : Nat) : Int) = (l.length : Int) + 1 from rfl, Int.mul_add, Int.mul_one]; omega
theorem mkK_le {c : E → Int} (hc : ∀ x, 0 ≤ c x) : ∀ {k : Int} {l : List E}, k ≤ mkK c k l
  | k, [] => Int.le_refl _
  | k, x :: l => by
    have := mkK_le hc (k := k + c x) (l := l)
    have := hc x
    simp only [mkK]; omega
def mkAt (g : Int → E → E) (c : E → Int) (k : Int) (l : List E) (i : Nat) : List E := mkL g c k (l.take i) ++ l.drop i
theorem mkAt_zero {g : Int → E → E} {c : E → Int} {k : Int} {l : List E} : mkAt g c k l 0 = l := by simp [mkAt, mkL]
theorem mkAt_all {g : Int → E → E} {c : E → Int} {k : Int} {l : List E} : mkAt g c k l l.length = mkL g c k l := by simp [mkAt]
theorem mkAt_len {g : Int → E → E} {c : E → Int} {k : Int} {l : List E} {i : Nat} : (mkAt g c k l i).length = l.length := by simp [mkAt, mkL_len]; omega
theorem mkAt_get {g : Int → E → E} {c : E → Int} {k : Int} {l : List E} {i : Nat} {d : E} (h : i < l.length) : (mkAt g c k l i).getD i d = l.getD i d := by
  unfold mkAt
  have : (mkL g c k (l.take i)).length = i := by rw [mkL_len]; simp; omega
  rw [getD_lt (by simp [this]; omega), getD_lt h, List.getElem_append_right (by omega)]
  simp [this]
theorem mkAt_set {g : Int → E → E} {c : E → Int} {k : Int} {l : List E} {i : Nat} {d : E} (h : i < l.length) : (mkAt g c k l i).set i (g (mkK c k (l.take i)) (l.getD i d)) = mkAt g c k l (i + 1) := by
  unfold mkAt
  rw [drop_cons h, set_app (by rw [mkL_len]; simp; omega), getD_lt h, ← List.take_append_getElem h, mkL_app, List.append_assoc]
  rfl
theorem mkL_get {g : Int → E → E} {c : E → Int} : ∀ {k : Int} {l : List E} {i : Nat} {d : E}, i < l.length → (mkL g c k l).getD i d = g (mkK c k (l.take i)) (l.getD i d)
  | k, x :: l, 0, d, _ => by simp [mkL, mkK]
  | k, x :: l, i + 1, d, h => by
    have := mkL_get (g := g) (c := c) (k := k + c x) (l := l) (i := i) (d := d) (by simpa using h)
    simpa [mkL, mkK, List.getD] using this
end


/-- Two rows compared, element by element. -/
theorem eq_rows {E : Type} {p q : List E} (d : E) (hl : p.length = q.length) : p = q ∨ ∃ i, i < p.length ∧ (∀ j, j < i → p.getD j d = q.getD j d) ∧ p.getD i d ≠ q.getD i d := by
  induction p generalizing q with
  | nil => cases q with
    | nil => exact .inl rfl
    | cons _ _ => simp at hl
  | cons x p ih =>
    cases q with
    | nil => simp at hl
    | cons y q =>
      by_cases h : x = y
      · subst h
        rcases ih (by simpa using hl) with h | ⟨i, h1, h2, h3⟩
        · exact .inl (by rw [h])
        · refine .inr ⟨i + 1, by simpa using h1, fun j hj => ?_, by simpa using h3⟩
          cases j with
          | zero => rfl
          | succ j => simpa using h2 j (by omega)
      · exact .inr ⟨0, by simp, fun j hj => by omega, by simpa using h⟩

end Go.Proofs.Ytpingihfadihfaa.AX

/- What the functions of the controller's laws answer. No conditions. -/
namespace Go.Proofs.Ytpingihfadihfaa.AX
open Go

theorem F24.ok (x : Bool × Int × Int × Int) : F24.F x = some x := by obtain ⟨a, b, c, d⟩ := x; rfl

theorem F8.ok (l : List S50) (h : l.length ≤ 1048576) : F8.F l = some l := by
  have := lim_run (f := F8.l0.b) (fun i => ((i : Int), l, upTo id z50 l i)) l.length (y := l) (fun i hi => by
    have e := upTo_set (c := id) (z := z50) (d := z50) hi
    simp (disch := omega) only [F8.l0.b, F24.ok, dT, dF, w64, upTo_len, Bool.and_self, cT, bS, Int.toNat_natCast]
    exact congrArg (fun q => some (Sum.inl (((i + 1 : Nat) : Int), l, q))) e)
    (by simp (disch := omega) only [F8.l0.b, dT, dF, cF, upTo_all, List.map_id])
  simp (disch := omega) only [F8.F, dT, Bool.and_self, cT, Int.toNat_natCast, ← upTo_zero (c := id) (z := z50) (l := l)]
  exact congrArg (fun q => Option.bind q fun y => some y) this

theorem F26.ok (a b : Int × Int × Int × Int) : F26.F (a, b) = some (decide (a = b)) := by
  obtain ⟨a0, a1, a2, a3⟩ := a
  obtain ⟨b0, b1, b2, b3⟩ := b
  simp only [F26.F, Prod.mk.injEq]
  by_cases h0 : a0 = b0 <;> by_cases h1 : a1 = b1 <;> by_cases h2 : a2 = b2 <;> by_cases h3 : a3 = b3 <;> simp [h0, h1, h2, h3, nT]

theorem F10.ok (p : List S59) (h : p.length ≤ 1048576) : F10.F (p, p) = some true := by
  have := lim_run (f := F10.l0.b) (fun i => ((i : Int), p, p)) p.length (y := .inr ()) (fun i hi => by
    simp (disch := omega) only [F10.l0.b, F26.ok, dT, dF, w64, Bool.and_self, cT, cF, bS, Bool.not_true]; rfl)
    (by simp (disch := omega) only [F10.l0.b, dT, dF, cF])
  simp (disch := omega) only [F10.F, nF, cF, dT]
  exact congrArg (fun q : Option (Bool ⊕ Unit) => q.bind fun q => match q with | .inl y => some y | .inr y => some true) this

def g59 (k : Int) (_ : S59) : S59 := ⟨k, k + 1, k + 1 + 1, k + 1 + 1 + 1⟩

theorem F13.ok (l : List S59) (h : l.length ≤ 1048576) : F13.F (l, 1) = some (1 + 4 * (l.length : Int), mkL g59 (fun _ => 4) 1 l, ()) := by
  have := lim_run (f := F13.l0.b) (fun i => (mkK (fun _ => 4) 1 (l.take i), (i : Int), mkAt g59 (fun _ => 4) 1 l i)) l.length (y := (1 + 4 * (l.length : Int), mkL g59 (fun _ => 4) 1 l)) (fun i hi => by
    have e := mkAt_set (g := g59) (c := fun _ => 4) (k := 1) (d := z59) hi
    have e2 : mkK (fun _ => (4 : Int)) 1 (l.take i) = 1 + 4 * i := by rw [mkK_const]; simp; omega
    have e3 : mkK (fun _ => (4 : Int)) 1 (l.take (i + 1)) = 1 + 4 * (i + 1 : Nat) := by rw [mkK_const]; simp; omega
    have hl : (mkAt g59 (fun _ => 4) 1 l i).length = l.length := mkAt_len
    simp (disch := omega) only [F13.l0.b, dT, dF, w64, hl, e2, e3, List.length_set, Bool.and_self, cT, Int.toNat_natCast, getD_set, List.set_set, g59] at e ⊢
    rw [← e]
    simp only [Option.some.injEq, Sum.inl.injEq, Prod.mk.injEq]
    exact ⟨by omega, by omega, trivial⟩)
    (by simp (disch := omega) only [F13.l0.b, dT, dF, cF, mkAt_all, mkAt_len, List.take_length, mkK_const, mkL_len])
  simp (disch := omega) only [F13.F]
  exact congrArg (fun q : Option (Int × List S59) => q.bind fun y => some (y.1, y.2, ())) (by simpa [mkAt_zero, mkK] using this)

theorem F14.ok (l : List S59) (h : l.length ≤ 1048576) : F14.F (mkL g59 (fun _ => 4) 1 l, 1) = some (1 + 4 * (l.length : Int)) := by
  have := lim_run (f := F14.l0.b) (fun i => (mkK (fun _ => 4) 1 (l.take i), (i : Int), mkL g59 (fun _ => 4) 1 l)) l.length (y := .inr (1 + 4 * (l.length : Int))) (fun i hi => by
    have e := mkL_get (g := g59) (c := fun _ => 4) (k := 1) (d := z59) hi
    have e2 : mkK (fun _ => (4 : Int)) 1 (l.take i) = 1 + 4 * i := by rw [mkK_const]; simp; omega
    have e3 : mkK (fun _ => (4 : Int)) 1 (l.take (i + 1)) = 1 + 4 * (i + 1 : Nat) := by rw [mkK_const]; simp; omega
    simp (disch := omega) only [F14.l0.b, dT, dF, w64, nT, nF, mkL_len, e, e2, e3, Bool.and_self, cT, cF, Int.toNat_natCast, g59]
    simp only [Option.some.injEq, Sum.inl.injEq, Prod.mk.injEq]
    exact ⟨by omega, by omega, trivial⟩)
    (by simp (disch := omega) only [F14.l0.b, dT, dF, cF, List.take_length, mkK_const, mkL_len])
  simp (disch := omega) only [F14.F]
  exact congrArg (fun q : Option (Int ⊕ Int) => q.bind fun q => match q with | .inl y => some y | .inr y => some y) (by simpa [mkK] using this)


theorem F27.ok (a : Bool × Int × Int × Int) : F27.F (a, a) = some true := by
  obtain ⟨a0, a1, a2, a3⟩ := a
  simp (disch := rfl) only [F27.F, qT, nF, Bool.not_true, cF]

theorem F11.ok (p : List S50) (h : p.length ≤ 1048576) : F11.F (p, p) = some true := by
  have := lim_run (f := F11.l0.b) (fun i => ((i : Int), p, p)) p.length (y := .inr ()) (fun i hi => by
    simp (disch := omega) only [F11.l0.b, F27.ok, dT, dF, w64, Bool.and_self, cT, cF, bS, Bool.not_true]; rfl)
    (by simp (disch := omega) only [F11.l0.b, dT, dF, cF])
  simp (disch := omega) only [F11.F, nF, cF, dT]
  exact congrArg (fun q : Option (Bool ⊕ Unit) => q.bind fun q => match q with | .inl y => some y | .inr y => some true) this

def g50 (k : Int) (_ : S50) : S50 := ⟨Int.tmod k 3 == 0, k + 1, k + 1 + 1, k + 1 + 1 + 1⟩

theorem F12.ok (l : List S50) (h : l.length ≤ 1048576) : F12.F (l, 1) = some (1 + 4 * (l.length : Int), mkL g50 (fun _ => 4) 1 l, ()) := by
  have := lim_run (f := F12.l0.b) (fun i => (mkK (fun _ => 4) 1 (l.take i), (i : Int), mkAt g50 (fun _ => 4) 1 l i)) l.length (y := (1 + 4 * (l.length : Int), mkL g50 (fun _ => 4) 1 l)) (fun i hi => by
    have e := mkAt_set (g := g50) (c := fun _ => 4) (k := 1) (d := z50) hi
    have e2 : mkK (fun _ => (4 : Int)) 1 (l.take i) = 1 + 4 * i := by rw [mkK_const]; simp; omega
    have e3 : mkK (fun _ => (4 : Int)) 1 (l.take (i + 1)) = 1 + 4 * (i + 1 : Nat) := by rw [mkK_const]; simp; omega
    have hl : (mkAt g50 (fun _ => 4) 1 l i).length = l.length := mkAt_len
    simp (disch := omega) only [F12.l0.b, dT, dF, w64, hl, e2, e3, List.length_set, Bool.and_self, cT, Int.toNat_natCast, getD_set, List.set_set, g50] at e ⊢
    rw [← e]
    simp only [Option.some.injEq, Sum.inl.injEq, Prod.mk.injEq]
    exact ⟨by omega, by omega, trivial⟩)
    (by simp (disch := omega) only [F12.l0.b, dT, dF, cF, mkAt_all, mkAt_len, List.take_length, mkK_const, mkL_len])
  simp (disch := omega) only [F12.F]
  exact congrArg (fun q : Option (Int × List S50) => q.bind fun y => some (y.1, y.2, ())) (by simpa [mkAt_zero, mkK] using this)

/-- Where both answer the same, the law holds. -/
theorem F3.law_of {ms : List S50} {most g : Int} {t : List S59} {c : Int} (h : ms.length ≤ 1048576 → F7.F (ms, most, g) = some (t, c) ∧ F9.F (ms, most, g) = some (t, c) ∧ t.length ≤ 20000) (hl : ms.length ≤ 9223372036854775807) : F3.F (ms, most, g) = some true := by
  by_cases h0 : ms.length ≤ 1048576
  · obtain ⟨h1, h2, h3⟩ := h h0
    have e6 : F6.F (ms, 1048576) = some (1048576 - (ms.length : Int)) := by simp (disch := omega) only [F6.F, w64, dF, cF]
    have d1 : decide (1048576 - (ms.length : Int) < 0) = false := dF (by omega)
    have d2 : decide (1 + 4 * (ms.length : Int) < 0) = false := dF (by omega)
    have d3 : decide (1 + 4 * (t.length : Int) < 0) = false := dF (by omega)
    have n1 : (c != c) = false := nF rfl
    have n2 : (1 + 4 * (t.length : Int) != 1 + 4 * (t.length : Int)) = false := nF rfl
    simp only [F3.F, e6, bS, d1, cF, F8.ok ms h0, h1, h2, F10.ok t (by omega), Bool.not_true, n1, Bool.or_self, F11.ok ms h0, F12.ok ms h0, d2, Bool.not_false, cT, F13.ok t (by omega), F14.ok t (by omega), d3, n2]
  · have e6 : F6.F (ms, 1048576) = some (-1) := by simp (disch := omega) only [F6.F, w64, dT, cT]
    have d1 : decide ((-1 : Int) < 0) = true := rfl
    simp only [F3.F, e6, bS, d1, cT]

end Go.Proofs.Ytpingihfadihfaa.AX

/- The controller, plainly: speeds and stops. No conditions. -/
namespace Go.Proofs.Ytpingihfadihfaa.AX
open Go

/-- How far it goes, slowing down. -/
def stp : Nat → Int → Int → Int
  | 0, _, _ => 0
  | n + 1, v, g => if v > 0 then v + stp n (v - g) g else 0

theorem stp_ge : ∀ {n : Nat} {v g : Int}, 1 ≤ g → v ≤ n → v ≤ stp n v g ∧ 0 ≤ stp n v g
  | 0, v, g, hg, h => by simp [stp]; omega
  | n + 1, v, g, hg, h => by
    simp only [stp]
    split
    · have := stp_ge (n := n) (v := v - g) hg (by omega)
      omega
    · omega

theorem stp_one {n : Nat} {g : Int} (hg : 1 ≤ g) : stp (n + 1) 1 g = 1 := by
  simp only [stp]
  rw [if_pos (by omega)]
  cases n with
  | zero => rfl
  | succ n => simp only [stp]; rw [if_neg (by omega)]; rfl

theorem stp_more : ∀ {n m : Nat} {v g : Int}, 1 ≤ g → v ≤ n → v ≤ m → stp n v g = stp m v g
  | 0, 0, _, _, _, _, _ => rfl
  | 0, m + 1, v, g, hg, h, _ => by simp only [stp]; rw [if_neg (by omega)]
  | n + 1, 0, v, g, hg, _, h => by simp only [stp]; rw [if_neg (by omega)]
  | n + 1, m + 1, v, g, hg, h1, h2 => by
    simp only [stp]
    split
    · rw [stp_more (n := n) (m := m) hg (by omega) (by omega)]
    · rfl

theorem F37.l0_ok : ∀ (n : Nat) (v g a : Int), 1 ≤ g → g ≤ 1000 → v ≤ n → v ≤ 1000 → -1000 ≤ v → 0 ≤ a → a + 1000 * v ≤ 100000000 → F37.l0 (v, g, a) = some (a + stp n v g)
  | 0, v, g, a, hg, hg2, hv, h1, h3, h2, hb => by
    unfold F37.l0
    rw [lim_out (y := a)]
    · simp [stp]
    · simp (disch := omega) only [F37.l0.b, dF, cF]
  | n + 1, v, g, a, hg, hg2, hv, h1, h3, h2, hb => by
    by_cases h : v > 0
    · have := F37.l0_ok n (v - g) g (a + v) hg hg2 (by omega) (by omega) (by omega) (by omega) (by omega)
      unfold F37.l0 at this ⊢
      rw [lim_in (x' := (v - g, g, a + v))]
      · rw [this]; simp only [stp]; rw [if_pos h]; congr 1; omega
      · simp (disch := omega) only [F37.l0.b, dT, cT, w64]
    · unfold F37.l0
      rw [lim_out (y := a)]
      · simp only [stp]; rw [if_neg h]; simp
      · simp (disch := omega) only [F37.l0.b, dF, cF]

theorem F37.ok {v g : Int} {n : Nat} (hg : 1 ≤ g) (hg2 : g ≤ 1000) (hv : v ≤ n) (h : v ≤ 1000) (h0 : 0 ≤ v) : F37.F (v, g) = some (stp n v g) := by
  simp only [F37.F, F37.l0_ok n v g 0 hg hg2 hv h (by omega) (by omega) (by omega), bS, Int.zero_add]

theorem F45.ok {v g : Int} {n : Nat} (hg : 1 ≤ g) (hg2 : g ≤ 1000) (hv : v ≤ n) (h : v ≤ 1000) (h0 : 0 ≤ v) : F45.F (v, g) = some (stp n v g) := F37.ok hg hg2 hv h h0

/-- The greatest speed that can be stopped. -/
def dn (g left : Int) : Nat → Int
  | 0 => 0
  | n + 1 => if n = 0 then 1 else if stp (n + 1) ((n + 1 : Nat) : Int) g > left then dn g left n else ((n + 1 : Nat) : Int)

theorem dn_pos {g left : Int} : ∀ {n : Nat}, 1 ≤ n → 1 ≤ dn g left n ∧ dn g left n ≤ n
  | n + 1, _ => by
    simp only [dn]
    split
    · omega
    · split
      · have := dn_pos (g := g) (left := left) (n := n) (by omega); omega
      · omega

theorem dn_le {g left : Int} (hg : 1 ≤ g) (hl : 1 ≤ left) : ∀ {n : Nat}, dn g left n ≤ left
  | 0 => by simp [dn]; omega
  | n + 1 => by
    simp only [dn]
    split
    · omega
    · split
      · exact dn_le hg hl
      · have := (stp_ge (n := n + 1) (v := ((n + 1 : Nat) : Int)) hg (by omega)).1
        omega

theorem dn_cut {g left : Int} (hg : 1 ≤ g) (hl : 1 ≤ left) : ∀ {n : Nat}, left ≤ n → dn g left n = dn g left left.toNat
  | 0, h => by omega
  | n + 1, h => by
    by_cases e : left = (n + 1 : Nat)
    · rw [e]; rfl
    · rw [← dn_cut hg hl (n := n) (by omega)]
      simp only [dn]
      rw [if_neg (by omega), if_pos]
      have := (stp_ge (n := n + 1) (v := ((n + 1 : Nat) : Int)) hg (by omega)).1
      omega

theorem F33.l0_ok {g left : Int} (hg : 1 ≤ g) (hg2 : g ≤ 1000) : ∀ (n : Nat), 1 ≤ n → n ≤ 1000 → F33.l0 (g, left, (n : Int)) = some (dn g left n)
  | 0, h, _ => by omega
  | n + 1, _, h => by
    by_cases h0 : n = 0
    · subst h0
      unfold F33.l0
      rw [lim_out (y := 1)]
      · rfl
      · simp (disch := omega) only [F33.l0.b, F45.ok (n := 1) hg hg2, dF, cF, bS, Bool.false_and]
        rfl
    · by_cases hs : stp (n + 1) ((n + 1 : Nat) : Int) g > left
      · have := F33.l0_ok hg hg2 (left := left) n (by omega) (by omega)
        unfold F33.l0 at this ⊢
        rw [lim_in (x' := (g, left, (n : Int)))]
        · rw [this]; simp only [dn]; rw [if_neg h0, if_pos hs]
        · simp (disch := omega) only [F33.l0.b, F45.ok (n := n + 1) hg hg2, dT, dF, cT, bS, Bool.true_and, w64]
          simp only [Option.some.injEq, Sum.inl.injEq, Prod.mk.injEq]
          exact ⟨trivial, trivial, by omega⟩
      · unfold F33.l0
        rw [lim_out (y := ((n + 1 : Nat) : Int))]
        · simp only [dn]; rw [if_neg h0, if_neg hs]
        · simp (disch := omega) only [F33.l0.b, F45.ok (n := n + 1) hg hg2, dT, dF, cT, cF, bS, Bool.true_and, w64]

def topS (cap sp g : Int) : Int := if sp + g < cap then sp + g else cap

theorem F33.ok {was most g left : Int} (hg : 1 ≤ g) (hg2 : g ≤ 1000) (hm : 1 ≤ most) (hm2 : most ≤ 1000) (hw : 0 ≤ was) (hw2 : was ≤ 1000) : F33.F (was, most, g, left) = some (dn g left (topS most was g).toNat) := by
  have ht : 1 ≤ topS most was g ∧ topS most was g ≤ 1000 := by unfold topS; split <;> omega
  have := F33.l0_ok (left := left) hg hg2 (topS most was g).toNat (by omega) (by omega)
  rw [Int.toNat_of_nonneg (by omega)] at this
  simp (disch := omega) only [F33.F, w64]
  unfold topS at this
  rw [this]; rfl

end Go.Proofs.Ytpingihfadihfaa.AX

/- The controller, plainly: what is wrong with moves; the ways. No conditions. -/
namespace Go.Proofs.Ytpingihfadihfaa.AX
open Go

def sg (n : Int) : Int := if n > 0 then 1 else if n < 0 then -1 else 0
def ab (n : Int) : Int := if n < 0 then -n else n

theorem F35.ok (n : Int) : F35.F n = some (sg n) := by
  unfold sg
  by_cases h : n > 0
  · simp only [F35.F, dT h, cT, if_pos h]
  · by_cases h2 : n < 0
    · simp only [F35.F, dF h, dT h2, cT, cF, if_neg h, if_pos h2]
    · simp only [F35.F, dF h, dF h2, cF, if_neg h, if_neg h2]
theorem F47.ok (n : Int) : F47.F n = some (sg n) := F35.ok n
theorem F36.ok {n : Int} (h : -1000000 ≤ n) (h2 : n ≤ 1000000) : F36.F n = some (ab n) := by
  simp (disch := omega) only [F36.F, w64]
  unfold ab
  congr 1
  split <;> split <;> omega
theorem F44.ok {n : Int} (h : -1000000 ≤ n) (h2 : n ≤ 1000000) : F44.F n = some (ab n) := by
  unfold ab
  by_cases h3 : n < 0
  · simp (disch := omega) only [F44.F, dT h3, cT, w64, if_pos h3, Int.zero_sub]
  · simp (disch := omega) only [F44.F, dF h3, cF, if_neg h3]

/-- A place on the grid. -/
def InG (m : S50) : Prop := 0 ≤ m.f1 ∧ m.f1 ≤ 24 ∧ 0 ≤ m.f2 ∧ m.f2 ≤ 24 ∧ 0 ≤ m.f3 ∧ m.f3 ≤ 24

def chg (a b : S50) : Int := (if a.f1 = b.f1 then 0 else 1) + (if a.f2 = b.f2 then 0 else 1) + (if a.f3 = b.f3 then 0 else 1)

theorem F42.ok (a b : S50) : F42.F ((a.f0, a.f1, a.f2, a.f3), (b.f0, b.f1, b.f2, b.f3)) = some (chg a b) := by
  unfold chg
  by_cases h1 : a.f1 = b.f1 <;> by_cases h2 : a.f2 = b.f2 <;> by_cases h3 : a.f3 = b.f3 <;>
    simp (disch := omega) [F42.F, F42.t4, F42.t6, h1, h2, h3, nT, nF, w64]

/-- All steps along one axis. -/
def chk : S50 → List S50 → Bool
  | _, [] => true
  | a, m :: r => decide (chg a m ≤ 1) && chk m r

theorem at_app {α : Type} {p r : List α} {m d : α} {i : Nat} (h : i = p.length) : (p ++ m :: r).getD i d = m := by subst h; simp [List.getD]

def inG (m : S50) : Bool := !((((((decide (m.f1 < 0)) || (decide (m.f1 > 24))) || (decide (m.f2 < 0))) || (decide (m.f2 > 24))) || (decide (m.f3 < 0))) || (decide (m.f3 > 24)))
theorem inG_iff {m : S50} : inG m = true ↔ InG m := by
  unfold inG InG
  simp only [Bool.not_eq_true', Bool.or_eq_false_iff, decide_eq_false_iff_not]
  omega

theorem F30.l0_ok : ∀ (r pre : List S50), (pre ++ r).length ≤ 5000 → F30.l0 ((pre.length : Int), pre ++ r) = some (if r.all inG then .inr (pre ++ r) else .inl 1)
  | [], pre, h => by
    unfold F30.l0
    rw [lim_out (y := .inr (pre ++ []))]
    · simp
    · simp (disch := omega) only [F30.l0.b, List.append_nil, dF, cF]
  | m :: r, pre, h => by
    have hl : (pre ++ m :: r).length = pre.length + r.length + 1 := by simp; omega
    have hg : (pre ++ m :: r).getD pre.length z50 = m := at_app rfl
    unfold F30.l0
    cases hm : inG m with
    | true =>
      have ih := F30.l0_ok r (pre ++ [m]) (by simpa using h)
      rw [lim_in (x' := (((pre ++ [m]).length : Int), (pre ++ [m]) ++ r))]
      · unfold F30.l0 at ih
        rw [ih]
        simp only [List.all_cons, List.append_assoc, List.singleton_append, hm, Bool.true_and]
      · have := inG_iff.1 hm
        obtain ⟨a1, a2, a3, a4, a5, a6⟩ := this
        simp (disch := omega) only [F30.l0.b, hl, hg, dT, dF, Bool.and_self, cT, cF, Int.toNat_natCast, Bool.or_self, w64, List.append_assoc, List.singleton_append, List.length_append, List.length_singleton]
        rfl
    | false =>
      rw [lim_out (y := .inl 1)]
      · simp [hm]
      · unfold inG at hm
        simp only [Bool.not_eq_false'] at hm
        simp (disch := omega) only [F30.l0.b, hl, hg, dT, Bool.and_self, cT, Int.toNat_natCast, hm]

theorem F30.l2_ok : ∀ (r pre : List S50) (a : S50), (pre ++ r).length ≤ 5000 → F30.l2 ((pre.length : Int), a.f0, a.f1, a.f2, a.f3, pre ++ r) = some (if chk a r then .inr () else .inl 13)
  | [], pre, a, h => by
    unfold F30.l2
    rw [lim_out (y := .inr ())]
    · simp [chk]
    · simp (disch := omega) only [F30.l2.b, List.append_nil, dF, cF]
  | m :: r, pre, a, h => by
    have hl : (pre ++ m :: r).length = pre.length + r.length + 1 := by simp; omega
    have hg : (pre ++ m :: r).getD pre.length z50 = m := at_app rfl
    have hf := F42.ok a m
    unfold F30.l2
    by_cases hm : chg a m ≤ 1
    · have ih := F30.l2_ok r (pre ++ [m]) m (by simpa using h)
      rw [lim_in (x' := (((pre ++ [m]).length : Int), m.f0, m.f1, m.f2, m.f3, (pre ++ [m]) ++ r))]
      · unfold F30.l2 at ih
        rw [ih]
        simp only [chk, decide_eq_true hm, Bool.true_and]
      · simp (disch := omega) only [F30.l2.b, hl, hg, hf, dT, dF, Bool.and_self, cT, cF, Int.toNat_natCast, bS, w64, List.append_assoc, List.singleton_append, List.length_append, List.length_singleton]
        rfl
    · rw [lim_out (y := .inl 13)]
      · simp [chk, hm]
      · simp (disch := omega) only [F30.l2.b, hl, hg, hf, dT, Bool.and_self, cT, Int.toNat_natCast, bS]

/-- What is wrong. -/
def cde (ms : List S50) (most gain : Int) : Int :=
  if ms.length > 4096 then 2 else if most < 1 ∨ most > 1000 ∨ gain < 1 ∨ gain > most then 1 else if ms.length > 2000 then 10 else if ms.all inG then (if chk z50 ms then 0 else 13) else 1

theorem F30.ok (ms : List S50) (most gain : Int) : F30.F (ms, most, gain) = some (cde ms most gain) := by
  unfold cde
  by_cases h1 : ms.length > 4096
  · rw [if_pos h1]; simp (disch := omega) only [F30.F, dT, cT]
  · rw [if_neg h1]
    by_cases h2 : most < 1 ∨ most > 1000 ∨ gain < 1 ∨ gain > most
    · rw [if_pos h2]
      have : ((((decide (most < 1)) || (decide (most > 1000))) || (decide (gain < 1))) || (decide (gain > most))) = true := by simpa [or_assoc] using h2
      simp (disch := omega) only [F30.F, dF, cF, this, cT]
    · rw [if_neg h2]
      by_cases h3 : ms.length > 2000
      · rw [if_pos h3]
        simp (disch := omega) only [F30.F, dF, dT, cF, Bool.or_self, cT]
      · rw [if_neg h3]
        have e1 := F30.l0_ok ms [] (by simp; omega)
        have e2 := F30.l2_ok ms [] z50 (by simp; omega)
        simp only [List.nil_append, List.length_nil] at e1 e2
        simp (disch := omega) only [F30.F, dF, cF, Bool.or_self]
        have e1' : F30.l0 (0, ms) = _ := e1
        have e2' : F30.l2 (0, false, 0, 0, 0, ms) = _ := e2
        rw [e1']
        cases h4 : ms.all inG with
        | true =>
          simp only [if_true, bS, e2']
          cases chk z50 ms <;> rfl
        | false => rfl

end Go.Proofs.Ytpingihfadihfaa.AX

/- The controller, plainly: the ways. No conditions. -/
namespace Go.Proofs.Ytpingihfadihfaa.AX
open Go

def mkS (i : Int) (a m : S50) : S76 := ⟨i, m.f0, sg (m.f1 - a.f1), sg (m.f2 - a.f2), sg (m.f3 - a.f3), 20 * (ab (m.f1 - a.f1) + ab (m.f2 - a.f2) + ab (m.f3 - a.f3))⟩
abbrev Wy := List S76 × S50
def hd (w : Wy) : S76 := w.1.getD 0 z76
def like (h s : S76) : Bool := ((((h.f1 == s.f1) && (h.f2 == s.f2)) && (h.f3 == s.f3)) && (h.f4 == s.f4))
def lastW (acc : List Wy) : Wy := acc.getD (acc.length - 1) ([], z50)
def addW (acc : List Wy) (s : S76) (a : S50) : List Wy :=
  if acc.length > 0 ∧ like (hd (lastW acc)) s = true then acc.set (acc.length - 1) ((lastW acc).1 ++ [s], (lastW acc).2) else acc ++ [([s], a)]
def bld : List S50 → Int → S50 → List Wy → List Wy
  | [], _, _, acc => acc
  | m :: r, i, a, acc => if chg a m = 0 then bld r (i + 1) a acc else bld r (i + 1) m (addW acc (mkS i a m) a)

def sumH : List S76 → Int
  | [] => 0
  | s :: r => s.f5 + sumH r
theorem sumH_app : ∀ {l r : List S76}, sumH (l ++ r) = sumH l + sumH r
  | [], r => by simp [sumH]
  | s :: l, r => by simp [sumH, sumH_app]; omega

def dirOk (s : S76) : Prop := ((s.f2 = 1 ∨ s.f2 = -1) ∧ s.f3 = 0 ∧ s.f4 = 0) ∨ (s.f2 = 0 ∧ (s.f3 = 1 ∨ s.f3 = -1) ∧ s.f4 = 0) ∨ (s.f2 = 0 ∧ s.f3 = 0 ∧ (s.f4 = 1 ∨ s.f4 = -1))

/-- What is so of each way. -/
def WOk (n : Int) (w : Wy) : Prop := 1 ≤ w.1.length ∧ (w.1.length : Int) ≤ n ∧ 0 ≤ sumH w.1 ∧ sumH w.1 ≤ 1440 * w.1.length ∧ dirOk (hd w)

theorem chg_ab {a m : S50} : (20 * (ab (m.f1 - a.f1) + ab (m.f2 - a.f2) + ab (m.f3 - a.f3)) = 0 ↔ chg a m = 0) := by
  unfold chg ab
  split <;> split <;> split <;> split <;> split <;> split <;> omega
theorem chg_sg {a m : S50} : ab (sg (m.f1 - a.f1)) + ab (sg (m.f2 - a.f2)) + ab (sg (m.f3 - a.f3)) = chg a m := by
  have one : ∀ x y : Int, ab (sg (x - y)) = if y = x then 0 else 1 := fun x y => by
    unfold ab sg
    split <;> split <;> (try split) <;> (try split) <;> omega
  unfold chg
  rw [one, one, one]
theorem ab_le {n : Int} (h : -24 ≤ n) (h2 : n ≤ 24) : 0 ≤ ab n ∧ ab n ≤ 24 := by unfold ab; split <;> omega
theorem sg_le {n : Int} : -1 ≤ sg n ∧ sg n ≤ 1 := by unfold sg; split <;> (try split) <;> omega
theorem sg_zero {n : Int} : sg n = 0 ↔ n = 0 := by unfold sg; split <;> (try split) <;> omega

theorem dirOk_of {a m : S50} {i : Int} (h : chg a m = 1) : dirOk (mkS i a m) := by
  unfold chg at h
  unfold dirOk mkS
  have s1 := sg_le (n := m.f1 - a.f1)
  have s2 := sg_le (n := m.f2 - a.f2)
  have s3 := sg_le (n := m.f3 - a.f3)
  have z1 := sg_zero (n := m.f1 - a.f1)
  have z2 := sg_zero (n := m.f2 - a.f2)
  have z3 := sg_zero (n := m.f3 - a.f3)
  dsimp only
  generalize sg (m.f1 - a.f1) = x at *
  generalize sg (m.f2 - a.f2) = y at *
  generalize sg (m.f3 - a.f3) = z at *
  split at h <;> split at h <;> split at h <;> omega

theorem hd_app {w : List S76} {f : S50} {s : S76} (h : 1 ≤ w.length) : hd (w ++ [s], f) = hd (w, f) := by
  unfold hd
  cases w with
  | nil => simp at h
  | cons x r => rfl

theorem mem_last {acc : List Wy} (h : acc.length > 0) : lastW acc ∈ acc := by
  unfold lastW
  rw [getD_lt (by omega)]
  exact List.getElem_mem _

theorem wok_add {acc : List Wy} {n i : Int} {a m : S50} (h : ∀ w ∈ acc, WOk n w) (hn : 0 ≤ n) (hc : chg a m = 1) (ha : InG a) (hm : InG m) : ∀ w ∈ addW acc (mkS i a m) a, WOk (n + 1) w := by
  obtain ⟨a1, a2, a3, a4, a5, a6⟩ := ha
  obtain ⟨m1, m2, m3, m4, m5, m6⟩ := hm
  have b1 := ab_le (n := m.f1 - a.f1) (by omega) (by omega)
  have b2 := ab_le (n := m.f2 - a.f2) (by omega) (by omega)
  have b3 := ab_le (n := m.f3 - a.f3) (by omega) (by omega)
  have hh : 0 ≤ (mkS i a m).f5 ∧ (mkS i a m).f5 ≤ 1440 := by unfold mkS; dsimp only; omega
  intro w hw
  unfold addW at hw
  split at hw
  · rename_i hl
    rcases List.mem_or_eq_of_mem_set hw with hw | rfl
    · obtain ⟨h1, h2, h3, h4, h5⟩ := h w hw
      exact ⟨h1, by omega, h3, h4, h5⟩
    · obtain ⟨h1, h2, h3, h4, h5⟩ := h _ (mem_last hl.1)
      refine ⟨by simp, by simp; omega, ?_, ?_, by rw [hd_app h1]; exact h5⟩
      · simp only [sumH_app, sumH]; omega
      · simp only [sumH_app, sumH, List.length_append, List.length_singleton]
        have : (((lastW acc).1.length + 1 : Nat) : Int) = (lastW acc).1.length + 1 := by omega
        rw [this]; omega
  · rcases List.mem_append.1 hw with hw | hw
    · obtain ⟨h1, h2, h3, h4, h5⟩ := h w hw
      exact ⟨h1, by omega, h3, h4, h5⟩
    · simp only [List.mem_singleton] at hw
      subst hw
      refine ⟨by simp, by simp; omega, by simp [sumH]; omega, by simp [sumH]; omega, dirOk_of hc⟩

theorem wok_more {acc : List Wy} {n : Int} (h : ∀ w ∈ acc, WOk n w) : ∀ w ∈ acc, WOk (n + 1) w := fun w hw => by
  obtain ⟨h1, h2, h3, h4, h5⟩ := h w hw
  exact ⟨h1, by omega, h3, h4, h5⟩

theorem addW_len {acc : List Wy} {s : S76} {a : S50} : (addW acc s a).length ≤ acc.length + 1 := by
  unfold addW; split <;> simp

theorem chg_nn {a m : S50} : 0 ≤ chg a m := by unfold chg; split <;> split <;> split <;> omega

theorem map_getD {α β : Type} {f : α → β} {l : List α} {i : Nat} {d : α} {e : β} (h : i < l.length) : (l.map f).getD i e = f (l.getD i d) := by simp [List.getD, h]

def lastL (wl : List (List S76)) : List S76 := wl.getD (wl.length - 1) []
def addL (wl : List (List S76)) (s : S76) : List (List S76) :=
  if wl.length > 0 ∧ like ((lastL wl).getD 0 z76) s = true then wl.set (wl.length - 1) (lastL wl ++ [s]) else wl ++ [[s]]

theorem addW_map {acc : List Wy} {s : S76} {a : S50} : (addW acc s a).map (·.1) = addL (acc.map (·.1)) s := by
  unfold addW addL
  have hml : (acc.map (fun w : Wy => w.1)).length = acc.length := List.length_map _
  by_cases h0 : acc.length > 0
  · have hgl : lastL (acc.map (fun w : Wy => w.1)) = (lastW acc).1 := by
      unfold lastL; rw [hml]; exact map_getD (f := fun (w : Wy) => w.1) (d := ([], z50)) (by omega)
    have he : hd (lastW acc) = (lastL (acc.map (fun w : Wy => w.1))).getD 0 z76 := by rw [hgl]; rfl
    rw [he, hml, hgl]
    split
    · rw [List.map_set]
    · rw [List.map_append]; rfl
  · rw [if_neg (fun h => h0 h.1), if_neg (fun h => h0 (by rw [hml] at h; exact h.1)), List.map_append]; rfl

theorem F25.l2_step {v1 v2 : Int} {r0 : List S50} {i : Nat} {a b m : S50} {wl : List (List S76)} (hi : i < r0.length) (hn : r0.length ≤ 2000) (hg : r0.getD i z50 = m) (ha : InG a) (hm : InG m) (e1 : b.f1 = a.f1) (e2 : b.f2 = a.f2) (e3 : b.f3 = a.f3)
    (hwl : wl.length ≤ 2000) (hw : wl.length > 0 → 1 ≤ (lastL wl).length ∧ (lastL wl).length ≤ 2000) :
    F25.l2.b (v1, v2, (r0.length : Int), (i : Int), b.f0, b.f1, b.f2, b.f3, r0, wl) =
      if chg a m > 1 then some (.inr (.inl 13)) else if chg a m = 0 then some (.inl (v1, v2, (r0.length : Int), (i : Int) + 1, m.f0, m.f1, m.f2, m.f3, r0, wl)) else some (.inl (v1, v2, (r0.length : Int), (i : Int) + 1, m.f0, m.f1, m.f2, m.f3, r0, addL wl (mkS i a m))) := by
  obtain ⟨a1, a2, a3, a4, a5, a6⟩ := ha
  obtain ⟨m1, m2, m3, m4, m5, m6⟩ := hm
  have b1 := ab_le (n := m.f1 - a.f1) (by omega) (by omega)
  have b2 := ab_le (n := m.f2 - a.f2) (by omega) (by omega)
  have b3 := ab_le (n := m.f3 - a.f3) (by omega) (by omega)
  have s1 := sg_le (n := m.f1 - a.f1)
  have s2 := sg_le (n := m.f2 - a.f2)
  have s3 := sg_le (n := m.f3 - a.f3)
  have c1 := ab_le (n := sg (m.f1 - a.f1)) (by omega) (by omega)
  have c2 := ab_le (n := sg (m.f2 - a.f2)) (by omega) (by omega)
  have c3 := ab_le (n := sg (m.f3 - a.f3)) (by omega) (by omega)
  have hcs := chg_sg (a := a) (m := m)
  have hca := chg_ab (a := a) (m := m)
  have w1 : IntKind.wrap .i64 (m.f1 - a.f1) = m.f1 - a.f1 := w64 (by omega) (by omega)
  have w2 : IntKind.wrap .i64 (m.f2 - a.f2) = m.f2 - a.f2 := w64 (by omega) (by omega)
  have w3 : IntKind.wrap .i64 (m.f3 - a.f3) = m.f3 - a.f3 := w64 (by omega) (by omega)
  have w4 : IntKind.wrap .i64 (ab (sg (m.f1 - a.f1)) + ab (sg (m.f2 - a.f2))) = ab (sg (m.f1 - a.f1)) + ab (sg (m.f2 - a.f2)) := w64 (by omega) (by omega)
  have w5 : IntKind.wrap .i64 (ab (sg (m.f1 - a.f1)) + ab (sg (m.f2 - a.f2)) + ab (sg (m.f3 - a.f3))) = chg a m := by rw [w64 (by omega) (by omega), hcs]
  have w6 : IntKind.wrap .i64 (ab (m.f1 - a.f1) + ab (m.f2 - a.f2)) = ab (m.f1 - a.f1) + ab (m.f2 - a.f2) := w64 (by omega) (by omega)
  have w7 : IntKind.wrap .i64 (ab (m.f1 - a.f1) + ab (m.f2 - a.f2) + ab (m.f3 - a.f3)) = ab (m.f1 - a.f1) + ab (m.f2 - a.f2) + ab (m.f3 - a.f3) := w64 (by omega) (by omega)
  have w8 : IntKind.wrap .i64 (20 * (ab (m.f1 - a.f1) + ab (m.f2 - a.f2) + ab (m.f3 - a.f3))) = 20 * (ab (m.f1 - a.f1) + ab (m.f2 - a.f2) + ab (m.f3 - a.f3)) := w64 (by omega) (by omega)
  have f1 := F36.ok (n := m.f1 - a.f1) (by omega) (by omega)
  have f2 := F36.ok (n := m.f2 - a.f2) (by omega) (by omega)
  have f3 := F36.ok (n := m.f3 - a.f3) (by omega) (by omega)
  have f4 := F36.ok (n := sg (m.f1 - a.f1)) (by omega) (by omega)
  have f5 := F36.ok (n := sg (m.f2 - a.f2)) (by omega) (by omega)
  have f6 := F36.ok (n := sg (m.f3 - a.f3)) (by omega) (by omega)
  have d1 : decide ((i : Int) < (r0.length : Int)) = true := dT (by omega)
  have d2 : decide ((0 : Int) ≤ (i : Int)) = true := dT (by omega)
  have w9 : IntKind.wrap .i64 ((i : Int) + 1) = (i : Int) + 1 := w64 (by omega) (by omega)
  clear b1 b2 b3 s1 s2 s3 c1 c2 c3 a1 a2 a3 a4 a5 a6 m1 m2 m3 m4 m5 m6
  simp only [F25.l2.b, hg, e1, e2, e3, d1, d2, Bool.and_self, cT, Int.toNat_natCast, bS, F35.ok, f1, f2, f3, f4, f5, f6, w1, w2, w3, w4, w5, w6, w7, w8, w9]
  by_cases hc : chg a m > 1
  · rw [if_pos hc, dT hc, cT]
  · rw [if_neg hc, dF hc]
    by_cases hz : chg a m = 0
    · rw [if_pos hz, qT (hca.2 hz), cF, cT]
    · rw [if_neg hz, qF (fun h => hz (hca.1 h))]
      simp only [cF, F25.t29]
      have happ : decide (wl.length + [[(⟨(i : Int), m.f0, sg (m.f1 - a.f1), sg (m.f2 - a.f2), sg (m.f3 - a.f3), 20 * (ab (m.f1 - a.f1) + ab (m.f2 - a.f2) + ab (m.f3 - a.f3))⟩ : S76)]].length ≤ 274877906944) = true := dT (by simp only [List.length_singleton]; omega)
      by_cases h0 : wl.length > 0
      · obtain ⟨hl1, hl2⟩ := hw h0
        have g1 : decide ((wl.length : Int) > 0) = true := dT (by omega)
        have g2 : IntKind.wrap .i64 ((wl.length : Int) - 1) = ((wl.length - 1 : Nat) : Int) := by rw [w64 (by omega) (by omega)]; omega
        have g3 : decide ((0 : Int) ≤ ((wl.length - 1 : Nat) : Int)) = true := dT (by omega)
        have g4 : decide (((wl.length - 1 : Nat) : Int) < (wl.length : Int)) = true := dT (by omega)
        have g5 : wl.getD (wl.length - 1) [] = lastL wl := rfl
        have g6 : decide ((0 : Int) < ((lastL wl).length : Int)) = true := dT (by omega)
        have g8 : decide ((lastL wl).length + [(⟨(i : Int), m.f0, sg (m.f1 - a.f1), sg (m.f2 - a.f2), sg (m.f3 - a.f3), 20 * (ab (m.f1 - a.f1) + ab (m.f2 - a.f2) + ab (m.f3 - a.f3))⟩ : S76)].length ≤ 274877906944) = true := dT (by simp only [List.length_singleton]; omega)
        simp only [g1, g2, g3, g4, g5, g6, g8, happ, Nat.le_refl, decide_true, Bool.true_and, Bool.and_self, cT, Int.toNat_natCast, Int.toNat_zero, bS, w9]
        unfold addL
        cases hlk : like ((lastL wl).getD 0 z76) (mkS i a m) with
        | true =>
          rw [if_pos ⟨h0, rfl⟩]
          unfold like mkS at hlk
          simp only [hlk, cT, mkS]
        | false =>
          rw [if_neg (fun h => by simp at h)]
          unfold like mkS at hlk
          simp only [hlk, cF, mkS]
      · have g1 : decide ((wl.length : Int) > 0) = false := dF (by omega)
        simp only [g1, happ, cT, cF, bS, w9]
        unfold addL
        rw [if_neg (fun h => h0 h.1)]; simp only [mkS]

theorem chg_zero {a m : S50} (h : chg a m = 0) : m.f1 = a.f1 ∧ m.f2 = a.f2 ∧ m.f3 = a.f3 := by
  unfold chg at h; split at h <;> split at h <;> split at h <;> omega

theorem F25.l2_ok (v1 v2 : Int) : ∀ (r pre : List S50) (a b : S50) (acc : List Wy), (pre ++ r).length ≤ 2000 → InG a → (∀ m ∈ r, InG m) → b.f1 = a.f1 → b.f2 = a.f2 → b.f3 = a.f3 → acc.length ≤ pre.length → (∀ w ∈ acc, WOk pre.length w) →
    F25.l2 (v1, v2, ((pre ++ r).length : Int), (pre.length : Int), b.f0, b.f1, b.f2, b.f3, pre ++ r, acc.map (·.1)) = some (if chk b r then .inr (v1, v2, pre ++ r, (bld r pre.length a acc).map (·.1)) else .inl 13)
  | [], pre, a, b, acc, h, ha, hr, e1, e2, e3, hl, hw => by
    unfold F25.l2
    rw [lim_out (y := .inr (v1, v2, pre ++ [], acc.map (·.1)))]
    · simp [chk, bld]
    · simp (disch := omega) only [F25.l2.b, List.append_nil, dF, cF]
  | m :: r, pre, a, b, acc, h, ha, hr, e1, e2, e3, hl, hw => by
    have hlen : (pre ++ m :: r).length = pre.length + r.length + 1 := by simp; omega
    have hg : (pre ++ m :: r).getD pre.length z50 = m := at_app rfl
    have hm : InG m := hr m (by simp)
    have hce : chg b m = chg a m := by unfold chg; rw [e1, e2, e3]
    have hcn := chg_nn (a := a) (m := m)
    have hml : (acc.map (fun w : Wy => w.1)).length = acc.length := List.length_map _
    have hst := F25.l2_step (v1 := v1) (v2 := v2) (r0 := pre ++ m :: r) (i := pre.length) (wl := acc.map (fun w : Wy => w.1)) (by omega) h hg ha hm e1 e2 e3 (by omega) fun h0 => by
      have : lastL (acc.map (fun w : Wy => w.1)) = (lastW acc).1 := by
        unfold lastL; rw [hml]; exact map_getD (f := fun (w : Wy) => w.1) (d := ([], z50)) (by omega)
      rw [this]
      have := hw _ (mem_last (acc := acc) (by omega))
      unfold WOk at this
      omega
    unfold F25.l2
    by_cases hc : chg a m ≤ 1
    · rw [if_neg (by omega)] at hst
      by_cases hz : chg a m = 0
      · rw [if_pos hz] at hst
        obtain ⟨z1, z2, z3⟩ := chg_zero hz
        have ih := F25.l2_ok v1 v2 r (pre ++ [m]) a m acc (by simpa using h) ha (fun x hx => hr x (by simp [hx])) z1 z2 z3 (by simp; omega) (by simpa using wok_more hw)
        rw [lim_in hst]
        unfold F25.l2 at ih
        simp only [List.append_assoc, List.singleton_append, List.length_append, List.length_singleton] at ih
        simp only [List.length_append]
        simp only [chk, hce, decide_eq_true hc, Bool.true_and, bld, if_pos hz]
        exact ih
      · rw [if_neg hz] at hst
        have h1 : chg a m = 1 := by omega
        have hl2 := addW_len (acc := acc) (s := mkS pre.length a m) (a := a)
        have ih := F25.l2_ok v1 v2 r (pre ++ [m]) m m (addW acc (mkS pre.length a m) a) (by simpa using h) hm (fun x hx => hr x (by simp [hx])) rfl rfl rfl (by simp; omega) (by simpa using wok_add hw (by omega) h1 ha hm)
        rw [lim_in hst]
        unfold F25.l2 at ih
        simp only [List.append_assoc, List.singleton_append, List.length_append, List.length_singleton, addW_map] at ih
        simp only [List.length_append]
        simp only [chk, hce, decide_eq_true hc, Bool.true_and, bld, if_neg hz]
        exact ih
    · rw [if_pos (by omega)] at hst
      rw [lim_out hst]
      simp [chk, hce, hc]

end Go.Proofs.Ytpingihfadihfaa.AX

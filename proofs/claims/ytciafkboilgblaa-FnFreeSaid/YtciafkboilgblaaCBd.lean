/- The function 44 of the program in the small machine. No conditions. -/
import Derived.KernelRfl
import Derived.Test.YtciafkboilgblaaRows
import Derived.WalkKit
import Derived.ProofKit
import Derived.OpenShut
import Derived.ShutString
import Derived.ChangeOld
import Derived.Below
import Derived.SizedLaws
import Derived.Test.YtciafkboilgblaaCBc
set_option linter.unusedVariables false
set_option linter.unusedSimpArgs false
set_option linter.unusedSectionVars false
namespace Go.Proofs.Ytciafkboilgblaa.AX.F44
open Go Go.Proofs.Try
noncomputable def code : Code := bodyOf f44
abbrev Y : Type := (List S85)
def cp : Cod uni ((Int × (List S31)) × (List Int) × Int) := (codC (iAgg (codC (iInt .i64) (cod1 (iRow 1)))) (codC (iRow 2) (cod1 (iInt .i64))))
def cr : Coz uni (List S85) := (cozR (cod1 (iRow 9)) (codD (codD (codD cod0))))
noncomputable def es : List (Ent prog uni) := []
theorem get : prog.funcs[44]? = some f44 := by kernel_rfl

def l0.A : Ann := ⟨[(1, .slc 5000064 []), (2, .sc), (3, .box 5000192 0), (7, .sc), (8, .slc 5000512 []), (9, .sc)], [(5000192, 25, [.sc, .slc 5000203 []])], [(5000064, false, 2), (5000512, true, 9), (5000203, false, 1)], []⟩
def l0.c : Cod uni (Int × Int × Int × Int × (List Int) × (List S85) × (List S31)) := (codC (iInt .i64) (codC (iInt .i64) (codC (iInt .i64) (codC (iInt .i64) (codC (iRow 2) (codC (iRow 9) (cod1 (iRow 1))))))))
def l0.xs : List (AExit × Ann) := [((.exit 0), ⟨[(1, .slc 5000064 []), (2, .sc), (3, .box 5000192 0), (7, .sc), (8, .slc 5000512 [])], [(5000192, 25, [.sc, .slc 5000203 []])], [(5000064, false, 2), (5000512, true, 9), (5000203, false, 1)], []⟩)]
def l0.y : Coy uni ((Int × Int × Int × (List Int) × (List S85) × (List S31))) := (coy1 (codC (iInt .i64) (codC (iInt .i64) (codC (iInt .i64) (codC (iRow 2) (codC (iRow 9) (cod1 (iRow 1))))))))
noncomputable def l0.b : Int × Int × Int × Int × (List Int) × (List S85) × (List S31) → Option ((Int × Int × Int × Int × (List Int) × (List S85) × (List S31)) ⊕ ((Int × Int × Int × (List Int) × (List S85) × (List S31))))
  | (v2, v7, v9, b192_0, r64, r512, r203) =>
  cond (decide (v9 < v7)) (
   let x0 := ((⟨v7, v9, 0⟩ : S85) :: ((⟨v9, v7, (-100000)⟩ : S85) :: []))
   cond (decide (((List.length r512) + (List.length x0)) ≤ 274877906944)) (
    some (.inl (v2, v7, (Go.IntKind.wrap (Go.IntKind.i64 ) (v9 + 1)), b192_0, r64, (r512 ++ x0), r203))) none) (
   some (.inr (v2, v7, b192_0, r64, r512, r203)))
noncomputable def l0 (x : Int × Int × Int × Int × (List Int) × (List S85) × (List S31)) : Option ((Int × Int × Int × (List Int) × (List S85) × (List S31))) := lim l0.b x
theorem l0.eq : ∀ x, l0.b x = roundX (mkE tab es 120 [] []) (loopAt 0 code) (cutOf l0.A l0.c) (cutsOf l0.xs l0.y) x := fun x => by kernel_rfl
theorem l0.owed {R : Type} : owed (mkE (R := R) tab es 120 [] []) (loopAt 0 code) = [] := by kernel_rfl
theorem l0.ok (w0 : World) (M : Own) (h : Pinned M []) {R : Type} : SoundO prog w0 M 120 (.block 0 (.loop (loopAt 0 code))) (loopO (R := R) 0 (cutOf l0.A l0.c) (cutsOf l0.xs l0.y) l0) :=
  loop_ok tabOk uniOk mixed l0.eq (h.sub rfl) (h.sub rfl) fun x hx => by rw [l0.owed] at hx; exact absurd hx List.not_mem_nil

def l2.A : Ann := ⟨[(1, .slc 5000064 []), (2, .sc), (3, .box 5000192 0), (7, .sc), (8, .slc 5000512 []), (10, .sc)], [(5000192, 25, [.sc, .slc 5000203 []])], [(5000064, false, 2), (5000512, true, 9), (5000203, false, 1)], []⟩
def l2.c : Cod uni (Int × Int × Int × Int × (List Int) × (List S85) × (List S31)) := (codC (iInt .i64) (codC (iInt .i64) (codC (iInt .i64) (codC (iInt .i64) (codC (iRow 2) (codC (iRow 9) (cod1 (iRow 1))))))))
def l2.xs : List (AExit × Ann) := [((.exit 2), ⟨[(8, .slc 5000512 [])], [], [(5000512, true, 9)], []⟩)]
def l2.y : Coy uni ((List S85)) := (coy1 (cod1 (iRow 9)))
noncomputable def l2.b : Int × Int × Int × Int × (List Int) × (List S85) × (List S31) → Option ((Int × Int × Int × Int × (List Int) × (List S85) × (List S31)) ⊕ ((List S85)))
  | (v2, v7, v10, b192_0, r64, r512, r203) =>
  let x11 := (decide (v10 < ((List.length r64) : Int)))
  cond x11 (
   cond ((decide (0 ≤ v10)) && x11) (
    let x12 := (List.getD r64 (Int.toNat v10) 0)
    cond ((decide (0 ≤ x12)) && (decide (x12 < ((List.length r203) : Int)))) (
     let x9 := (List.getD r203 (Int.toNat x12) z31)
     let x8 := (Go.IntKind.wrap (Go.IntKind.i64 ) (0 - x9.f3))
     let x10 := (Go.IntKind.wrap (Go.IntKind.i64 ) (v10 + 1))
     cond (x9.f0 == (Go.IntKind.wrap (Go.IntKind.i64 ) (1 + v2))) (
      let x2 := ((⟨v7, x9.f1, x9.f3⟩ : S85) :: ((⟨x9.f1, v7, x8⟩ : S85) :: []))
      cond (decide (((List.length r512) + (List.length x2)) ≤ 274877906944)) (
       some (.inl (v2, v7, x10, b192_0, r64, (r512 ++ x2), r203))) none) (
      let x6 := (⟨x9.f1, x9.f2, x9.f3⟩ : S85)
      cond (x9.f0 == (Go.IntKind.wrap (Go.IntKind.i64 ) (3 + v2))) (
       let x0 := (x6 :: ((⟨x9.f2, x9.f1, x8⟩ : S85) :: []))
       cond (decide (((List.length r512) + (List.length x0)) ≤ 274877906944)) (
        some (.inl (v2, v7, x10, b192_0, r64, (r512 ++ x0), r203))) none) (
       cond (x9.f0 == (Go.IntKind.wrap (Go.IntKind.i64 ) (5 + v2))) (
        let x5 := (x6 :: [])
        cond (decide (((List.length r512) + (List.length x5)) ≤ 274877906944)) (
         some (.inl (v2, v7, x10, b192_0, r64, (r512 ++ x5), r203))) none) (
        let x4 := ((⟨x9.f1, x9.f2, 0⟩ : S85) :: ((⟨x9.f2, x9.f1, 0⟩ : S85) :: []))
        let x1 := (decide (((List.length r512) + (List.length x4)) ≤ 274877906944))
        let x3 := (r512 ++ x4)
        let x7 := (x9.f0 == (Go.IntKind.wrap (Go.IntKind.i64 ) (7 + v2)))
        cond x7 (
         cond x7 (
          cond x1 (
           some (.inl (v2, v7, x10, b192_0, r64, x3, r203))) none) (
          some (.inl (v2, v7, x10, b192_0, r64, r512, r203)))) (
         cond (x9.f0 == 9) (
          cond x1 (
           some (.inl (v2, v7, x10, b192_0, r64, x3, r203))) none) (
          some (.inl (v2, v7, x10, b192_0, r64, r512, r203)))))))) none) none) (
   some (.inr r512))
noncomputable def l2 (x : Int × Int × Int × Int × (List Int) × (List S85) × (List S31)) : Option ((List S85)) := lim l2.b x
theorem l2.eq : ∀ x, l2.b x = roundX (mkE tab es 120 [] []) (loopAt 2 code) (cutOf l2.A l2.c) (cutsOf l2.xs l2.y) x := fun x => by kernel_rfl
theorem l2.owed {R : Type} : owed (mkE (R := R) tab es 120 [] []) (loopAt 2 code) = [] := by kernel_rfl
theorem l2.ok (w0 : World) (M : Own) (h : Pinned M []) {R : Type} : SoundO prog w0 M 120 (.block 2 (.loop (loopAt 2 code))) (loopO (R := R) 2 (cutOf l2.A l2.c) (cutsOf l2.xs l2.y) l2) :=
  loop_ok tabOk uniOk mixed l2.eq (h.sub rfl) (h.sub rfl) fun x hx => by rw [l2.owed] at hx; exact absurd hx List.not_mem_nil

noncomputable def F : ((Int × (List S31)) × (List Int) × Int) → Option ((List S85))
  | ((p0_0, p0_1), p1, p2) =>
  (l0 (p2, p0_0, 0, p0_0, p1, ([] : List S85), p0_1)).bind fun yl0 =>
  (l2 (yl0.1, yl0.2.1, 0, yl0.2.2.1, yl0.2.2.2.1, yl0.2.2.2.2.1, yl0.2.2.2.2.2)).bind fun yl2 =>
  some yl2
theorem F.eq : ∀ x, F x = runF (mkE tab es 120 [(0, some (loopO 0 (cutOf l0.A l0.c) (cutsOf l0.xs l0.y) l0)), (2, some (loopO 2 (cutOf l2.A l2.c) (cutsOf l2.xs l2.y) l2))] []) code [.agg [.sc, .row 1 0], .row 2 0, .sc] [.row 9] [.tmp 6] (Coz.dec cr) (cp.enc x) := fun x => by kernel_rfl
theorem F.owed : owed (mkE (R := (List S85)) tab es 120 [(0, some (loopO 0 (cutOf l0.A l0.c) (cutsOf l0.xs l0.y) l0)), (2, some (loopO 2 (cutOf l2.A l2.c) (cutsOf l2.xs l2.y) l2))] []) code = [((.block 0 (.loop (loopAt 0 code))), (loopO (R := _) 0 (cutOf l0.A l0.c) (cutsOf l0.xs l0.y) l0)), ((.block 2 (.loop (loopAt 2 code))), (loopO (R := _) 2 (cutOf l2.A l2.c) (cutsOf l2.xs l2.y) l2))] := by kernel_rfl
theorem con : ∀ x y, F x = some y → Con prog 44 [.agg [.sc, .row 1 0], .row 2 0, .sc] [.row 9] (cp.enc x) (cr.enc y).1 (cr.enc y).2 :=
  func_ok (c := code) (n := 120) (pf := [.agg [.sc, .row 1 0], .row 2 0, .sc]) (res := [.tmp 6]) tabOk uniOk mixed get (by kernel_rfl) (by kernel_rfl) (by kernel_rfl) (by decide) F.eq fun w0 M h x hx => by rw [F.owed] at hx; rcases List.mem_cons.1 hx with rfl | hx; exact l0.ok w0 M h; rcases List.mem_cons.1 hx with rfl | hx; exact l2.ok w0 M h; exact absurd hx List.not_mem_nil
noncomputable def ent : Ent prog uni := Ent.of 44 [.agg [.sc, .row 1 0], .row 2 0, .sc] [.row 9] cp cr F con fun args w => enters_of get (by kernel_rfl) rfl args w
end Go.Proofs.Ytciafkboilgblaa.AX.F44

/- The function 37 of the program in the small machine. No conditions. -/
namespace Go.Proofs.Ytciafkboilgblaa.AX.F37
open Go Go.Proofs.Try
noncomputable def code : Code := bodyOf f37
abbrev Y : Type := ((List Int) × Bool)
def cp : Cod uni ((Int × (List S31)) × (List Int) × Int) := (codC (iAgg (codC (iInt .i64) (cod1 (iRow 1)))) (codC (iRow 2) (cod1 (iInt .i64))))
def cr : Coz uni ((List Int) × Bool) := (cozR (codC (iRow 2) (cod1 iBool)) (codD (codD (codD cod0))))
noncomputable def es : List (Ent prog uni) := [F44.ent]
theorem get : prog.funcs[37]? = some f37 := by kernel_rfl

def l2.A : Ann := ⟨[(3, .box 5000192 0), (8, .slc 5000512 []), (9, .slc 5000576 []), (10, .sc), (11, .sc), (12, .sc)], [(5000192, 25, [.sc, .slc 5000203 []])], [(5000512, true, 9), (5000576, true, 2), (5000203, false, 1)], []⟩
def l2.c : Cod uni (Int × Bool × Int × Int × (List S85) × (List Int) × (List S31)) := (codC (iInt .i64) (codC iBool (codC (iInt .i64) (codC (iInt .i64) (codC (iRow 9) (codC (iRow 2) (cod1 (iRow 1))))))))
def l2.xs : List (AExit × Ann) := [((.exit 2), ⟨[(3, .box 5000192 0), (8, .slc 5000512 []), (9, .slc 5000576 []), (10, .sc), (11, .sc)], [(5000192, 25, [.sc, .slc 5000203 []])], [(5000512, true, 9), (5000576, true, 2), (5000203, false, 1)], []⟩)]
def l2.y : Coy uni ((Int × Bool × Int × (List S85) × (List Int) × (List S31))) := (coy1 (codC (iInt .i64) (codC iBool (codC (iInt .i64) (codC (iRow 9) (codC (iRow 2) (cod1 (iRow 1))))))))
noncomputable def l2.b : Int × Bool × Int × Int × (List S85) × (List Int) × (List S31) → Option ((Int × Bool × Int × Int × (List S85) × (List Int) × (List S31)) ⊕ ((Int × Bool × Int × (List S85) × (List Int) × (List S31))))
  | (v10, v11, v12, b192_0, r512, r576, r203) =>
  let x5 := (decide (v12 < ((List.length r512) : Int)))
  cond x5 (
   let x2 := ((decide (0 ≤ v12)) && x5)
   cond x2 (
    let x6 := (List.getD r512 (Int.toNat v12) z85)
    let x7 := ((List.length r576) : Int)
    cond ((decide (0 ≤ x6.f0)) && (decide (x6.f0 < x7))) (
     cond x2 (
      cond x2 (
       let x1 := ((decide (0 ≤ x6.f1)) && (decide (x6.f1 < x7)))
       cond x1 (
        let x0 := (Go.IntKind.wrap (Go.IntKind.i64 ) ((List.getD r576 (Int.toNat x6.f0) 0) + x6.f2))
        let x3 := (Int.toNat x6.f1)
        let x4 := (Go.IntKind.wrap (Go.IntKind.i64 ) (v12 + 1))
        cond (decide (x0 > (List.getD r576 x3 0))) (
         cond x2 (
          cond x1 (
           some (.inl (v10, true, x4, b192_0, r512, (List.set r576 x3 x0), r203))) none) none) (
         some (.inl (v10, v11, x4, b192_0, r512, r576, r203)))) none) none) none) none) none) (
   some (.inr (v10, v11, b192_0, r512, r576, r203)))
noncomputable def l2 (x : Int × Bool × Int × Int × (List S85) × (List Int) × (List S31)) : Option ((Int × Bool × Int × (List S85) × (List Int) × (List S31))) := lim l2.b x
theorem l2.eq : ∀ x, l2.b x = roundX (mkE tab es 77 [] []) (loopAt 2 code) (cutOf l2.A l2.c) (cutsOf l2.xs l2.y) x := fun x => by kernel_rfl
theorem l2.owed {R : Type} : owed (mkE (R := R) tab es 77 [] []) (loopAt 2 code) = [] := by kernel_rfl
theorem l2.ok (w0 : World) (M : Own) (h : Pinned M []) {R : Type} : SoundO prog w0 M 77 (.block 2 (.loop (loopAt 2 code))) (loopO (R := R) 2 (cutOf l2.A l2.c) (cutsOf l2.xs l2.y) l2) :=
  loop_ok tabOk uniOk mixed l2.eq (h.sub rfl) (h.sub rfl) fun x hx => by rw [l2.owed] at hx; exact absurd hx List.not_mem_nil

def l0.A : Ann := ⟨[(3, .box 5000192 0), (8, .slc 5000512 []), (9, .slc 5000576 []), (10, .sc)], [(5000192, 25, [.sc, .slc 5000203 []])], [(5000512, true, 9), (5000576, true, 2), (5000203, false, 1)], []⟩
def l0.c : Cod uni (Int × Int × (List S85) × (List Int) × (List S31)) := (codC (iInt .i64) (codC (iInt .i64) (codC (iRow 9) (codC (iRow 2) (cod1 (iRow 1))))))
def l0.xs : List (AExit × Ann) := [(.ret, ⟨[(6, .slc 5000384 []), (7, .sc)], [], [(5000384, true, 2)], []⟩), ((.exit 0), ⟨[(9, .slc 5000576 [])], [], [(5000576, true, 2)], []⟩)]
def l0.y : Coy uni ((Bool × (List Int)) ⊕ (List Int)) := (coyS (codC iBool (cod1 (iRow 2))) (coy1 (cod1 (iRow 2))))
noncomputable def l0.b : Int × Int × (List S85) × (List Int) × (List S31) → Option ((Int × Int × (List S85) × (List Int) × (List S31)) ⊕ ((Bool × (List Int)) ⊕ (List Int)))
  | (v10, b192_0, r512, r576, r203) =>
  cond (decide (v10 ≤ (Go.IntKind.wrap (Go.IntKind.i64 ) (b192_0 + 1)))) (
   (l2 (v10, false, 0, b192_0, r512, r576, r203)).bind fun yl2 =>
   cond (!yl2.2.1) (
    cond ((decide (0 ≤ yl2.2.2.1)) && (decide (yl2.2.2.1 < ((List.length yl2.2.2.2.2.1) : Int)))) (
     some (.inr (.inl (((List.getD yl2.2.2.2.2.1 (Int.toNat yl2.2.2.1) 0) == 0), yl2.2.2.2.2.1)))) none) (
    some (.inl ((Go.IntKind.wrap (Go.IntKind.i64 ) (yl2.1 + 1)), yl2.2.2.1, yl2.2.2.2.1, yl2.2.2.2.2.1, yl2.2.2.2.2.2)))) (
   some (.inr (.inr r576)))
noncomputable def l0 (x : Int × Int × (List S85) × (List Int) × (List S31)) : Option ((Bool × (List Int)) ⊕ (List Int)) := lim l0.b x
theorem l0.eq : ∀ x, l0.b x = roundX (mkE tab es 77 [(2, some (loopO 2 (cutOf l2.A l2.c) (cutsOf l2.xs l2.y) l2))] []) (loopAt 0 code) (cutOf l0.A l0.c) (cutsOf l0.xs l0.y) x := fun x => by kernel_rfl
theorem l0.owed {R : Type} : owed (mkE (R := R) tab es 77 [(2, some (loopO 2 (cutOf l2.A l2.c) (cutsOf l2.xs l2.y) l2))] []) (loopAt 0 code) = [((.block 2 (.loop (loopAt 2 code))), (loopO (R := _) 2 (cutOf l2.A l2.c) (cutsOf l2.xs l2.y) l2))] := by kernel_rfl
theorem l0.ok (w0 : World) (M : Own) (h : Pinned M []) {R : Type} : SoundO prog w0 M 77 (.block 0 (.loop (loopAt 0 code))) (loopO (R := R) 0 (cutOf l0.A l0.c) (cutsOf l0.xs l0.y) l0) :=
  loop_ok tabOk uniOk mixed l0.eq (h.sub rfl) (h.sub rfl) fun x hx => by rw [l0.owed] at hx; rcases List.mem_cons.1 hx with rfl | hx; exact l2.ok w0 M h; exact absurd hx List.not_mem_nil

noncomputable def F : ((Int × (List S31)) × (List Int) × Int) → Option (((List Int) × Bool))
  | ((p0_0, p0_1), p1, p2) =>
  (F44.F ((p0_0, p0_1), (p1, p2))).bind fun y44 =>
  let x0 := (Go.IntKind.wrap (Go.IntKind.i64 ) (p0_0 + 1))
  cond (((decide (0 ≤ x0)) && (decide (x0 ≤ x0))) && (decide (x0 ≤ 274877906944))) (
   (l0 (0, p0_0, y44, (List.replicate (Int.toNat x0) 0), p0_1)).bind fun q => match q with
   | (.inl yl0) =>
    some (yl0.2, yl0.1)
   | (.inr yl0) =>
    some (yl0, false)) none
theorem F.eq : ∀ x, F x = runF (mkE tab es 77 [(0, some (loopO 0 (cutOf l0.A l0.c) (cutsOf l0.xs l0.y) l0))] []) code [.agg [.sc, .row 1 0], .row 2 0, .sc] [.row 2, .sc] [.tmp 6, .tmp 7] (Coz.dec cr) (cp.enc x) := fun x => by kernel_rfl
theorem F.owed : owed (mkE (R := ((List Int) × Bool)) tab es 77 [(0, some (loopO 0 (cutOf l0.A l0.c) (cutsOf l0.xs l0.y) l0))] []) code = [((.block 0 (.loop (loopAt 0 code))), (loopO (R := _) 0 (cutOf l0.A l0.c) (cutsOf l0.xs l0.y) l0))] := by kernel_rfl
theorem con : ∀ x y, F x = some y → Con prog 37 [.agg [.sc, .row 1 0], .row 2 0, .sc] [.row 2, .sc] (cp.enc x) (cr.enc y).1 (cr.enc y).2 :=
  func_ok (c := code) (n := 77) (pf := [.agg [.sc, .row 1 0], .row 2 0, .sc]) (res := [.tmp 6, .tmp 7]) tabOk uniOk mixed get (by kernel_rfl) (by kernel_rfl) (by kernel_rfl) (by decide) F.eq fun w0 M h x hx => by rw [F.owed] at hx; rcases List.mem_cons.1 hx with rfl | hx; exact l0.ok w0 M h; exact absurd hx List.not_mem_nil
noncomputable def ent : Ent prog uni := Ent.of 37 [.agg [.sc, .row 1 0], .row 2 0, .sc] [.row 2, .sc] cp cr F con fun args w => enters_of get (by kernel_rfl) rfl args w
end Go.Proofs.Ytciafkboilgblaa.AX.F37

/- The function 24 of the program in the small machine. No conditions. -/
namespace Go.Proofs.Ytciafkboilgblaa.AX.F24
open Go Go.Proofs.Try
noncomputable def code : Code := bodyOf f24
abbrev Y : Type := ((List S73) × Bool)
def cp : Cod uni ((Int × (List S31)) × (List Int)) := (codC (iAgg (codC (iInt .i64) (cod1 (iRow 1)))) (cod1 (iRow 2)))
def cr : Coz uni ((List S73) × Bool) := (cozR (codC (iRow 4) (cod1 iBool)) (codD (codD cod0)))
noncomputable def es : List (Ent prog uni) := [F37.ent]
theorem get : prog.funcs[24]? = some f24 := by kernel_rfl

def l0.A : Ann := ⟨[(2, .box 5000128 0), (6, .slc 5000384 []), (7, .sc), (8, .slc 5000512 []), (9, .sc), (10, .slc 5000640 []), (11, .sc)], [(5000128, 25, [.sc, .slc 5000139 []])], [(5000384, true, 2), (5000512, true, 2), (5000640, true, 4), (5000139, false, 1)], []⟩
def l0.c : Cod uni (Bool × Bool × Int × Int × (List Int) × (List Int) × (List S73) × (List S31)) := (codC iBool (codC iBool (codC (iInt .i64) (codC (iInt .i64) (codC (iRow 2) (codC (iRow 2) (codC (iRow 4) (cod1 (iRow 1)))))))))
def l0.xs : List (AExit × Ann) := [((.exit 0), ⟨[(7, .sc), (9, .sc), (10, .slc 5000640 [])], [], [(5000640, true, 4)], []⟩)]
def l0.y : Coy uni ((Bool × Bool × (List S73))) := (coy1 (codC iBool (codC iBool (cod1 (iRow 4)))))
noncomputable def l0.b : Bool × Bool × Int × Int × (List Int) × (List Int) × (List S73) × (List S31) → Option ((Bool × Bool × Int × Int × (List Int) × (List Int) × (List S73) × (List S31)) ⊕ ((Bool × Bool × (List S73))))
  | (v7, v9, v11, b128_0, r384, r512, r640, r139) =>
  cond (decide (v11 < b128_0)) (
   cond ((decide (0 ≤ v11)) && (decide (v11 < ((List.length r384) : Int)))) (
    cond ((decide (0 ≤ v11)) && (decide (v11 < ((List.length r512) : Int)))) (
     let x0 := ((⟨(List.getD r384 (Int.toNat v11) 0), (List.getD r512 (Int.toNat v11) 0)⟩ : S73) :: [])
     cond (decide (((List.length r640) + (List.length x0)) ≤ 274877906944)) (
      some (.inl (v7, v9, (Go.IntKind.wrap (Go.IntKind.i64 ) (v11 + 1)), b128_0, r384, r512, (r640 ++ x0), r139))) none) none) none) (
   some (.inr (v7, v9, r640)))
noncomputable def l0 (x : Bool × Bool × Int × Int × (List Int) × (List Int) × (List S73) × (List S31)) : Option ((Bool × Bool × (List S73))) := lim l0.b x
theorem l0.eq : ∀ x, l0.b x = roundX (mkE tab es 48 [] []) (loopAt 0 code) (cutOf l0.A l0.c) (cutsOf l0.xs l0.y) x := fun x => by kernel_rfl
theorem l0.owed {R : Type} : owed (mkE (R := R) tab es 48 [] []) (loopAt 0 code) = [] := by kernel_rfl
theorem l0.ok (w0 : World) (M : Own) (h : Pinned M []) {R : Type} : SoundO prog w0 M 48 (.block 0 (.loop (loopAt 0 code))) (loopO (R := R) 0 (cutOf l0.A l0.c) (cutsOf l0.xs l0.y) l0) :=
  loop_ok tabOk uniOk mixed l0.eq (h.sub rfl) (h.sub rfl) fun x hx => by rw [l0.owed] at hx; exact absurd hx List.not_mem_nil

noncomputable def F : ((Int × (List S31)) × (List Int)) → Option (((List S73) × Bool))
  | ((p0_0, p0_1), p1) =>
  (F37.F ((p0_0, p0_1), (p1, 0))).bind fun y37 =>
  (F37.F ((p0_0, p0_1), (p1, 1))).bind fun y37x2 =>
  (l0 (y37.2, y37x2.2, 0, p0_0, y37.1, y37x2.1, ([] : List S73), p0_1)).bind fun yl0 =>
  some (yl0.2.2, (yl0.1 && yl0.2.1))
theorem F.eq : ∀ x, F x = runF (mkE tab es 48 [(0, some (loopO 0 (cutOf l0.A l0.c) (cutsOf l0.xs l0.y) l0))] []) code [.agg [.sc, .row 1 0], .row 2 0] [.row 4, .sc] [.tmp 4, .tmp 5] (Coz.dec cr) (cp.enc x) := fun x => by kernel_rfl
theorem F.owed : owed (mkE (R := ((List S73) × Bool)) tab es 48 [(0, some (loopO 0 (cutOf l0.A l0.c) (cutsOf l0.xs l0.y) l0))] []) code = [((.block 0 (.loop (loopAt 0 code))), (loopO (R := _) 0 (cutOf l0.A l0.c) (cutsOf l0.xs l0.y) l0))] := by kernel_rfl
theorem con : ∀ x y, F x = some y → Con prog 24 [.agg [.sc, .row 1 0], .row 2 0] [.row 4, .sc] (cp.enc x) (cr.enc y).1 (cr.enc y).2 :=
  func_ok (c := code) (n := 48) (pf := [.agg [.sc, .row 1 0], .row 2 0]) (res := [.tmp 4, .tmp 5]) tabOk uniOk mixed get (by kernel_rfl) (by kernel_rfl) (by kernel_rfl) (by decide) F.eq fun w0 M h x hx => by rw [F.owed] at hx; rcases List.mem_cons.1 hx with rfl | hx; exact l0.ok w0 M h; exact absurd hx List.not_mem_nil
noncomputable def ent : Ent prog uni := Ent.of 24 [.agg [.sc, .row 1 0], .row 2 0] [.row 4, .sc] cp cr F con fun args w => enters_of get (by kernel_rfl) rfl args w
end Go.Proofs.Ytciafkboilgblaa.AX.F24

/- The function 27 of the program in the small machine. No conditions. -/
namespace Go.Proofs.Ytciafkboilgblaa.AX.F27
open Go Go.Proofs.Try
noncomputable def code : Code := bodyOf f27
abbrev Y : Type := Int
def cp : Cod uni ((List Int) × Int) := (codC (iRow 2) (cod1 (iInt .i64)))
def cr : Coz uni Int := (cozR (cod1 (iInt .i64)) (codD (codD cod0)))
noncomputable def es : List (Ent prog uni) := []
theorem get : prog.funcs[27]? = some f27 := by kernel_rfl

def l0.A : Ann := ⟨[(0, .slc 5000000 []), (1, .sc)], [], [(5000000, false, 2)], []⟩
def l0.c : Cod uni (Int × (List Int)) := (codC (iInt .i64) (cod1 (iRow 2)))
def l0.xs : List (AExit × Ann) := [((.exit 0), ⟨[(1, .sc)], [], [], []⟩)]
def l0.y : Coy uni (Int) := (coy1 (cod1 (iInt .i64)))
noncomputable def l0.b : Int × (List Int) → Option ((Int × (List Int)) ⊕ (Int))
  | (v1, r0) =>
  let x0 := ((decide (0 ≤ v1)) && (decide (v1 < ((List.length r0) : Int))))
  cond x0 (
   let x1 := (List.getD r0 (Int.toNat v1) 0)
   cond (x1 != v1) (
    cond x0 (
     some (.inl (x1, r0))) none) (
    some (.inr v1))) none
noncomputable def l0 (x : Int × (List Int)) : Option (Int) := lim l0.b x
theorem l0.eq : ∀ x, l0.b x = roundX (mkE tab es 16 [] []) (loopAt 0 code) (cutOf l0.A l0.c) (cutsOf l0.xs l0.y) x := fun x => by kernel_rfl
theorem l0.owed {R : Type} : owed (mkE (R := R) tab es 16 [] []) (loopAt 0 code) = [] := by kernel_rfl
theorem l0.ok (w0 : World) (M : Own) (h : Pinned M []) {R : Type} : SoundO prog w0 M 16 (.block 0 (.loop (loopAt 0 code))) (loopO (R := R) 0 (cutOf l0.A l0.c) (cutsOf l0.xs l0.y) l0) :=
  loop_ok tabOk uniOk mixed l0.eq (h.sub rfl) (h.sub rfl) fun x hx => by rw [l0.owed] at hx; exact absurd hx List.not_mem_nil

noncomputable def F : ((List Int) × Int) → Option (Int)
  | (p0, p1) =>
  (l0 (p1, p0)).bind fun yl0 =>
  some yl0
theorem F.eq : ∀ x, F x = runF (mkE tab es 16 [(0, some (loopO 0 (cutOf l0.A l0.c) (cutsOf l0.xs l0.y) l0))] []) code [.row 2 0, .sc] [.sc] [.tmp 4] (Coz.dec cr) (cp.enc x) := fun x => by kernel_rfl
theorem F.owed : owed (mkE (R := Int) tab es 16 [(0, some (loopO 0 (cutOf l0.A l0.c) (cutsOf l0.xs l0.y) l0))] []) code = [((.block 0 (.loop (loopAt 0 code))), (loopO (R := _) 0 (cutOf l0.A l0.c) (cutsOf l0.xs l0.y) l0))] := by kernel_rfl
theorem con : ∀ x y, F x = some y → Con prog 27 [.row 2 0, .sc] [.sc] (cp.enc x) (cr.enc y).1 (cr.enc y).2 :=
  func_ok (c := code) (n := 16) (pf := [.row 2 0, .sc]) (res := [.tmp 4]) tabOk uniOk mixed get (by kernel_rfl) (by kernel_rfl) (by kernel_rfl) (by decide) F.eq fun w0 M h x hx => by rw [F.owed] at hx; rcases List.mem_cons.1 hx with rfl | hx; exact l0.ok w0 M h; exact absurd hx List.not_mem_nil
noncomputable def ent : Ent prog uni := Ent.of 27 [.row 2 0, .sc] [.sc] cp cr F con fun args w => enters_of get (by kernel_rfl) rfl args w
end Go.Proofs.Ytciafkboilgblaa.AX.F27

/- The function 26 of the program in the small machine. No conditions. -/
namespace Go.Proofs.Ytciafkboilgblaa.AX.F26
open Go Go.Proofs.Try
noncomputable def code : Code := bodyOf f26
abbrev Y : Type := (Bool × ((List Int) × Unit))
def cp : Cod uni ((List Int) × Int × Int) := (codC (iRow 2) (codC (iInt .i64) (cod1 (iInt .i64))))
def cr : Coz uni (Bool × ((List Int) × Unit)) := (cozRM (cod1 iBool) (codC (iRow 2) (codD (codD cod0))))
noncomputable def es : List (Ent prog uni) := [F27.ent]
theorem get : prog.funcs[26]? = some f26 := by kernel_rfl

noncomputable def F : ((List Int) × Int × Int) → Option ((Bool × ((List Int) × Unit)))
  | (p0, p1, p2) =>
  (F27.F (p0, p1)).bind fun y27 =>
  (F27.F (p0, p2)).bind fun y27x2 =>
  cond (y27 == y27x2) (
   some (false, (p0, ()))) (
   cond ((decide (0 ≤ y27)) && (decide (y27 < ((List.length p0) : Int)))) (
    some (true, ((List.set p0 (Int.toNat y27) y27x2), ()))) none)
theorem F.eq : ∀ x, F x = runF (mkE tab es 20 [] []) code [.row 2 1, .sc, .sc] [.sc] [.tmp 6] (Coz.dec cr) (cp.enc x) := fun x => by kernel_rfl
theorem F.owed : owed (mkE (R := (Bool × ((List Int) × Unit))) tab es 20 [] []) code = [] := by kernel_rfl
theorem con : ∀ x y, F x = some y → Con prog 26 [.row 2 1, .sc, .sc] [.sc] (cp.enc x) (cr.enc y).1 (cr.enc y).2 :=
  func_ok (c := code) (n := 20) (pf := [.row 2 1, .sc, .sc]) (res := [.tmp 6]) tabOk uniOk mixed get (by kernel_rfl) (by kernel_rfl) (by kernel_rfl) (by decide) F.eq fun w0 M h x hx => by rw [F.owed] at hx; exact absurd hx List.not_mem_nil
noncomputable def ent : Ent prog uni := Ent.of 26 [.row 2 1, .sc, .sc] [.sc] cp cr F con fun args w => enters_of get (by kernel_rfl) rfl args w
end Go.Proofs.Ytciafkboilgblaa.AX.F26

/- The function 7 of the program in the small machine. No conditions. -/
namespace Go.Proofs.Ytciafkboilgblaa.AX.F7
open Go Go.Proofs.Try
noncomputable def code : Code := bodyOf f7
abbrev Y : Type := (Int × (List Int) × Int)
def cp : Cod uni (Int × (List S31)) := (cod1 (iAgg (codC (iInt .i64) (cod1 (iRow 1)))))
def cr : Coz uni (Int × (List Int) × Int) := (cozR (codC (iInt .i64) (codC (iRow 2) (cod1 (iInt .i64)))) (codD cod0))
noncomputable def es : List (Ent prog uni) := [F18.ent, F25.ent, F24.ent, F26.ent, F27.ent]
theorem get : prog.funcs[7]? = some f7 := by kernel_rfl

def l0.A : Ann := ⟨[(1, .box 5000064 0), (7, .sc), (8, .slc 5000512 []), (9, .sc)], [(5000064, 25, [.sc, .slc 5000075 []])], [(5000512, true, 6), (5000075, false, 1)], []⟩
def l0.c : Cod uni (Int × Int × Int × (List (List Int)) × (List S31)) := (codC (iInt .i64) (codC (iInt .i64) (codC (iInt .i64) (codC (iRow 6) (cod1 (iRow 1))))))
def l0.xs : List (AExit × Ann) := [((.exit 0), ⟨[(1, .box 5000064 0), (7, .sc), (8, .slc 5000512 [])], [(5000064, 25, [.sc, .slc 5000075 []])], [(5000512, true, 6), (5000075, false, 1)], []⟩)]
def l0.y : Coy uni ((Int × Int × (List (List Int)) × (List S31))) := (coy1 (codC (iInt .i64) (codC (iInt .i64) (codC (iRow 6) (cod1 (iRow 1))))))
noncomputable def l0.b : Int × Int × Int × (List (List Int)) × (List S31) → Option ((Int × Int × Int × (List (List Int)) × (List S31)) ⊕ ((Int × Int × (List (List Int)) × (List S31))))
  | (v7, v9, b64_0, r512, r75) =>
  cond (decide (v9 ≤ v7)) (
   let x3 := ((decide (0 ≤ 0)) && (decide (0 < ((List.length r512) : Int))))
   cond x3 (
    let x4 := (List.getD r512 (Int.toNat 0) ([] : List Int))
    let x5 := (List.length (v9 :: []))
    cond (decide (((List.length x4) + x5) ≤ 274877906944)) (
     cond x3 (
      let x2 := (List.set r512 (Int.toNat 0) (x4 ++ (v9 :: [])))
      let x0 := ((decide (0 ≤ 1)) && (decide (1 < ((List.length x2) : Int))))
      cond x0 (
       let x1 := (List.getD x2 (Int.toNat 1) ([] : List Int))
       cond (decide (((List.length x1) + x5) ≤ 274877906944)) (
        cond x0 (
         some (.inl (v7, (Go.IntKind.wrap (Go.IntKind.i64 ) (v9 + 1)), b64_0, (List.set x2 (Int.toNat 1) (x1 ++ (v9 :: []))), r75))) none) none) none) none) none) none) (
   some (.inr (v7, b64_0, r512, r75)))
noncomputable def l0 (x : Int × Int × Int × (List (List Int)) × (List S31)) : Option ((Int × Int × (List (List Int)) × (List S31))) := lim l0.b x
theorem l0.eq : ∀ x, l0.b x = roundX (mkE tab es 174 [] []) (loopAt 0 code) (cutOf l0.A l0.c) (cutsOf l0.xs l0.y) x := fun x => by kernel_rfl
theorem l0.owed {R : Type} : owed (mkE (R := R) tab es 174 [] []) (loopAt 0 code) = [] := by kernel_rfl
theorem l0.ok (w0 : World) (M : Own) (h : Pinned M []) {R : Type} : SoundO prog w0 M 174 (.block 0 (.loop (loopAt 0 code))) (loopO (R := R) 0 (cutOf l0.A l0.c) (cutsOf l0.xs l0.y) l0) :=
  loop_ok tabOk uniOk mixed l0.eq (h.sub rfl) (h.sub rfl) fun x hx => by rw [l0.owed] at hx; exact absurd hx List.not_mem_nil

def t33.A : Ann := ⟨[(1, .box 5000064 0), (7, .sc), (8, .slc 5000512 []), (10, .slc 5000640 []), (11, .sc), (13, .sc)], [(5000064, 25, [.sc, .slc 5000075 []])], [(5000512, true, 6), (5000640, true, 2), (5000075, false, 1)], []⟩
def t33.c : Cod uni (Int × Int × Bool × Int × (List (List Int)) × (List Int) × (List S31)) := (codC (iInt .i64) (codC (iInt .i64) (codC iBool (codC (iInt .i64) (codC (iRow 6) (codC (iRow 2) (cod1 (iRow 1))))))))
def t33.xs : List (AExit × Ann) := [(.normal, ⟨[(1, .box 5000064 0), (7, .sc), (8, .slc 5000512 []), (10, .slc 5000640 []), (11, .sc)], [(5000064, 25, [.sc, .slc 5000075 []])], [(5000512, true, 6), (5000640, true, 2), (5000075, false, 1)], []⟩)]
def t33.y : Coy uni ((Int × Int × Int × (List (List Int)) × (List Int) × (List S31))) := (coy1 (codC (iInt .i64) (codC (iInt .i64) (codC (iInt .i64) (codC (iRow 6) (codC (iRow 2) (cod1 (iRow 1))))))))
noncomputable def t33 : Int × Int × Bool × Int × (List (List Int)) × (List Int) × (List S31) → Option ((Int × Int × Int × (List (List Int)) × (List Int) × (List S31)))
  | (v7, v11, v13, b64_0, r512, r640, r75) =>
  cond (!v13) (
   cond (decide (((List.length r640) + (List.length (v11 :: []))) ≤ 274877906944)) (
    some (v7, v11, b64_0, r512, (r640 ++ (v11 :: [])), r75)) none) (
   some (v7, v11, b64_0, r512, r640, r75))
theorem t33.eq : ∀ x, t33 x = tailX (mkE tab es 174 [] []) (tailAt 33 code) (cutOf t33.A t33.c) (cutsOf t33.xs t33.y) x := fun x => by kernel_rfl
theorem t33.owed {R : Type} : owed (mkE (R := R) tab es 174 [] []) (tailAt 33 code) = [] := by kernel_rfl
theorem t33.ok (w0 : World) (M : Own) (h : Pinned M []) {R : Type} : SoundO prog w0 M 174 (tailAt 33 code) (tailO (R := R) (cutOf t33.A t33.c) (cutsOf t33.xs t33.y) t33) :=
  tail_ok tabOk uniOk mixed t33.eq (h.sub rfl) (h.sub rfl) fun x hx => by rw [t33.owed] at hx; exact absurd hx List.not_mem_nil

def l2.A : Ann := ⟨[(1, .box 5000064 0), (7, .sc), (8, .slc 5000512 []), (10, .slc 5000640 []), (11, .sc)], [(5000064, 25, [.sc, .slc 5000075 []])], [(5000512, true, 6), (5000640, true, 2), (5000075, false, 1)], []⟩
def l2.c : Cod uni (Int × Int × Int × (List (List Int)) × (List Int) × (List S31)) := (codC (iInt .i64) (codC (iInt .i64) (codC (iInt .i64) (codC (iRow 6) (codC (iRow 2) (cod1 (iRow 1)))))))
def l2.xs : List (AExit × Ann) := [((.exit 2), ⟨[(7, .sc), (8, .slc 5000512 []), (10, .slc 5000640 [])], [], [(5000512, true, 6), (5000640, true, 2)], []⟩)]
def l2.y : Coy uni ((Int × (List (List Int)) × (List Int))) := (coy1 (codC (iInt .i64) (codC (iRow 6) (cod1 (iRow 2)))))
noncomputable def l2.b : Int × Int × Int × (List (List Int)) × (List Int) × (List S31) → Option ((Int × Int × Int × (List (List Int)) × (List Int) × (List S31)) ⊕ ((Int × (List (List Int)) × (List Int))))
  | (v7, v11, b64_0, r512, r640, r75) =>
  let x21 := (decide (v11 < ((List.length r75) : Int)))
  cond x21 (
   cond ((decide (0 ≤ v11)) && x21) (
    let x23 := (List.getD r75 (Int.toNat v11) z31)
    let x10 := (Go.IntKind.wrap (Go.IntKind.i64 ) (x23.f0 - 1))
    let x24 := ((List.length r512) : Int)
    let x0 := ((decide (0 ≤ x10)) && (decide (x10 < x24)))
    let x11 := (Go.IntKind.wrap (Go.IntKind.i64 ) (x23.f0 - 3))
    let x1 := ((decide (0 ≤ x11)) && (decide (x11 < x24)))
    let x12 := (Go.IntKind.wrap (Go.IntKind.i64 ) (x23.f0 - 7))
    let x2 := ((decide (0 ≤ x12)) && (decide (x12 < x24)))
    let x7 := (Int.toNat x11)
    let x3 := (F26.F ((List.getD r512 x7 ([] : List Int)), (x23.f1, x23.f2)))
    let x8 := (Int.toNat x12)
    let x4 := (F26.F ((List.getD r512 x8 ([] : List Int)), (x23.f1, x23.f2)))
    let x9 := (Int.toNat x10)
    let x5 := (F26.F ((List.getD r512 x9 ([] : List Int)), (v7, x23.f1)))
    let x6 := (F26.F ((List.getD r512 (Int.toNat 0) ([] : List Int)), (x23.f1, x23.f2)))
    let x13 := ((decide (0 ≤ 0)) && (decide (0 < x24)))
    let x14 := (x23.f0 == 1)
    let x15 := (x23.f0 == 3)
    let x16 := (x23.f0 == 7)
    let x17 := (x23.f0 == 9)
    let x18 := (t33 (v7, v11, true, b64_0, r512, r640, r75))
    let x19 := (x23.f0 == 8)
    let x20 := (x23.f0 == 4)
    cond x14 (
     cond x14 (
      cond x0 (
       x5.bind fun y26 =>
       (t33 (v7, v11, y26.1, b64_0, (List.set r512 x9 y26.2.1), r640, r75)).bind fun yt33 =>
       some (.inl (yt33.1, (Go.IntKind.wrap (Go.IntKind.i64 ) (yt33.2.1 + 1)), yt33.2.2.1, yt33.2.2.2.1, yt33.2.2.2.2.1, yt33.2.2.2.2.2))) none) (
      cond x15 (
       cond x15 (
        cond x1 (
         x3.bind fun y26 =>
         (t33 (v7, v11, y26.1, b64_0, (List.set r512 x7 y26.2.1), r640, r75)).bind fun yt33 =>
         some (.inl (yt33.1, (Go.IntKind.wrap (Go.IntKind.i64 ) (yt33.2.1 + 1)), yt33.2.2.1, yt33.2.2.2.1, yt33.2.2.2.2.1, yt33.2.2.2.2.2))) none) (
        cond x16 (
         cond x16 (
          cond x2 (
           x4.bind fun y26 =>
           (t33 (v7, v11, y26.1, b64_0, (List.set r512 x8 y26.2.1), r640, r75)).bind fun yt33 =>
           some (.inl (yt33.1, (Go.IntKind.wrap (Go.IntKind.i64 ) (yt33.2.1 + 1)), yt33.2.2.1, yt33.2.2.2.1, yt33.2.2.2.2.1, yt33.2.2.2.2.2))) none) (
          cond x17 (
           cond x13 (
            x6.bind fun y26 =>
            let x22 := (List.set r512 (Int.toNat 0) y26.2.1)
            cond ((decide (0 ≤ 1)) && (decide (1 < ((List.length x22) : Int)))) (
             (F26.F ((List.getD x22 (Int.toNat 1) ([] : List Int)), (x23.f1, x23.f2))).bind fun y26x2 =>
             (t33 (v7, v11, (y26.1 || y26x2.1), b64_0, (List.set x22 (Int.toNat 1) y26x2.2.1), r640, r75)).bind fun yt33 =>
             some (.inl (yt33.1, (Go.IntKind.wrap (Go.IntKind.i64 ) (yt33.2.1 + 1)), yt33.2.2.1, yt33.2.2.2.1, yt33.2.2.2.2.1, yt33.2.2.2.2.2))) none) none) (
           x18.bind fun yt33 =>
           some (.inl (yt33.1, (Go.IntKind.wrap (Go.IntKind.i64 ) (yt33.2.1 + 1)), yt33.2.2.1, yt33.2.2.2.1, yt33.2.2.2.2.1, yt33.2.2.2.2.2))))) (
         cond x19 (
          cond x2 (
           x4.bind fun y26 =>
           (t33 (v7, v11, y26.1, b64_0, (List.set r512 x8 y26.2.1), r640, r75)).bind fun yt33 =>
           some (.inl (yt33.1, (Go.IntKind.wrap (Go.IntKind.i64 ) (yt33.2.1 + 1)), yt33.2.2.1, yt33.2.2.2.1, yt33.2.2.2.2.1, yt33.2.2.2.2.2))) none) (
          cond x17 (
           cond x13 (
            x6.bind fun y26 =>
            let x22 := (List.set r512 (Int.toNat 0) y26.2.1)
            cond ((decide (0 ≤ 1)) && (decide (1 < ((List.length x22) : Int)))) (
             (F26.F ((List.getD x22 (Int.toNat 1) ([] : List Int)), (x23.f1, x23.f2))).bind fun y26x2 =>
             (t33 (v7, v11, (y26.1 || y26x2.1), b64_0, (List.set x22 (Int.toNat 1) y26x2.2.1), r640, r75)).bind fun yt33 =>
             some (.inl (yt33.1, (Go.IntKind.wrap (Go.IntKind.i64 ) (yt33.2.1 + 1)), yt33.2.2.1, yt33.2.2.2.1, yt33.2.2.2.2.1, yt33.2.2.2.2.2))) none) none) (
           x18.bind fun yt33 =>
           some (.inl (yt33.1, (Go.IntKind.wrap (Go.IntKind.i64 ) (yt33.2.1 + 1)), yt33.2.2.1, yt33.2.2.2.1, yt33.2.2.2.2.1, yt33.2.2.2.2.2))))))) (
       cond x20 (
        cond x1 (
         x3.bind fun y26 =>
         (t33 (v7, v11, y26.1, b64_0, (List.set r512 x7 y26.2.1), r640, r75)).bind fun yt33 =>
         some (.inl (yt33.1, (Go.IntKind.wrap (Go.IntKind.i64 ) (yt33.2.1 + 1)), yt33.2.2.1, yt33.2.2.2.1, yt33.2.2.2.2.1, yt33.2.2.2.2.2))) none) (
        cond x16 (
         cond x16 (
          cond x2 (
           x4.bind fun y26 =>
           (t33 (v7, v11, y26.1, b64_0, (List.set r512 x8 y26.2.1), r640, r75)).bind fun yt33 =>
           some (.inl (yt33.1, (Go.IntKind.wrap (Go.IntKind.i64 ) (yt33.2.1 + 1)), yt33.2.2.1, yt33.2.2.2.1, yt33.2.2.2.2.1, yt33.2.2.2.2.2))) none) (
          cond x17 (
           cond x13 (
            x6.bind fun y26 =>
            let x22 := (List.set r512 (Int.toNat 0) y26.2.1)
            cond ((decide (0 ≤ 1)) && (decide (1 < ((List.length x22) : Int)))) (
             (F26.F ((List.getD x22 (Int.toNat 1) ([] : List Int)), (x23.f1, x23.f2))).bind fun y26x2 =>
             (t33 (v7, v11, (y26.1 || y26x2.1), b64_0, (List.set x22 (Int.toNat 1) y26x2.2.1), r640, r75)).bind fun yt33 =>
             some (.inl (yt33.1, (Go.IntKind.wrap (Go.IntKind.i64 ) (yt33.2.1 + 1)), yt33.2.2.1, yt33.2.2.2.1, yt33.2.2.2.2.1, yt33.2.2.2.2.2))) none) none) (
           x18.bind fun yt33 =>
           some (.inl (yt33.1, (Go.IntKind.wrap (Go.IntKind.i64 ) (yt33.2.1 + 1)), yt33.2.2.1, yt33.2.2.2.1, yt33.2.2.2.2.1, yt33.2.2.2.2.2))))) (
         cond x19 (
          cond x2 (
           x4.bind fun y26 =>
           (t33 (v7, v11, y26.1, b64_0, (List.set r512 x8 y26.2.1), r640, r75)).bind fun yt33 =>
           some (.inl (yt33.1, (Go.IntKind.wrap (Go.IntKind.i64 ) (yt33.2.1 + 1)), yt33.2.2.1, yt33.2.2.2.1, yt33.2.2.2.2.1, yt33.2.2.2.2.2))) none) (
          cond x17 (
           cond x13 (
            x6.bind fun y26 =>
            let x22 := (List.set r512 (Int.toNat 0) y26.2.1)
            cond ((decide (0 ≤ 1)) && (decide (1 < ((List.length x22) : Int)))) (
             (F26.F ((List.getD x22 (Int.toNat 1) ([] : List Int)), (x23.f1, x23.f2))).bind fun y26x2 =>
             (t33 (v7, v11, (y26.1 || y26x2.1), b64_0, (List.set x22 (Int.toNat 1) y26x2.2.1), r640, r75)).bind fun yt33 =>
             some (.inl (yt33.1, (Go.IntKind.wrap (Go.IntKind.i64 ) (yt33.2.1 + 1)), yt33.2.2.1, yt33.2.2.2.1, yt33.2.2.2.2.1, yt33.2.2.2.2.2))) none) none) (
           x18.bind fun yt33 =>
           some (.inl (yt33.1, (Go.IntKind.wrap (Go.IntKind.i64 ) (yt33.2.1 + 1)), yt33.2.2.1, yt33.2.2.2.1, yt33.2.2.2.2.1, yt33.2.2.2.2.2))))))))) (
     cond (x23.f0 == 2) (
      cond x0 (
       x5.bind fun y26 =>
       (t33 (v7, v11, y26.1, b64_0, (List.set r512 x9 y26.2.1), r640, r75)).bind fun yt33 =>
       some (.inl (yt33.1, (Go.IntKind.wrap (Go.IntKind.i64 ) (yt33.2.1 + 1)), yt33.2.2.1, yt33.2.2.2.1, yt33.2.2.2.2.1, yt33.2.2.2.2.2))) none) (
      cond x15 (
       cond x15 (
        cond x1 (
         x3.bind fun y26 =>
         (t33 (v7, v11, y26.1, b64_0, (List.set r512 x7 y26.2.1), r640, r75)).bind fun yt33 =>
         some (.inl (yt33.1, (Go.IntKind.wrap (Go.IntKind.i64 ) (yt33.2.1 + 1)), yt33.2.2.1, yt33.2.2.2.1, yt33.2.2.2.2.1, yt33.2.2.2.2.2))) none) (
        cond x16 (
         cond x16 (
          cond x2 (
           x4.bind fun y26 =>
           (t33 (v7, v11, y26.1, b64_0, (List.set r512 x8 y26.2.1), r640, r75)).bind fun yt33 =>
           some (.inl (yt33.1, (Go.IntKind.wrap (Go.IntKind.i64 ) (yt33.2.1 + 1)), yt33.2.2.1, yt33.2.2.2.1, yt33.2.2.2.2.1, yt33.2.2.2.2.2))) none) (
          cond x17 (
           cond x13 (
            x6.bind fun y26 =>
            let x22 := (List.set r512 (Int.toNat 0) y26.2.1)
            cond ((decide (0 ≤ 1)) && (decide (1 < ((List.length x22) : Int)))) (
             (F26.F ((List.getD x22 (Int.toNat 1) ([] : List Int)), (x23.f1, x23.f2))).bind fun y26x2 =>
             (t33 (v7, v11, (y26.1 || y26x2.1), b64_0, (List.set x22 (Int.toNat 1) y26x2.2.1), r640, r75)).bind fun yt33 =>
             some (.inl (yt33.1, (Go.IntKind.wrap (Go.IntKind.i64 ) (yt33.2.1 + 1)), yt33.2.2.1, yt33.2.2.2.1, yt33.2.2.2.2.1, yt33.2.2.2.2.2))) none) none) (
           x18.bind fun yt33 =>
           some (.inl (yt33.1, (Go.IntKind.wrap (Go.IntKind.i64 ) (yt33.2.1 + 1)), yt33.2.2.1, yt33.2.2.2.1, yt33.2.2.2.2.1, yt33.2.2.2.2.2))))) (
         cond x19 (
          cond x2 (
           x4.bind fun y26 =>
           (t33 (v7, v11, y26.1, b64_0, (List.set r512 x8 y26.2.1), r640, r75)).bind fun yt33 =>
           some (.inl (yt33.1, (Go.IntKind.wrap (Go.IntKind.i64 ) (yt33.2.1 + 1)), yt33.2.2.1, yt33.2.2.2.1, yt33.2.2.2.2.1, yt33.2.2.2.2.2))) none) (
          cond x17 (
           cond x13 (
            x6.bind fun y26 =>
            let x22 := (List.set r512 (Int.toNat 0) y26.2.1)
            cond ((decide (0 ≤ 1)) && (decide (1 < ((List.length x22) : Int)))) (
             (F26.F ((List.getD x22 (Int.toNat 1) ([] : List Int)), (x23.f1, x23.f2))).bind fun y26x2 =>
             (t33 (v7, v11, (y26.1 || y26x2.1), b64_0, (List.set x22 (Int.toNat 1) y26x2.2.1), r640, r75)).bind fun yt33 =>
             some (.inl (yt33.1, (Go.IntKind.wrap (Go.IntKind.i64 ) (yt33.2.1 + 1)), yt33.2.2.1, yt33.2.2.2.1, yt33.2.2.2.2.1, yt33.2.2.2.2.2))) none) none) (
           x18.bind fun yt33 =>
           some (.inl (yt33.1, (Go.IntKind.wrap (Go.IntKind.i64 ) (yt33.2.1 + 1)), yt33.2.2.1, yt33.2.2.2.1, yt33.2.2.2.2.1, yt33.2.2.2.2.2))))))) (
       cond x20 (
        cond x1 (
         x3.bind fun y26 =>
         (t33 (v7, v11, y26.1, b64_0, (List.set r512 x7 y26.2.1), r640, r75)).bind fun yt33 =>
         some (.inl (yt33.1, (Go.IntKind.wrap (Go.IntKind.i64 ) (yt33.2.1 + 1)), yt33.2.2.1, yt33.2.2.2.1, yt33.2.2.2.2.1, yt33.2.2.2.2.2))) none) (
        cond x16 (
         cond x16 (
          cond x2 (
           x4.bind fun y26 =>
           (t33 (v7, v11, y26.1, b64_0, (List.set r512 x8 y26.2.1), r640, r75)).bind fun yt33 =>
           some (.inl (yt33.1, (Go.IntKind.wrap (Go.IntKind.i64 ) (yt33.2.1 + 1)), yt33.2.2.1, yt33.2.2.2.1, yt33.2.2.2.2.1, yt33.2.2.2.2.2))) none) (
          cond x17 (
           cond x13 (
            x6.bind fun y26 =>
            let x22 := (List.set r512 (Int.toNat 0) y26.2.1)
            cond ((decide (0 ≤ 1)) && (decide (1 < ((List.length x22) : Int)))) (
             (F26.F ((List.getD x22 (Int.toNat 1) ([] : List Int)), (x23.f1, x23.f2))).bind fun y26x2 =>
             (t33 (v7, v11, (y26.1 || y26x2.1), b64_0, (List.set x22 (Int.toNat 1) y26x2.2.1), r640, r75)).bind fun yt33 =>
             some (.inl (yt33.1, (Go.IntKind.wrap (Go.IntKind.i64 ) (yt33.2.1 + 1)), yt33.2.2.1, yt33.2.2.2.1, yt33.2.2.2.2.1, yt33.2.2.2.2.2))) none) none) (
           x18.bind fun yt33 =>
           some (.inl (yt33.1, (Go.IntKind.wrap (Go.IntKind.i64 ) (yt33.2.1 + 1)), yt33.2.2.1, yt33.2.2.2.1, yt33.2.2.2.2.1, yt33.2.2.2.2.2))))) (
         cond x19 (
          cond x2 (
           x4.bind fun y26 =>
           (t33 (v7, v11, y26.1, b64_0, (List.set r512 x8 y26.2.1), r640, r75)).bind fun yt33 =>
           some (.inl (yt33.1, (Go.IntKind.wrap (Go.IntKind.i64 ) (yt33.2.1 + 1)), yt33.2.2.1, yt33.2.2.2.1, yt33.2.2.2.2.1, yt33.2.2.2.2.2))) none) (
          cond x17 (
           cond x13 (
            x6.bind fun y26 =>
            let x22 := (List.set r512 (Int.toNat 0) y26.2.1)
            cond ((decide (0 ≤ 1)) && (decide (1 < ((List.length x22) : Int)))) (
             (F26.F ((List.getD x22 (Int.toNat 1) ([] : List Int)), (x23.f1, x23.f2))).bind fun y26x2 =>
             (t33 (v7, v11, (y26.1 || y26x2.1), b64_0, (List.set x22 (Int.toNat 1) y26x2.2.1), r640, r75)).bind fun yt33 =>
             some (.inl (yt33.1, (Go.IntKind.wrap (Go.IntKind.i64 ) (yt33.2.1 + 1)), yt33.2.2.1, yt33.2.2.2.1, yt33.2.2.2.2.1, yt33.2.2.2.2.2))) none) none) (
           x18.bind fun yt33 =>
           some (.inl (yt33.1, (Go.IntKind.wrap (Go.IntKind.i64 ) (yt33.2.1 + 1)), yt33.2.2.1, yt33.2.2.2.1, yt33.2.2.2.2.1, yt33.2.2.2.2.2)))))))))) none) (
   some (.inr (v7, r512, r640)))
noncomputable def l2 (x : Int × Int × Int × (List (List Int)) × (List Int) × (List S31)) : Option ((Int × (List (List Int)) × (List Int))) := lim l2.b x
theorem l2.eq : ∀ x, l2.b x = roundX (mkE tab es 174 [] [(33, some (tailO (cutOf t33.A t33.c) (cutsOf t33.xs t33.y) t33))]) (loopAt 2 code) (cutOf l2.A l2.c) (cutsOf l2.xs l2.y) x := fun x => by kernel_rfl
theorem l2.owed {R : Type} : owed (mkE (R := R) tab es 174 [] [(33, some (tailO (cutOf t33.A t33.c) (cutsOf t33.xs t33.y) t33))]) (loopAt 2 code) = [((tailAt 33 code), (tailO (R := _) (cutOf t33.A t33.c) (cutsOf t33.xs t33.y) t33))] := by kernel_rfl
theorem l2.ok (w0 : World) (M : Own) (h : Pinned M []) {R : Type} : SoundO prog w0 M 174 (.block 2 (.loop (loopAt 2 code))) (loopO (R := R) 2 (cutOf l2.A l2.c) (cutsOf l2.xs l2.y) l2) :=
  loop_ok tabOk uniOk mixed l2.eq (h.sub rfl) (h.sub rfl) fun x hx => by rw [l2.owed] at hx; rcases List.mem_cons.1 hx with rfl | hx; exact t33.ok w0 M h; exact absurd hx List.not_mem_nil

def l7.A : Ann := ⟨[(7, .sc), (8, .slc 5000512 []), (10, .slc 5000640 []), (16, .sc), (17, .sc), (18, .sc)], [], [(5000512, true, 6), (5000640, true, 2)], []⟩
def l7.c : Cod uni (Int × Int × Int × Int × (List (List Int)) × (List Int)) := (codC (iInt .i64) (codC (iInt .i64) (codC (iInt .i64) (codC (iInt .i64) (codC (iRow 6) (cod1 (iRow 2)))))))
def l7.xs : List (AExit × Ann) := [((.exit 7), ⟨[(7, .sc), (8, .slc 5000512 []), (10, .slc 5000640 []), (16, .sc), (17, .sc)], [], [(5000512, true, 6), (5000640, true, 2)], []⟩)]
def l7.y : Coy uni ((Int × Int × Int × (List (List Int)) × (List Int))) := (coy1 (codC (iInt .i64) (codC (iInt .i64) (codC (iInt .i64) (codC (iRow 6) (cod1 (iRow 2)))))))
noncomputable def l7.b : Int × Int × Int × Int × (List (List Int)) × (List Int) → Option ((Int × Int × Int × Int × (List (List Int)) × (List Int)) ⊕ ((Int × Int × Int × (List (List Int)) × (List Int))))
  | (v7, v16, v17, v18, r512, r640) =>
  cond (decide (v18 < v7)) (
   let x0 := ((decide (0 ≤ v17)) && (decide (v17 < ((List.length r512) : Int))))
   cond x0 (
    let x1 := (List.getD r512 (Int.toNat v17) ([] : List Int))
    (F27.F (x1, v18)).bind fun y27 =>
    cond ((!(y27 == v18)) || x0) (
     let x2 := (Go.IntKind.wrap (Go.IntKind.i64 ) (v16 + 1))
     let x3 := (Go.IntKind.wrap (Go.IntKind.i64 ) (v18 + 1))
     cond (y27 == v18) (
      (F27.F (x1, v7)).bind fun y27x2 =>
      cond ((y27 == v18) && (y27x2 != v18)) (
       some (.inl (v7, x2, v17, x3, r512, r640))) (
       some (.inl (v7, v16, v17, x3, r512, r640)))) (
      cond ((y27 == v18) && (0 != v18)) (
       some (.inl (v7, x2, v17, x3, r512, r640))) (
       some (.inl (v7, v16, v17, x3, r512, r640))))) none) none) (
   some (.inr (v7, v16, v17, r512, r640)))
noncomputable def l7 (x : Int × Int × Int × Int × (List (List Int)) × (List Int)) : Option ((Int × Int × Int × (List (List Int)) × (List Int))) := lim l7.b x
theorem l7.eq : ∀ x, l7.b x = roundX (mkE tab es 174 [] []) (loopAt 7 code) (cutOf l7.A l7.c) (cutsOf l7.xs l7.y) x := fun x => by kernel_rfl
theorem l7.owed {R : Type} : owed (mkE (R := R) tab es 174 [] []) (loopAt 7 code) = [] := by kernel_rfl
theorem l7.ok (w0 : World) (M : Own) (h : Pinned M []) {R : Type} : SoundO prog w0 M 174 (.block 7 (.loop (loopAt 7 code))) (loopO (R := R) 7 (cutOf l7.A l7.c) (cutsOf l7.xs l7.y) l7) :=
  loop_ok tabOk uniOk mixed l7.eq (h.sub rfl) (h.sub rfl) fun x hx => by rw [l7.owed] at hx; exact absurd hx List.not_mem_nil

def l5.A : Ann := ⟨[(7, .sc), (8, .slc 5000512 []), (10, .slc 5000640 []), (16, .sc), (17, .sc)], [], [(5000512, true, 6), (5000640, true, 2)], []⟩
def l5.c : Cod uni (Int × Int × Int × (List (List Int)) × (List Int)) := (codC (iInt .i64) (codC (iInt .i64) (codC (iInt .i64) (codC (iRow 6) (cod1 (iRow 2))))))
def l5.xs : List (AExit × Ann) := [((.exit 5), ⟨[(10, .slc 5000640 []), (16, .sc)], [], [(5000640, true, 2)], []⟩)]
def l5.y : Coy uni ((Int × (List Int))) := (coy1 (codC (iInt .i64) (cod1 (iRow 2))))
noncomputable def l5.b : Int × Int × Int × (List (List Int)) × (List Int) → Option ((Int × Int × Int × (List (List Int)) × (List Int)) ⊕ ((Int × (List Int))))
  | (v7, v16, v17, r512, r640) =>
  cond (decide (v17 < 2)) (
   (l7 (v7, v16, v17, 0, r512, r640)).bind fun yl7 =>
   some (.inl (yl7.1, yl7.2.1, (Go.IntKind.wrap (Go.IntKind.i64 ) (yl7.2.2.1 + 1)), yl7.2.2.2.1, yl7.2.2.2.2))) (
   some (.inr (v16, r640)))
noncomputable def l5 (x : Int × Int × Int × (List (List Int)) × (List Int)) : Option ((Int × (List Int))) := lim l5.b x
theorem l5.eq : ∀ x, l5.b x = roundX (mkE tab es 174 [(7, some (loopO 7 (cutOf l7.A l7.c) (cutsOf l7.xs l7.y) l7))] []) (loopAt 5 code) (cutOf l5.A l5.c) (cutsOf l5.xs l5.y) x := fun x => by kernel_rfl
theorem l5.owed {R : Type} : owed (mkE (R := R) tab es 174 [(7, some (loopO 7 (cutOf l7.A l7.c) (cutsOf l7.xs l7.y) l7))] []) (loopAt 5 code) = [((.block 7 (.loop (loopAt 7 code))), (loopO (R := _) 7 (cutOf l7.A l7.c) (cutsOf l7.xs l7.y) l7))] := by kernel_rfl
theorem l5.ok (w0 : World) (M : Own) (h : Pinned M []) {R : Type} : SoundO prog w0 M 174 (.block 5 (.loop (loopAt 5 code))) (loopO (R := R) 5 (cutOf l5.A l5.c) (cutsOf l5.xs l5.y) l5) :=
  loop_ok tabOk uniOk mixed l5.eq (h.sub rfl) (h.sub rfl) fun x hx => by rw [l5.owed] at hx; rcases List.mem_cons.1 hx with rfl | hx; exact l7.ok w0 M h; exact absurd hx List.not_mem_nil

noncomputable def F : (Int × (List S31)) → Option ((Int × (List Int) × Int))
  | (p0_0, p0_1) =>
  (F18.F (p0_0, p0_1)).bind fun y18 =>
  cond (!y18) (
   some (0, (([] : List Int), 1))) (
   (F25.F (p0_0, p0_1)).bind fun y25 =>
   (F24.F ((p0_0, p0_1), y25)).bind fun y24 =>
   cond (!y24.2) (
    some (0, (([] : List Int), 15))) (
    (l0 (p0_0, 0, p0_0, (([] : List Int) :: (([] : List Int) :: [])), p0_1)).bind fun yl0 =>
    (l2 (yl0.1, 0, yl0.2.1, yl0.2.2.1, ([] : List Int), yl0.2.2.2)).bind fun yl2 =>
    (l5 (yl2.1, 0, 0, yl2.2.1, yl2.2.2)).bind fun yl5 =>
    some (yl5.1, (yl5.2, 0))))
theorem F.eq : ∀ x, F x = runF (mkE tab es 174 [(0, some (loopO 0 (cutOf l0.A l0.c) (cutsOf l0.xs l0.y) l0)), (2, some (loopO 2 (cutOf l2.A l2.c) (cutsOf l2.xs l2.y) l2)), (5, some (loopO 5 (cutOf l5.A l5.c) (cutsOf l5.xs l5.y) l5))] []) code [.agg [.sc, .row 1 0]] [.sc, .row 2, .sc] [.tmp 2, .tmp 3, .tmp 4] (Coz.dec cr) (cp.enc x) := fun x => by kernel_rfl
theorem F.owed : owed (mkE (R := (Int × (List Int) × Int)) tab es 174 [(0, some (loopO 0 (cutOf l0.A l0.c) (cutsOf l0.xs l0.y) l0)), (2, some (loopO 2 (cutOf l2.A l2.c) (cutsOf l2.xs l2.y) l2)), (5, some (loopO 5 (cutOf l5.A l5.c) (cutsOf l5.xs l5.y) l5))] []) code = [((.block 0 (.loop (loopAt 0 code))), (loopO (R := _) 0 (cutOf l0.A l0.c) (cutsOf l0.xs l0.y) l0)), ((.block 2 (.loop (loopAt 2 code))), (loopO (R := _) 2 (cutOf l2.A l2.c) (cutsOf l2.xs l2.y) l2)), ((.block 5 (.loop (loopAt 5 code))), (loopO (R := _) 5 (cutOf l5.A l5.c) (cutsOf l5.xs l5.y) l5))] := by kernel_rfl
theorem con : ∀ x y, F x = some y → Con prog 7 [.agg [.sc, .row 1 0]] [.sc, .row 2, .sc] (cp.enc x) (cr.enc y).1 (cr.enc y).2 :=
  func_ok (c := code) (n := 174) (pf := [.agg [.sc, .row 1 0]]) (res := [.tmp 2, .tmp 3, .tmp 4]) tabOk uniOk mixed get (by kernel_rfl) (by kernel_rfl) (by kernel_rfl) (by decide) F.eq fun w0 M h x hx => by rw [F.owed] at hx; rcases List.mem_cons.1 hx with rfl | hx; exact l0.ok w0 M h; rcases List.mem_cons.1 hx with rfl | hx; exact l2.ok w0 M h; rcases List.mem_cons.1 hx with rfl | hx; exact l5.ok w0 M h; exact absurd hx List.not_mem_nil
noncomputable def ent : Ent prog uni := Ent.of 7 [.agg [.sc, .row 1 0]] [.sc, .row 2, .sc] cp cr F con fun args w => enters_of get (by kernel_rfl) rfl args w
end Go.Proofs.Ytciafkboilgblaa.AX.F7

/- The function 8 of the program in the small machine. No conditions. -/
namespace Go.Proofs.Ytciafkboilgblaa.AX.F8
open Go Go.Proofs.Try
noncomputable def code : Code := bodyOf f8
abbrev Y : Type := Bool
def cp : Cod uni ((List Int) × (List Int)) := (codC (iRow 2) (cod1 (iRow 2)))
def cr : Coz uni Bool := (cozR (cod1 iBool) (codD (codD cod0)))
noncomputable def es : List (Ent prog uni) := []
theorem get : prog.funcs[8]? = some f8 := by kernel_rfl

def l0.A : Ann := ⟨[(0, .slc 5000000 []), (1, .slc 5000064 []), (5, .sc)], [], [(5000000, false, 2), (5000064, false, 2)], []⟩
def l0.c : Cod uni (Int × (List Int) × (List Int)) := (codC (iInt .i64) (codC (iRow 2) (cod1 (iRow 2))))
def l0.xs : List (AExit × Ann) := [(.ret, ⟨[(4, .sc)], [], [], []⟩), ((.exit 0), ⟨[], [], [], []⟩)]
def l0.y : Coy uni (Bool ⊕ Unit) := (coyS (cod1 iBool) (coy1 cod0))
noncomputable def l0.b : Int × (List Int) × (List Int) → Option ((Int × (List Int) × (List Int)) ⊕ (Bool ⊕ Unit))
  | (v5, r0, r64) =>
  let x0 := (decide (v5 < ((List.length r0) : Int)))
  cond x0 (
   cond ((decide (0 ≤ v5)) && x0) (
    cond ((decide (0 ≤ v5)) && (decide (v5 < ((List.length r64) : Int)))) (
     cond ((List.getD r0 (Int.toNat v5) 0) != (List.getD r64 (Int.toNat v5) 0)) (
      some (.inr (.inl false))) (
      some (.inl ((Go.IntKind.wrap (Go.IntKind.i64 ) (v5 + 1)), r0, r64)))) none) none) (
   some (.inr (.inr ())))
noncomputable def l0 (x : Int × (List Int) × (List Int)) : Option (Bool ⊕ Unit) := lim l0.b x
theorem l0.eq : ∀ x, l0.b x = roundX (mkE tab es 26 [] []) (loopAt 0 code) (cutOf l0.A l0.c) (cutsOf l0.xs l0.y) x := fun x => by kernel_rfl
theorem l0.owed {R : Type} : owed (mkE (R := R) tab es 26 [] []) (loopAt 0 code) = [] := by kernel_rfl
theorem l0.ok (w0 : World) (M : Own) (h : Pinned M []) {R : Type} : SoundO prog w0 M 26 (.block 0 (.loop (loopAt 0 code))) (loopO (R := R) 0 (cutOf l0.A l0.c) (cutsOf l0.xs l0.y) l0) :=
  loop_ok tabOk uniOk mixed l0.eq (h.sub rfl) (h.sub rfl) fun x hx => by rw [l0.owed] at hx; exact absurd hx List.not_mem_nil

noncomputable def F : ((List Int) × (List Int)) → Option (Bool)
  | (p0, p1) =>
  cond (((List.length p0) : Int) != ((List.length p1) : Int)) (
   some false) (
   (l0 (0, p0, p1)).bind fun q => match q with
   | (.inl yl0) =>
    some yl0
   | (.inr yl0) =>
    some true)
theorem F.eq : ∀ x, F x = runF (mkE tab es 26 [(0, some (loopO 0 (cutOf l0.A l0.c) (cutsOf l0.xs l0.y) l0))] []) code [.row 2 0, .row 2 0] [.sc] [.tmp 4] (Coz.dec cr) (cp.enc x) := fun x => by kernel_rfl
theorem F.owed : owed (mkE (R := Bool) tab es 26 [(0, some (loopO 0 (cutOf l0.A l0.c) (cutsOf l0.xs l0.y) l0))] []) code = [((.block 0 (.loop (loopAt 0 code))), (loopO (R := _) 0 (cutOf l0.A l0.c) (cutsOf l0.xs l0.y) l0))] := by kernel_rfl
theorem con : ∀ x y, F x = some y → Con prog 8 [.row 2 0, .row 2 0] [.sc] (cp.enc x) (cr.enc y).1 (cr.enc y).2 :=
  func_ok (c := code) (n := 26) (pf := [.row 2 0, .row 2 0]) (res := [.tmp 4]) tabOk uniOk mixed get (by kernel_rfl) (by kernel_rfl) (by kernel_rfl) (by decide) F.eq fun w0 M h x hx => by rw [F.owed] at hx; rcases List.mem_cons.1 hx with rfl | hx; exact l0.ok w0 M h; exact absurd hx List.not_mem_nil
noncomputable def ent : Ent prog uni := Ent.of 8 [.row 2 0, .row 2 0] [.sc] cp cr F con fun args w => enters_of get (by kernel_rfl) rfl args w
end Go.Proofs.Ytciafkboilgblaa.AX.F8

/- The function 3 of the program in the small machine. No conditions. -/
namespace Go.Proofs.Ytciafkboilgblaa.AX.F3
open Go Go.Proofs.Try
noncomputable def code : Code := bodyOf f3
abbrev Y : Type := Bool
def cp : Cod uni (List Int) := (cod1 (iRow 0))
def cr : Coz uni Bool := (cozR (cod1 iBool) (codD cod0))
noncomputable def es : List (Ent prog uni) := [F5.ent, F6.ent, F7.ent, F8.ent]
theorem get : prog.funcs[3]? = some f3 := by kernel_rfl

def l2.A : Ann := ⟨[(3, .box 5000192 0), (4, .sc), (5, .slc 5000320 []), (10, .sc), (11, .slc 5000704 []), (12, .sc), (13, .sc), (16, .box 5001024 0), (17, .sc), (18, .sc), (19, .sc)], [(5000192, 25, [.sc, .slc 5000203 []]), (5001024, 32, [.sc, .sc, .sc, .sc])], [(5000320, true, 2), (5000704, true, 1), (5000203, true, 1)], []⟩
def l2.c : Cod uni (Int × Int × Int × Int × Bool × Bool × Int × Int × Int × Int × Int × Int × (List Int) × (List S31) × (List S31)) := (codC (iInt .i64) (codC (iInt .i64) (codC (iInt .i64) (codC (iInt .i64) (codC iBool (codC iBool (codC (iInt .i64) (codC (iInt .i64) (codC (iInt .i64) (codC (iInt .i64) (codC (iInt .i64) (codC (iInt .i64) (codC (iRow 2) (codC (iRow 1) (cod1 (iRow 1))))))))))))))))
def l2.xs : List (AExit × Ann) := [((.exit 2), ⟨[(3, .box 5000192 0), (4, .sc), (5, .slc 5000320 []), (10, .sc), (11, .slc 5000704 []), (12, .sc), (13, .sc), (16, .box 5001024 0), (17, .sc), (18, .sc)], [(5000192, 25, [.sc, .slc 5000203 []]), (5001024, 32, [.sc, .sc, .sc, .sc])], [(5000320, true, 2), (5000704, true, 1), (5000203, true, 1)], []⟩)]
def l2.y : Coy uni ((Int × Int × Int × Int × Bool × Bool × Int × Int × Int × Int × Int × (List Int) × (List S31) × (List S31))) := (coy1 (codC (iInt .i64) (codC (iInt .i64) (codC (iInt .i64) (codC (iInt .i64) (codC iBool (codC iBool (codC (iInt .i64) (codC (iInt .i64) (codC (iInt .i64) (codC (iInt .i64) (codC (iInt .i64) (codC (iRow 2) (codC (iRow 1) (cod1 (iRow 1))))))))))))))))
noncomputable def l2.b : Int × Int × Int × Int × Bool × Bool × Int × Int × Int × Int × Int × Int × (List Int) × (List S31) × (List S31) → Option ((Int × Int × Int × Int × Bool × Bool × Int × Int × Int × Int × Int × Int × (List Int) × (List S31) × (List S31)) ⊕ ((Int × Int × Int × Int × Bool × Bool × Int × Int × Int × Int × Int × (List Int) × (List S31) × (List S31))))
  | (v4, v10, v12, v13, v17, v18, v19, b192_0, b1024_0, b1024_1, b1024_2, b1024_3, r320, r704, r203) =>
  let x0 := (decide (v19 < ((List.length r320) : Int)))
  cond x0 (
   cond ((!(!v18)) || ((decide (0 ≤ v19)) && x0)) (
    some (.inl (v4, v10, v12, v13, v17, (v18 || ((List.getD r320 (Int.toNat v19) 0) == (Go.IntKind.wrap (Go.IntKind.i64 ) (v12 - 1)))), (Go.IntKind.wrap (Go.IntKind.i64 ) (v19 + 1)), b192_0, b1024_0, b1024_1, b1024_2, b1024_3, r320, r704, r203))) none) (
   some (.inr (v4, v10, v12, v13, v17, v18, b192_0, b1024_0, b1024_1, b1024_2, b1024_3, r320, r704, r203)))
noncomputable def l2 (x : Int × Int × Int × Int × Bool × Bool × Int × Int × Int × Int × Int × Int × (List Int) × (List S31) × (List S31)) : Option ((Int × Int × Int × Int × Bool × Bool × Int × Int × Int × Int × Int × (List Int) × (List S31) × (List S31))) := lim l2.b x
theorem l2.eq : ∀ x, l2.b x = roundX (mkE tab es 172 [] []) (loopAt 2 code) (cutOf l2.A l2.c) (cutsOf l2.xs l2.y) x := fun x => by kernel_rfl
theorem l2.owed {R : Type} : owed (mkE (R := R) tab es 172 [] []) (loopAt 2 code) = [] := by kernel_rfl
theorem l2.ok (w0 : World) (M : Own) (h : Pinned M []) {R : Type} : SoundO prog w0 M 172 (.block 2 (.loop (loopAt 2 code))) (loopO (R := R) 2 (cutOf l2.A l2.c) (cutsOf l2.xs l2.y) l2) :=
  loop_ok tabOk uniOk mixed l2.eq (h.sub rfl) (h.sub rfl) fun x hx => by rw [l2.owed] at hx; exact absurd hx List.not_mem_nil

def l0.A : Ann := ⟨[(3, .box 5000192 0), (4, .sc), (5, .slc 5000320 []), (10, .sc), (11, .slc 5000704 []), (12, .sc)], [(5000192, 25, [.sc, .slc 5000203 []])], [(5000320, true, 2), (5000704, true, 1), (5000203, true, 1)], []⟩
def l0.c : Cod uni (Int × Int × Int × Int × (List Int) × (List S31) × (List S31)) := (codC (iInt .i64) (codC (iInt .i64) (codC (iInt .i64) (codC (iInt .i64) (codC (iRow 2) (codC (iRow 1) (cod1 (iRow 1))))))))
def l0.xs : List (AExit × Ann) := [(.ret, ⟨[(2, .sc)], [], [], []⟩), ((.exit 0), ⟨[(3, .box 5000192 0), (4, .sc), (10, .sc), (11, .slc 5000704 [])], [(5000192, 25, [.sc, .slc 5000203 []])], [(5000704, true, 1), (5000203, true, 1)], []⟩)]
def l0.y : Coy uni (Bool ⊕ (Int × Int × Int × (List S31) × (List S31))) := (coyS (cod1 iBool) (coy1 (codC (iInt .i64) (codC (iInt .i64) (codC (iInt .i64) (codC (iRow 1) (cod1 (iRow 1))))))))
noncomputable def l0.b : Int × Int × Int × Int × (List Int) × (List S31) × (List S31) → Option ((Int × Int × Int × Int × (List Int) × (List S31) × (List S31)) ⊕ (Bool ⊕ (Int × Int × Int × (List S31) × (List S31))))
  | (v4, v10, v12, b192_0, r320, r704, r203) =>
  let x5 := ((List.length r203) : Int)
  let x4 := (decide (v12 ≤ x5))
  cond x4 (
   cond (((decide (0 ≤ 0)) && (decide (0 ≤ v12))) && x4) (
    (F6.F (b192_0, (List.take (Int.toNat (v12 - 0)) (List.drop (Int.toNat 0) r203)))).bind fun y6 =>
    cond (((y6.2.2 != 0) || (decide (y6.1 > v10))) || (decide (y6.1 < (Go.IntKind.wrap (Go.IntKind.i64 ) (v10 - 2))))) (
     some (.inr (.inl false))) (
     cond ((v12 == 0) && (y6.1 != v10)) (
      some (.inr (.inl false))) (
      cond (decide (v12 > 0)) (
       let x3 := (Go.IntKind.wrap (Go.IntKind.i64 ) (v12 - 1))
       cond ((decide (0 ≤ x3)) && (decide (x3 < x5))) (
        let x1 := (List.getD r203 (Int.toNat x3) z31)
        (l2 (v4, v10, v12, y6.1, ((x1.f0 == 5) || (x1.f0 == 6)), false, 0, b192_0, x1.f0, x1.f1, x1.f2, x1.f3, r320, r704, r203)).bind fun yl2 =>
        cond (!((yl2.2.2.2.1 == yl2.2.1) == (yl2.2.2.2.2.1 || yl2.2.2.2.2.2.1))) (
         some (.inr (.inl false))) (
         let x2 := (Go.IntKind.wrap (Go.IntKind.i64 ) (yl2.2.2.1 + 1))
         cond (!yl2.2.2.2.2.2.1) (
          let x0 := ((⟨yl2.2.2.2.2.2.2.2.1, yl2.2.2.2.2.2.2.2.2.1, yl2.2.2.2.2.2.2.2.2.2.1, yl2.2.2.2.2.2.2.2.2.2.2.1⟩ : S31) :: [])
          cond (decide (((List.length yl2.2.2.2.2.2.2.2.2.2.2.2.2.1) + (List.length x0)) ≤ 274877906944)) (
           some (.inl (yl2.1, yl2.2.2.2.1, x2, yl2.2.2.2.2.2.2.1, yl2.2.2.2.2.2.2.2.2.2.2.2.1, (yl2.2.2.2.2.2.2.2.2.2.2.2.2.1 ++ x0), yl2.2.2.2.2.2.2.2.2.2.2.2.2.2))) none) (
          some (.inl (yl2.1, yl2.2.2.2.1, x2, yl2.2.2.2.2.2.2.1, yl2.2.2.2.2.2.2.2.2.2.2.2.1, yl2.2.2.2.2.2.2.2.2.2.2.2.2.1, yl2.2.2.2.2.2.2.2.2.2.2.2.2.2))))) none) (
       some (.inl (v4, y6.1, (Go.IntKind.wrap (Go.IntKind.i64 ) (v12 + 1)), b192_0, r320, r704, r203)))))) none) (
   some (.inr (.inr (v4, v10, b192_0, r704, r203))))
noncomputable def l0 (x : Int × Int × Int × Int × (List Int) × (List S31) × (List S31)) : Option (Bool ⊕ (Int × Int × Int × (List S31) × (List S31))) := lim l0.b x
theorem l0.eq : ∀ x, l0.b x = roundX (mkE tab es 172 [(2, some (loopO 2 (cutOf l2.A l2.c) (cutsOf l2.xs l2.y) l2))] []) (loopAt 0 code) (cutOf l0.A l0.c) (cutsOf l0.xs l0.y) x := fun x => by kernel_rfl
theorem l0.owed {R : Type} : owed (mkE (R := R) tab es 172 [(2, some (loopO 2 (cutOf l2.A l2.c) (cutsOf l2.xs l2.y) l2))] []) (loopAt 0 code) = [((.block 2 (.loop (loopAt 2 code))), (loopO (R := _) 2 (cutOf l2.A l2.c) (cutsOf l2.xs l2.y) l2))] := by kernel_rfl
theorem l0.ok (w0 : World) (M : Own) (h : Pinned M []) {R : Type} : SoundO prog w0 M 172 (.block 0 (.loop (loopAt 0 code))) (loopO (R := R) 0 (cutOf l0.A l0.c) (cutsOf l0.xs l0.y) l0) :=
  loop_ok tabOk uniOk mixed l0.eq (h.sub rfl) (h.sub rfl) fun x hx => by rw [l0.owed] at hx; rcases List.mem_cons.1 hx with rfl | hx; exact l2.ok w0 M h; exact absurd hx List.not_mem_nil

noncomputable def F : (List Int) → Option (Bool)
  | p0 =>
  cond (decide (((List.length p0) : Int) > 1048576)) (
   some true) (
   (F5.F p0).bind fun y5 =>
   (F6.F (y5.1, y5.2)).bind fun y6 =>
   (F7.F (y5.1, y5.2)).bind fun y7 =>
   let x0 := (l0 (y6.1, (Go.IntKind.wrap (Go.IntKind.i64 ) (2 * y5.1)), 0, y5.1, y6.2.1, ([] : List S31), y5.2))
   let x1 := ((y6.2.2 != y7.2.2) || (y6.1 != y7.1))
   cond (!x1) (
    (F8.F (y6.2.1, y7.2.1)).bind fun y8 =>
    cond (x1 || (!y8)) (
     some false) (
     cond (y6.2.2 != 0) (
      some true) (
      x0.bind fun q => match q with
      | (.inl yl0) =>
       some yl0
      | (.inr yl0) =>
       (F6.F (yl0.2.2.1, yl0.2.2.2.1)).bind fun y6x2 =>
       some ((((yl0.2.1 == yl0.1) && (y6x2.2.2 == 0)) && (y6x2.1 == yl0.1)) && (((List.length y6x2.2.1) : Int) == 0))))) (
    cond (x1 || true) (
     some false) (
     cond (y6.2.2 != 0) (
      some true) (
      x0.bind fun q => match q with
      | (.inl yl0) =>
       some yl0
      | (.inr yl0) =>
       (F6.F (yl0.2.2.1, yl0.2.2.2.1)).bind fun y6x2 =>
       some ((((yl0.2.1 == yl0.1) && (y6x2.2.2 == 0)) && (y6x2.1 == yl0.1)) && (((List.length y6x2.2.1) : Int) == 0))))))
theorem F.eq : ∀ x, F x = runF (mkE tab es 172 [(0, some (loopO 0 (cutOf l0.A l0.c) (cutsOf l0.xs l0.y) l0))] []) code [.row 0 0] [.sc] [.tmp 2] (Coz.dec cr) (cp.enc x) := fun x => by kernel_rfl
theorem F.owed : owed (mkE (R := Bool) tab es 172 [(0, some (loopO 0 (cutOf l0.A l0.c) (cutsOf l0.xs l0.y) l0))] []) code = [((.block 0 (.loop (loopAt 0 code))), (loopO (R := _) 0 (cutOf l0.A l0.c) (cutsOf l0.xs l0.y) l0))] := by kernel_rfl
theorem con : ∀ x y, F x = some y → Con prog 3 [.row 0 0] [.sc] (cp.enc x) (cr.enc y).1 (cr.enc y).2 :=
  func_ok (c := code) (n := 172) (pf := [.row 0 0]) (res := [.tmp 2]) tabOk uniOk mixed get (by kernel_rfl) (by kernel_rfl) (by kernel_rfl) (by decide) F.eq fun w0 M h x hx => by rw [F.owed] at hx; rcases List.mem_cons.1 hx with rfl | hx; exact l0.ok w0 M h; exact absurd hx List.not_mem_nil
noncomputable def ent : Ent prog uni := Ent.of 3 [.row 0 0] [.sc] cp cr F con fun args w => enters_of get (by kernel_rfl) rfl args w
end Go.Proofs.Ytciafkboilgblaa.AX.F3

/- Small facts for plain laws. No conditions. -/
namespace Go.Proofs.Ytciafkboilgblaa.AX
open Go

theorem w64 {x : Int} (h0 : -9223372036854775808 ≤ x) (h1 : x < 9223372036854775808) : IntKind.wrap .i64 x = x := by
  unfold IntKind.wrap
  simp [IntKind.signed, IntKind.bits]
  omega

/- Not by rfl: a proof by simp then names each step, and the kernel need not find them. -/
theorem bS {α β : Type} {x : α} {f : α → Option β} : (some x).bind f = f x := by simp
theorem bN {α β : Type} {f : α → Option β} : (none : Option α).bind f = none := by simp
theorem cT {α : Type} {a b : α} : cond true a b = a := by simp
theorem cF {α : Type} {a b : α} : cond false a b = b := by simp

theorem dT {p : Prop} [Decidable p] (h : p) : decide p = true := decide_eq_true h
theorem dF {p : Prop} [Decidable p] (h : ¬ p) : decide p = false := decide_eq_false h

section
variable {α : Type} [BEq α] [LawfulBEq α] {a b : α}
theorem qT (h : a = b) : (a == b) = true := by simp [h]
theorem qF (h : ¬ a = b) : (a == b) = false := by simpa using h
theorem nT (h : ¬ a = b) : (a != b) = true := by simp [bne, qF h]
theorem nF (h : a = b) : (a != b) = false := by simp [bne, h]
end

theorem lim_in {X Y : Type} {f : X → Option (X ⊕ Y)} {x x' : X} (h : f x = some (.inl x')) : lim f x = lim f x' := by rw [lim_step, h]; rfl
theorem lim_out {X Y : Type} {f : X → Option (X ⊕ Y)} {x : X} {y : Y} (h : f x = some (.inr y)) : lim f x = some y := by rw [lim_step, h]; rfl

/-- So many rounds, told one by one. -/
theorem lim_to {X Y : Type} {f : X → Option (X ⊕ Y)} (s : Nat → X) : ∀ (n : Nat), (∀ i, i < n → f (s i) = some (.inl (s (i + 1)))) → lim f (s 0) = lim f (s n)
  | 0, _ => rfl
  | n + 1, h => by rw [lim_to s n fun i hi => h i (by omega), lim_in (h n (by omega))]
theorem lim_run {X Y : Type} {f : X → Option (X ⊕ Y)} (s : Nat → X) (n : Nat) {y : Y} (h : ∀ i, i < n → f (s i) = some (.inl (s (i + 1)))) (hn : f (s n) = some (.inr y)) : lim f (s 0) = some y := by
  rw [lim_to s n h, lim_out hn]

/-- A row looked through, until one falls. -/
theorem lim_scan {X Y α : Type} {f : X → Option (X ⊕ Y)} (s : Nat → X) (l : List α) (d : α) (p : α → Bool) {y z : Y} (h : ∀ i, i < l.length → f (s i) = some (if p (l.getD i d) then .inl (s (i + 1)) else .inr y)) (hn : f (s l.length) = some (.inr z)) :
    lim f (s 0) = some (if l.all p then z else y) := by
  have main : ∀ (n i : Nat), l.length - i ≤ n → i ≤ l.length → lim f (s i) = some (if (l.drop i).all p then z else y) := by
    intro n
    induction n with
    | zero =>
      intro i hi hi2
      have : i = l.length := by omega
      subst this
      rw [lim_out hn]; simp
    | succ n ih =>
      intro i hi hi2
      by_cases e : i = l.length
      · subst e; rw [lim_out hn]; simp
      · have hlt : i < l.length := by omega
        have hd : l.drop i = l.getD i d :: l.drop (i + 1) := by simp [List.getD, hlt]
        rw [hd, List.all_cons]
        cases hp : p (l.getD i d) with
        | true => rw [lim_in (x' := s (i + 1)) (by rw [h i hlt, hp]; rfl), ih (i + 1) (by omega) (by omega)]; simp
        | false => rw [lim_out (y := y) (by rw [h i hlt, hp]; rfl)]; simp
  simpa using main l.length 0 (by omega) (by omega)

/-- A row gone through, with something carried along. -/
theorem lim_fold {X Y α A : Type} {f : X → Option (X ⊕ Y)} (s : Nat → A → X) (l : List α) (d : α) (g : A → α → A) (I : A → Prop) {z : A → Y} (a0 : A) (h0 : I a0) (hI : ∀ a i, i < l.length → I a → I (g a (l.getD i d))) (h : ∀ i a, i < l.length → I a → f (s i a) = some (.inl (s (i + 1) (g a (l.getD i d))))) (hn : ∀ a, I a → f (s l.length a) = some (.inr (z a))) :
    lim f (s 0 a0) = some (z (l.foldl g a0)) := by
  have main : ∀ (n i : Nat) (a : A), l.length - i ≤ n → i ≤ l.length → I a → lim f (s i a) = some (z ((l.drop i).foldl g a)) := by
    intro n
    induction n with
    | zero =>
      intro i a hi hi2 ha
      have : i = l.length := by omega
      subst this
      rw [lim_out (hn a ha)]; simp
    | succ n ih =>
      intro i a hi hi2 ha
      by_cases e : i = l.length
      · subst e; rw [lim_out (hn a ha)]; simp
      · have hlt : i < l.length := by omega
        have hd : l.drop i = l.getD i d :: l.drop (i + 1) := by simp [List.getD, hlt]
        rw [hd, List.foldl_cons, lim_in (h i a hlt ha), ih (i + 1) _ (by omega) (by omega) (hI a i hlt ha)]
  simpa using main l.length 0 a0 (by omega) (by omega) h0

/-- .. with a way out. -/
def goL {α A Y : Type} (g : A → α → A ⊕ Y) : List α → A → A ⊕ Y
  | [], a => .inl a
  | x :: r, a => match g a x with
    | .inl a' => goL g r a'
    | .inr y => .inr y
theorem lim_go {X Y α A B : Type} {f : X → Option (X ⊕ Y)} (s : Nat → A → X) (l : List α) (d : α) (g : A → α → A ⊕ B) (I : A → Prop) {z : A → Y} {o : B → Y} (a0 : A) (h0 : I a0) (hI : ∀ a i a', i < l.length → I a → g a (l.getD i d) = .inl a' → I a')
    (h : ∀ i a, i < l.length → I a → f (s i a) = some (match g a (l.getD i d) with | .inl a' => .inl (s (i + 1) a') | .inr y => .inr (o y))) (hn : ∀ a, I a → f (s l.length a) = some (.inr (z a))) :
    lim f (s 0 a0) = some (Sum.elim z o (goL g l a0)) := by
  have main : ∀ (n i : Nat) (a : A), l.length - i ≤ n → i ≤ l.length → I a → lim f (s i a) = some (Sum.elim z o (goL g (l.drop i) a)) := by
    intro n
    induction n with
    | zero =>
      intro i a hi hi2 ha
      have : i = l.length := by omega
      subst this
      rw [lim_out (hn a ha)]; simp [goL]
    | succ n ih =>
      intro i a hi hi2 ha
      by_cases e : i = l.length
      · subst e; rw [lim_out (hn a ha)]; simp [goL]
      · have hlt : i < l.length := by omega
        have hd : l.drop i = l.getD i d :: l.drop (i + 1) := by simp [List.getD, hlt]
        have hf := h i a hlt ha
        rw [hd, goL]
        cases hg : g a (l.getD i d) with
        | inl a' => rw [hg] at hf; rw [lim_in hf, ih (i + 1) a' (by omega) (by omega) (hI a i a' hlt ha hg)]
        | inr y => rw [hg] at hf; rw [lim_out hf]; rfl
  simpa using main l.length 0 a0 (by omega) (by omega) h0

theorem getD_lt {α : Type} {l : List α} {i : Nat} {d : α} (h : i < l.length) : l.getD i d = l[i] := by simp [List.getD, h]

theorem set_self {α : Type} {l : List α} {i : Nat} {d : α} : l.set i (l.getD i d) = l := by
  by_cases h : i < l.length
  · rw [getD_lt h, List.set_getElem_self]
  · rw [List.set_eq_of_length_le (by omega)]

theorem getD_set {α : Type} {l : List α} {i : Nat} {d x : α} (h : i < l.length) : (l.set i x).getD i d = x := by simp [List.getD, h]

theorem set_app {α : Type} {p r : List α} {x y : α} {i : Nat} (h : i = p.length) : (p ++ x :: r).set i y = p ++ y :: r := by subst h; simp

theorem drop_cons {α : Type} {l : List α} {i : Nat} (h : i < l.length) : l.drop i = l[i] :: l.drop (i + 1) := by simp

section
variable {A B E : Type}

/-- A row laid anew, as far as i. -/
def upTo (c : A → B) (z : B) (l : List A) (i : Nat) : List B := (l.take i).map c ++ List.replicate (l.length - i) z
theorem upTo_zero {c : A → B} {z : B} {l : List A} : upTo c z l 0 = List.replicate l.length z := by simp [upTo]
theorem upTo_all {c : A → B} {z : B} {l : List A} : upTo c z l l.length = l.map c := by simp [upTo]
theorem upTo_len {c : A → B} {z : B} {l : List A} {i : Nat} (h : i ≤ l.length) : (upTo c z l i).length = l.length := by simp [upTo]; omega
theorem upTo_set {c : A → B} {z : B} {l : List A} {i : Nat} {d : A} (h : i < l.length) : (upTo c z l i).set i (c (l.getD i d)) = upTo c z l (i + 1) := by
  unfold upTo
  rw [show l.length - i = (l.length - (i + 1)) + 1 by omega, List.replicate_succ, set_app (by simp; omega), getD_lt h, ← List.take_append_getElem h, List.map_append, List.append_assoc]
  rfl

/-- Each element turned, with a number that counts on. -/
def mkL (g : Int → E → E) (c : E → Int) : Int → List E → List E
  | _, [] => []
  | k, x :: r => g k x :: mkL g c (k + c x) r
def mkK (c : E → Int) : Int → List E → Int
  | k, [] => k
  | k, x :: r => mkK c (k + c x) r
theorem mkL_len {g : Int → E → E} {c : E → Int} : ∀ {k : Int} {l : List E}, (mkL g c k l).length = l.length
  | _, [] => rfl
  | _, _ :: _ => by simp [mkL, mkL_len]
theorem mkL_app {g : Int → E → E} {c : E → Int} : ∀ {k : Int} {l r : List E}, mkL g c k (l ++ r) = mkL g c k l ++ mkL g c (mkK c k l) r
  | _, [], _ => rfl
  | k, x :: l, r => by simp [mkL, mkK, mkL_app]
theorem mkK_app {c : E → Int} : ∀ {k : Int} {l r : List E}, mkK c k (l ++ r) = mkK c (mkK c k l) r
  | _, [], _ => rfl
  | k, x :: l, r => by simp [mkK, mkK_app]
theorem mkK_take {c : E → Int} {k : Int} {l : List E} {i : Nat} {d : E} (h : i < l.length) : mkK c k (l.take (i + 1)) = mkK c k (l.take i) + c (l.getD i d) := by
  rw [← List.take_append_getElem h, mkK_app, getD_lt h]; rfl
theorem mkK_const {n : Int} : ∀ {k : Int} {l : List E}, mkK (fun _ => n) k l = k + n * l.length
  | k, [] => by simp [mkK]
  | k, x :: l => by
    simp only [mkK, mkK_const, List.length_cons]
    rw [show ((l.length + 1 : Nat) : Int) = (l.length : Int) + 1 from rfl, Int.mul_add, Int.mul_one]; omega
theorem mkK_le {c : E → Int} (hc : ∀ x, 0 ≤ c x) : ∀ {k : Int} {l : List E}, k ≤ mkK c k l
  | k, [] => Int.le_refl _
  | k, x :: l => by
    have := mkK_le hc (k := k + c x) (l := l)
    have := hc x
    simp only [mkK]; omega
def mkAt (g : Int → E → E) (c : E → Int) (k : Int) (l : List E) (i : Nat) : List E := mkL g c k (l.take i) ++ l.drop i
theorem mkAt_zero {g : Int → E → E} {c : E → Int} {k : Int} {l : List E} : mkAt g c k l 0 = l := by simp [mkAt, mkL]
theorem mkAt_all {g : Int → E → E} {c : E → Int} {k : Int} {l : List E} : mkAt g c k l l.length = mkL g c k l := by simp [mkAt]
theorem mkAt_len {g : Int → E → E} {c : E → Int} {k : Int} {l : List E} {i : Nat} : (mkAt g c k l i).length = l.length := by simp [mkAt, mkL_len]; omega
theorem mkAt_get {g : Int → E → E} {c : E → Int} {k : Int} {l : List E} {i : Nat} {d : E} (h : i < l.length) : (mkAt g c k l i).getD i d = l.getD i d := by
  unfold mkAt
  have : (mkL g c k (l.take i)).length = i := by rw [mkL_len]; simp; omega
  rw [getD_lt (by simp [this]; omega), getD_lt h, List.getElem_append_right (by omega)]
  simp [this]
theorem mkAt_set {g : Int → E → E} {c : E → Int} {k : Int} {l : List E} {i : Nat} {d : E} (h : i < l.length) : (mkAt g c k l i).set i (g (mkK c k (l.take i)) (l.getD i d)) = mkAt g c k l (i + 1) := by
  unfold mkAt
  rw [drop_cons h, set_app (by rw [mkL_len]; simp; omega), getD_lt h, ← List.take_append_getElem h, mkL_app, List.append_assoc]
  rfl
theorem mkL_get {g : Int → E → E} {c : E → Int} : ∀ {k : Int} {l : List E} {i : Nat} {d : E}, i < l.length → (mkL g c k l).getD i d = g (mkK c k (l.take i)) (l.getD i d)
  | k, x :: l, 0, d, _ => by simp [mkL, mkK]
  | k, x :: l, i + 1, d, h => by
    have := mkL_get (g := g) (c := c) (k := k + c x) (l := l) (i := i) (d := d) (by simpa using h)
    simpa [mkL, mkK, List.getD] using this
end


/-- Two rows compared, element by element. -/
theorem eq_rows {E : Type} {p q : List E} (d : E) (hl : p.length = q.length) : p = q ∨ ∃ i, i < p.length ∧ (∀ j, j < i → p.getD j d = q.getD j d) ∧ p.getD i d ≠ q.getD i d := by
  induction p generalizing q with
  | nil => cases q with
    | nil => exact .inl rfl
    | cons _ _ => simp at hl
  | cons x p ih =>
    cases q with
    | nil => simp at hl
    | cons y q =>
      by_cases h : x = y
      · subst h
        rcases ih (by simpa using hl) with h | ⟨i, h1, h2, h3⟩
        · exact .inl (by rw [h])
        · refine .inr ⟨i + 1, by simpa using h1, fun j hj => ?_, by simpa using h3⟩
          cases j with
          | zero => rfl
          | succ j => simpa using h2 j (by omega)
      · exact .inr ⟨0, by simp, fun j hj => by omega, by simpa using h⟩

end Go.Proofs.Ytciafkboilgblaa.AX

/- Sketches: are they right? No conditions. -/
namespace Go.Proofs.Ytciafkboilgblaa.AX
open Go

structure RuleP (n : Int) (x : S31) : Prop where
  k1 : 1 ≤ x.f0
  k9 : x.f0 ≤ 9
  a0 : 0 ≤ x.f1
  an : x.f1 < n
  b0 : 0 ≤ x.f2
  bn : x.f2 < n
  m0 : -100000 ≤ x.f3
  m1 : x.f3 ≤ 100000
  bz : x.f0 ≤ 2 → x.f2 = 0
  mz : 7 ≤ x.f0 → x.f3 = 0
instance (n : Int) (x : S31) : Decidable (RuleP n x) :=
  if h : 1 ≤ x.f0 ∧ x.f0 ≤ 9 ∧ 0 ≤ x.f1 ∧ x.f1 < n ∧ 0 ≤ x.f2 ∧ x.f2 < n ∧ -100000 ≤ x.f3 ∧ x.f3 ≤ 100000 ∧ (x.f0 ≤ 2 → x.f2 = 0) ∧ (7 ≤ x.f0 → x.f3 = 0) then
    .isTrue ⟨h.1, h.2.1, h.2.2.1, h.2.2.2.1, h.2.2.2.2.1, h.2.2.2.2.2.1, h.2.2.2.2.2.2.1, h.2.2.2.2.2.2.2.1, h.2.2.2.2.2.2.2.2.1, h.2.2.2.2.2.2.2.2.2⟩
  else .isFalse fun q => h ⟨q.k1, q.k9, q.a0, q.an, q.b0, q.bn, q.m0, q.m1, q.bz, q.mz⟩
def headB (n : Int) (rs : List S31) : Bool := ((decide (n < 1)) || (decide (n > 24))) || (decide ((rs.length : Int) > 60))
def okS (n : Int) (rs : List S31) : Bool := !headB n rs && rs.all fun x => decide (RuleP n x)

theorem head_len {n : Int} {rs : List S31} (h : headB n rs = false) : rs.length ≤ 60 ∧ 1 ≤ n ∧ n ≤ 24 := by
  unfold headB at h
  simp only [Bool.or_eq_false_iff, decide_eq_false_iff_not] at h
  omega

theorem okS_all {n : Int} {rs : List S31} (h : okS n rs = true) : rs.length ≤ 60 ∧ 1 ≤ n ∧ n ≤ 24 ∧ ∀ x ∈ rs, RuleP n x := by
  unfold okS at h
  rw [Bool.and_eq_true, Bool.not_eq_true'] at h
  obtain ⟨h1, h2⟩ := h
  obtain ⟨a, b, c⟩ := head_len h1
  exact ⟨a, b, c, fun x hx => by have := List.all_eq_true.1 h2 x hx; exact of_decide_eq_true this⟩

theorem dEq {p q : Prop} [Decidable p] [Decidable q] (h : p ↔ q) : decide p = decide q := by
  by_cases hp : p
  · rw [dT hp, dT (h.1 hp)]
  · rw [dF hp, dF (fun hq => hp (h.2 hq))]
theorem neD {a b : Int} : (a != b) = decide (a ≠ b) := by
  by_cases h : a = b
  · rw [nF h, dF (fun q => q h)]
  · rw [nT h, dT h]

theorem F19.ok (n : Int) (rs : List S31) : F19.F (n, rs) = some (okS n rs) := by
  unfold okS
  cases hh : headB n rs with
  | true => unfold headB at hh; simp only [F19.F, hh, cT, Bool.not_true, Bool.false_and]
  | false =>
    obtain ⟨hl, h1, h24⟩ := head_len hh
    have l0 : F19.l0 ((rs.length : Int), 0, n, rs) = some (if rs.all (fun x => decide (RuleP n x)) = true then .inr () else .inl false) :=
      lim_scan (f := F19.l0.b) (fun k => ((rs.length : Int), (k : Int), n, rs)) rs z31 (fun x => decide (RuleP n x)) (y := .inl false) (z := .inr ()) (fun k hk => by
        have d1 : decide ((k : Int) < (rs.length : Int)) = true := dT (by omega)
        have d2 : decide ((0 : Int) ≤ (k : Int)) = true := dT (by omega)
        have w : Go.IntKind.wrap .i64 ((k : Int) + 1) = ((k + 1 : Nat) : Int) := by rw [w64 (by omega) (by omega)]; rfl
        generalize hx : rs.getD k z31 = x
        have b1 : ((((decide (x.f0 < 1)) || (decide (x.f0 > 9))) || (decide (x.f1 < 0))) || (decide (x.f1 ≥ n))) = decide (((x.f0 < 1 ∨ x.f0 > 9) ∨ x.f1 < 0) ∨ x.f1 ≥ n) := by
          simp only [Bool.decide_or]
        have b2 : ((((decide (x.f0 ≤ 2)) && (x.f2 != 0)) || (decide (x.f2 < 0))) || (decide (x.f2 ≥ n))) = decide (((x.f0 ≤ 2 ∧ x.f2 ≠ 0) ∨ x.f2 < 0) ∨ x.f2 ≥ n) := by
          simp only [Bool.decide_or, Bool.decide_and, neD]
        have b3 : ((((decide (x.f0 ≥ 7)) && (x.f3 != 0)) || (decide (x.f3 < (-100000)))) || (decide (x.f3 > 100000))) = decide (((x.f0 ≥ 7 ∧ x.f3 ≠ 0) ∨ x.f3 < -100000) ∨ x.f3 > 100000) := by
          simp only [Bool.decide_or, Bool.decide_and, neD]
        by_cases c1 : ((x.f0 < 1 ∨ x.f0 > 9) ∨ x.f1 < 0) ∨ x.f1 ≥ n
        · rw [dT c1] at b1
          have e : decide (RuleP n x) = false := dF fun q => by have := q.k1; have := q.k9; have := q.a0; have := q.an; omega
          simp only [F19.l0.b, Int.toNat_natCast, hx, d1, d2, Bool.and_self, cT, b1, e, Bool.false_eq_true, if_false]
        · rw [dF c1] at b1
          by_cases c2 : ((x.f0 ≤ 2 ∧ x.f2 ≠ 0) ∨ x.f2 < 0) ∨ x.f2 ≥ n
          · rw [dT c2] at b2
            have e : decide (RuleP n x) = false := dF fun q => by have := q.b0; have := q.bn; have := q.bz; omega
            simp only [F19.l0.b, Int.toNat_natCast, hx, d1, d2, Bool.and_self, cT, cF, b1, b2, e, Bool.false_eq_true, if_false]
          · rw [dF c2] at b2
            by_cases c3 : ((x.f0 ≥ 7 ∧ x.f3 ≠ 0) ∨ x.f3 < -100000) ∨ x.f3 > 100000
            · rw [dT c3] at b3
              have e : decide (RuleP n x) = false := dF fun q => by have := q.m0; have := q.m1; have := q.mz; omega
              simp only [F19.l0.b, Int.toNat_natCast, hx, d1, d2, Bool.and_self, cT, cF, b1, b2, b3, e, Bool.false_eq_true, if_false]
            · rw [dF c3] at b3
              have e : decide (RuleP n x) = true := dT ⟨by omega, by omega, by omega, by omega, by omega, by omega, by omega, by omega, by omega, by omega⟩
              simp only [F19.l0.b, Int.toNat_natCast, hx, d1, d2, Bool.and_self, cT, cF, b1, b2, b3, e, if_true, w])
      (by
        have d1 : decide ((rs.length : Int) < (rs.length : Int)) = false := dF (by omega)
        simp only [F19.l0.b, d1, cF])
    unfold headB at hh
    simp only [F19.F, hh, cF, l0, bS, Bool.not_false, Bool.true_and]
    cases rs.all (fun x => decide (RuleP n x)) <;> rfl

theorem F18.ok (n : Int) (rs : List S31) : F18.F (n, rs) = some (okS n rs) := by
  unfold okS
  cases hh : headB n rs with
  | true => unfold headB at hh; simp only [F18.F, hh, cT, Bool.not_true, Bool.false_and]
  | false =>
    obtain ⟨hl, h1, h24⟩ := head_len hh
    have l0 : F18.l0 (0, n, rs) = some (if rs.all (fun x => decide (RuleP n x)) = true then .inr () else .inl false) :=
      lim_scan (f := F18.l0.b) (fun k => ((k : Int), n, rs)) rs z31 (fun x => decide (RuleP n x)) (y := .inl false) (z := .inr ()) (fun k hk => by
        have d1 : decide ((k : Int) < (rs.length : Int)) = true := dT (by omega)
        have d2 : decide ((0 : Int) ≤ (k : Int)) = true := dT (by omega)
        have w : Go.IntKind.wrap .i64 ((k : Int) + 1) = ((k + 1 : Nat) : Int) := by rw [w64 (by omega) (by omega)]; rfl
        generalize hx : rs.getD k z31 = x
        have e35 : F35.F x.f0 = some ((decide (x.f0 ≥ 3)), (decide (x.f0 ≤ 6))) := rfl
        have b1 : ((((decide (x.f0 < 1)) || (decide (x.f0 > 9))) || (decide (x.f1 < 0))) || (decide (x.f1 ≥ n))) = decide (((x.f0 < 1 ∨ x.f0 > 9) ∨ x.f1 < 0) ∨ x.f1 ≥ n) := by
          simp only [Bool.decide_or]
        have b2 : ((decide (x.f0 ≥ 3) && ((decide (x.f2 < 0)) || (decide (x.f2 ≥ n)))) || ((!decide (x.f0 ≥ 3)) && (x.f2 != 0))) = decide ((x.f0 ≥ 3 ∧ (x.f2 < 0 ∨ x.f2 ≥ n)) ∨ (¬ x.f0 ≥ 3 ∧ x.f2 ≠ 0)) := by
          simp only [Bool.decide_or, Bool.decide_and, neD, decide_not]
        have b3 : ((decide (x.f0 ≤ 6) && ((decide (x.f3 < (-100000))) || (decide (x.f3 > 100000)))) || ((!decide (x.f0 ≤ 6)) && (x.f3 != 0))) = decide ((x.f0 ≤ 6 ∧ (x.f3 < -100000 ∨ x.f3 > 100000)) ∨ (¬ x.f0 ≤ 6 ∧ x.f3 ≠ 0)) := by
          simp only [Bool.decide_or, Bool.decide_and, neD, decide_not]
        by_cases c1 : ((x.f0 < 1 ∨ x.f0 > 9) ∨ x.f1 < 0) ∨ x.f1 ≥ n
        · rw [dT c1] at b1
          have e : decide (RuleP n x) = false := dF fun q => by have := q.k1; have := q.k9; have := q.a0; have := q.an; omega
          simp only [F18.l0.b, Int.toNat_natCast, hx, d1, d2, Bool.and_self, cT, b1, e, Bool.false_eq_true, if_false]
        · rw [dF c1] at b1
          by_cases c2 : (x.f0 ≥ 3 ∧ (x.f2 < 0 ∨ x.f2 ≥ n)) ∨ (¬ x.f0 ≥ 3 ∧ x.f2 ≠ 0)
          · rw [dT c2] at b2
            have e : decide (RuleP n x) = false := dF fun q => by have := q.b0; have := q.bn; have := q.bz; omega
            simp only [F18.l0.b, Int.toNat_natCast, hx, d1, d2, Bool.and_self, cT, cF, b1, e35, bS, b2, e, Bool.false_eq_true, if_false]
          · rw [dF c2] at b2
            by_cases c3 : (x.f0 ≤ 6 ∧ (x.f3 < -100000 ∨ x.f3 > 100000)) ∨ (¬ x.f0 ≤ 6 ∧ x.f3 ≠ 0)
            · rw [dT c3] at b3
              have e : decide (RuleP n x) = false := dF fun q => by have := q.m0; have := q.m1; have := q.mz; omega
              simp only [F18.l0.b, Int.toNat_natCast, hx, d1, d2, Bool.and_self, cT, cF, b1, e35, bS, b2, b3, e, Bool.false_eq_true, if_false]
            · rw [dF c3] at b3
              have e : decide (RuleP n x) = true := dT ⟨by omega, by omega, by omega, by omega, by omega, by omega, by omega, by omega, by omega, by omega⟩
              simp only [F18.l0.b, Int.toNat_natCast, hx, d1, d2, Bool.and_self, cT, cF, b1, e35, bS, b2, b3, e, if_true, w])
      (by
        have d1 : decide ((rs.length : Int) < (rs.length : Int)) = false := dF (by omega)
        simp only [F18.l0.b, d1, cF])
    unfold headB at hh
    simp only [F18.F, hh, cF, l0, bS, Bool.not_false, Bool.true_and]
    cases rs.all (fun x => decide (RuleP n x)) <;> rfl

end Go.Proofs.Ytciafkboilgblaa.AX

/- Least solutions by rounds: so many rounds are enough. No conditions. -/
namespace Go.Proofs.Ytciafkboilgblaa.AX

structure Ed where
  a : Nat
  b : Nat
  c : Int
def stpG (s : Bool × List Int) (e : Ed) : Bool × List Int := if s.2.getD e.a 0 + e.c > s.2.getD e.b 0 then (true, s.2.set e.b (s.2.getD e.a 0 + e.c)) else s
def rnd (Es : List Ed) (v : List Int) : Bool × List Int := Es.foldl stpG (false, v)
def Fix (Es : List Ed) (v : List Int) : Prop := ∀ e ∈ Es, v.getD e.a 0 + e.c ≤ v.getD e.b 0
def Val (N : Nat) (Es : List Ed) : Prop := ∀ e ∈ Es, e.a < N ∧ e.b < N
def Le (v w : List Int) : Prop := ∀ i, v.getD i 0 ≤ w.getD i 0

theorem gD_set {l : List Int} {i j : Nat} {x : Int} (h : i < l.length) : (l.set i x).getD j 0 = if i = j then x else l.getD j 0 := by
  simp only [List.getD, List.getElem?_set]
  by_cases e : i = j
  · subst e; simp [h]
  · simp [e]

theorem stp_len {s : Bool × List Int} {e : Ed} : (stpG s e).2.length = s.2.length := by
  unfold stpG; split <;> simp
theorem fold_len : ∀ {Es : List Ed} {s : Bool × List Int}, (Es.foldl stpG s).2.length = s.2.length
  | [], s => rfl
  | e :: Es, s => by rw [List.foldl_cons, fold_len, stp_len]

theorem stp_mono {s : Bool × List Int} {e : Ed} (h : e.b < s.2.length) : Le s.2 (stpG s e).2 := fun i => by
  unfold stpG
  split
  · dsimp only
    rw [gD_set h]
    split
    · rename_i hc he; subst he; omega
    · omega
  · omega
theorem fold_mono {N : Nat} : ∀ {Es : List Ed} {s : Bool × List Int}, Val N Es → s.2.length = N → Le s.2 (Es.foldl stpG s).2
  | [], s, _, _ => fun i => Int.le_refl _
  | e :: Es, s, hv, hl => fun i => by
    have h1 := stp_mono (s := s) (e := e) (by have := (hv e (by simp)).2; omega) i
    have h2 := fold_mono (Es := Es) (s := stpG s e) (fun x hx => hv x (by simp [hx])) (by rw [stp_len]; exact hl) i
    rw [List.foldl_cons]
    omega
theorem fold_le {N : Nat} : ∀ {Es : List Ed} {s : Bool × List Int} {f : List Int}, Val N Es → s.2.length = N → (∀ e ∈ Es, f.getD e.a 0 + e.c ≤ f.getD e.b 0) → Le s.2 f → Le (Es.foldl stpG s).2 f
  | [], s, f, _, _, _, h => h
  | e :: Es, s, f, hv, hl, hf, h => by
    rw [List.foldl_cons]
    refine fold_le (fun x hx => hv x (by simp [hx])) (by rw [stp_len]; exact hl) (fun x hx => hf x (by simp [hx])) fun i => ?_
    unfold stpG
    split
    · dsimp only
      rw [gD_set (by have := (hv e (by simp)).2; omega)]
      split
      · rename_i hc he; subst he; have := hf e (by simp); have := h e.a; omega
      · exact h i
    · exact h i
theorem fold_true : ∀ {Es : List Ed} {s : Bool × List Int}, s.1 = true → (Es.foldl stpG s).1 = true
  | [], s, h => h
  | e :: Es, s, h => by
    rw [List.foldl_cons]
    refine fold_true ?_
    unfold stpG; split <;> simp [h]
theorem fold_false : ∀ {Es : List Ed} {s : Bool × List Int}, (Es.foldl stpG s).1 = false → Es.foldl stpG s = s ∧ Fix Es s.2
  | [], s, h => ⟨rfl, fun e he => by simp at he⟩
  | e :: Es, s, h => by
    rw [List.foldl_cons] at h ⊢
    by_cases hc : s.2.getD e.a 0 + e.c > s.2.getD e.b 0
    · have : (stpG s e).1 = true := by unfold stpG; rw [if_pos hc]
      rw [fold_true this] at h; cases h
    · have he : stpG s e = s := by unfold stpG; rw [if_neg hc]
      rw [he] at h ⊢
      obtain ⟨h1, h2⟩ := fold_false h
      refine ⟨h1, fun x hx => ?_⟩
      rcases List.mem_cons.1 hx with rfl | hx
      · omega
      · exact h2 x hx
theorem fold_fix : ∀ {Es : List Ed} {s : Bool × List Int}, Fix Es s.2 → Es.foldl stpG s = s
  | [], s, h => rfl
  | e :: Es, s, h => by
    have he : stpG s e = s := by unfold stpG; rw [if_neg (by have := h e (by simp); omega)]
    rw [List.foldl_cons, he]
    exact fold_fix fun x hx => h x (by simp [hx])
theorem fold_tight {N : Nat} : ∀ {Es : List Ed} {s : Bool × List Int} {e : Ed}, Val N Es → s.2.length = N → e ∈ Es → s.2.getD e.a 0 + e.c ≤ (Es.foldl stpG s).2.getD e.b 0
  | x :: Es, s, e, hv, hl, he => by
    rw [List.foldl_cons]
    have hv' : Val N Es := fun y hy => hv y (by simp [hy])
    have hl' : (stpG s x).2.length = N := by rw [stp_len]; exact hl
    have hm := fold_mono hv' hl'
    have hb := hv x (by simp)
    rcases List.mem_cons.1 he with rfl | he
    · have h1 := hm e.b
      have h2 : s.2.getD e.a 0 + e.c ≤ (stpG s e).2.getD e.b 0 := by
        unfold stpG
        split
        · dsimp only; rw [gD_set (by omega), if_pos rfl]; omega
        · omega
      omega
    · have h1 := fold_tight (s := stpG s x) hv' hl' he
      have h2 := stp_mono (s := s) (e := x) (by omega) e.a
      omega

def cntN (p : Nat → Bool) : Nat → Nat
  | 0 => 0
  | n + 1 => cntN p n + (if p n = true then 1 else 0)
theorem cntN_le (p : Nat → Bool) : ∀ n, cntN p n ≤ n
  | 0 => Nat.le_refl _
  | n + 1 => by have := cntN_le p n; simp only [cntN]; split <;> omega
theorem cntN_mono {p q : Nat → Bool} : ∀ {n}, (∀ i, i < n → p i = true → q i = true) → cntN p n ≤ cntN q n
  | 0, _ => Nat.le_refl _
  | n + 1, h => by
    have h1 := cntN_mono (n := n) fun i hi => h i (by omega)
    have h2 := h n (by omega)
    simp only [cntN]
    cases hp : p n with
    | true => simp only [h2 hp, if_true]; omega
    | false => rw [if_neg (by decide)]; split <;> omega
theorem cntN_lt {p q : Nat → Bool} : ∀ {n}, (∀ i, i < n → p i = true → q i = true) → (∃ i, i < n ∧ p i = false ∧ q i = true) → cntN p n + 1 ≤ cntN q n
  | 0, _, ⟨i, hi, _⟩ => by omega
  | n + 1, h, ⟨i, hi, h1, h2⟩ => by
    simp only [cntN]
    by_cases e : i = n
    · subst e
      have := cntN_mono (n := i) fun j hj => h j (by omega)
      rw [h1, h2, if_neg (by decide), if_pos rfl]; omega
    · have h3 := cntN_lt (n := n) (fun j hj => h j (by omega)) ⟨i, by omega, h1, h2⟩
      have h4 := h n (by omega)
      cases hp : p n with
      | true => simp only [h4 hp, if_true]; omega
      | false => rw [if_neg (by decide)]; split <;> omega

theorem ext0 {v w : List Int} (hl : v.length = w.length) (h : ∀ i, i < v.length → v.getD i 0 = w.getD i 0) : v = w := by
  apply List.ext_getElem hl
  intro i h1 h2
  have := h i h1
  simpa [List.getD, h1, h2] using this

/-- Growing rounds are no more than there are places. -/
theorem bf_bound {Es : List Ed} {N : Nat} (hE : Val N Es) {V : Nat → List Int} (hV : ∀ k, V (k + 1) = (rnd Es (V k)).2) (h0 : (V 0).length = N) {m : Nat} (hfix : (rnd Es (V m)).1 = false) (hg : ∀ k, k < m → (rnd Es (V k)).1 = true) : m ≤ N := by
  have hlen : ∀ k, (V k).length = N := fun k => by
    induction k with
    | zero => exact h0
    | succ k ih => rw [hV]; unfold rnd; rw [fold_len]; exact ih
  have hmono : ∀ k, Le (V k) (V (k + 1)) := fun k => by rw [hV]; exact fold_mono (s := (false, V k)) hE (hlen k)
  have hle : ∀ k j, Le (V k) (V (k + j)) := fun k j => by
    induction j with
    | zero => exact fun i => Int.le_refl _
    | succ j ih => exact fun i => Int.le_trans (ih i) (hmono (k + j) i)
  have hF : Fix Es (V m) := (fold_false hfix).2
  -- each growing round settles one more
  have key : ∀ k, k ≤ m → k ≤ cntN (fun i => (V k).getD i 0 == (V m).getD i 0) N := by
    intro k
    induction k with
    | zero => intro _; exact Nat.zero_le _
    | succ k ih =>
      intro hk
      have h1 := ih (by omega)
      have hkm : Le (V k) (V m) := by have := hle k (m - k); rwa [show k + (m - k) = m by omega] at this
      have hkm' : Le (V (k + 1)) (V m) := by have := hle (k + 1) (m - (k + 1)); rwa [show k + 1 + (m - (k + 1)) = m by omega] at this
      -- not yet settled
      have hne : ∃ i, i < N ∧ (V k).getD i 0 ≠ (V m).getD i 0 := by
        apply Classical.byContradiction
        intro hc
        have : V k = V m := ext0 (by rw [hlen, hlen]) fun i hi => by
          apply Classical.byContradiction
          intro hne
          exact hc ⟨i, by rw [hlen] at hi; exact hi, hne⟩
        have h2 := hg k (by omega)
        rw [this, hfix] at h2
        cases h2
      obtain ⟨i0, hi0, hi0n⟩ := hne
      have htight : ∃ e ∈ Es, (V k).getD e.a 0 = (V m).getD e.a 0 ∧ (V k).getD e.b 0 ≠ (V m).getD e.b 0 ∧ (V m).getD e.a 0 + e.c = (V m).getD e.b 0 := by
        apply Classical.byContradiction
        intro hc
        let f : List Int := (List.range N).map fun i => if (V k).getD i 0 = (V m).getD i 0 then (V m).getD i 0 else (V m).getD i 0 - 1
        have hf : ∀ i, i < N → f.getD i 0 = if (V k).getD i 0 = (V m).getD i 0 then (V m).getD i 0 else (V m).getD i 0 - 1 := fun i hi => by
          show ((List.range N).map _).getD i 0 = _
          simp only [List.getD, List.getElem?_map, List.getElem?_range hi, Option.map_some, Option.getD_some]
        have hfo : ∀ i, N ≤ i → f.getD i 0 = 0 := fun i hi => by
          show ((List.range N).map _).getD i 0 = 0
          simp only [List.getD, List.getElem?_map]
          rw [List.getElem?_eq_none (by simpa using hi)]; rfl
        have hff : Fix Es f := fun e he => by
          obtain ⟨ha, hb⟩ := hE e he
          rw [hf _ ha, hf _ hb]
          have h3 := hF e he
          have h4 := hkm e.a
          have h5 := hkm e.b
          by_cases c1 : (V k).getD e.a 0 = (V m).getD e.a 0
          · by_cases c2 : (V k).getD e.b 0 = (V m).getD e.b 0
            · rw [if_pos c1, if_pos c2]; exact h3
            · rw [if_pos c1, if_neg c2]
              have : (V m).getD e.a 0 + e.c ≠ (V m).getD e.b 0 := fun h => hc ⟨e, he, c1, c2, h⟩
              omega
          · rw [if_neg c1]
            split <;> omega
        have hkf : Le (V k) f := fun i => by
          by_cases hi : i < N
          · rw [hf i hi]
            have := hkm i
            split <;> omega
          · rw [hfo i (by omega)]
            have hl := hlen k
            rw [List.getD, List.getElem?_eq_none (by omega)]
            exact Int.le_refl _
        have hall : ∀ j, Le (V (k + j)) f := fun j => by
          induction j with
          | zero => exact hkf
          | succ j ih => rw [show k + (j + 1) = (k + j) + 1 by omega, hV]; exact fold_le (s := (false, V (k + j))) hE (hlen _) hff ih
        have h6 := hall (m - k) i0
        rw [show k + (m - k) = m by omega, hf i0 hi0, if_neg hi0n] at h6
        omega
      obtain ⟨e, he, t1, t2, t3⟩ := htight
      have hb := (hE e he).2
      have h7 : (V k).getD e.a 0 + e.c ≤ (V (k + 1)).getD e.b 0 := by rw [hV]; exact fold_tight (s := (false, V k)) hE (hlen k) he
      have h8 := hkm' e.b
      have := cntN_lt (p := fun i => (V k).getD i 0 == (V m).getD i 0) (q := fun i => (V (k + 1)).getD i 0 == (V m).getD i 0) (n := N) (fun i hi hp => by
        have hp : (V k).getD i 0 = (V m).getD i 0 := by simpa using hp
        have h9 := hmono k i
        have h10 := hkm' i
        have : (V (k + 1)).getD i 0 = (V m).getD i 0 := by omega
        simpa using this) ⟨e.b, hb, by simpa using t2, by
          have : (V (k + 1)).getD e.b 0 = (V m).getD e.b 0 := by omega
          simpa using this⟩
      omega
  exact Nat.le_trans (key m (Nat.le_refl _)) (cntN_le _ _)

/-- The program's rounds. -/
def bfI (Es : List Ed) (n : Nat) : Nat → Nat → List Int → Option (List Int)
  | 0, _, _ => none
  | f + 1, k, v => if (rnd Es v).1 = false then some (rnd Es v).2 else if k > n + 1 ∨ (rnd Es v).2.getD n 0 > 0 then none else bfI Es n f (k + 1) (rnd Es v).2
/-- The reference's. -/
def bfS (Es : List Ed) (n : Nat) : Nat → List Int → List Int × Bool
  | 0, v => (v, false)
  | f + 1, v => if (rnd Es v).1 = false then ((rnd Es v).2, (rnd Es v).2.getD n 0 == 0) else bfS Es n f (rnd Es v).2

theorem bfS_pos {Es : List Ed} {n : Nat} (hE : Val (n + 1) Es) : ∀ {f : Nat} {v : List Int}, v.length = n + 1 → v.getD n 0 > 0 → (bfS Es n f v).2 = false
  | 0, _, _, _ => rfl
  | f + 1, v, hl, hp => by
    have h1 := fold_mono (s := (false, v)) hE hl n
    have h1 : v.getD n 0 ≤ (rnd Es v).2.getD n 0 := h1
    simp only [bfS]
    split
    · have : (rnd Es v).2.getD n 0 ≠ 0 := by omega
      simpa using this
    · exact bfS_pos hE (by unfold rnd; rw [fold_len]; exact hl) (by omega)

theorem bf_eq {Es : List Ed} {n : Nat} (hE : Val (n + 1) Es) {V : Nat → List Int} (hV : ∀ k, V (k + 1) = (rnd Es (V k)).2) (h0 : (V 0).length = n + 1) (hp : ∀ i, 0 ≤ (V 0).getD i 0) :
    ∀ (r j : Nat), j + r = n + 2 → (∀ k, k < j → (rnd Es (V k)).1 = true) → (V j).getD n 0 ≤ 0 → (bfI Es n (r + 1) j (V j)).isSome = (bfS Es n r (V j)).2 := by
  have hlen : ∀ k, (V k).length = n + 1 := fun k => by
    induction k with
    | zero => exact h0
    | succ k ih => rw [hV]; unfold rnd; rw [fold_len]; exact ih
  have hpos : ∀ k i, 0 ≤ (V k).getD i 0 := fun k => by
    induction k with
    | zero => exact hp
    | succ k ih => intro i; rw [hV]; exact Int.le_trans (ih i) (fold_mono (s := (false, V k)) hE (hlen k) i)
  intro r
  induction r with
  | zero =>
    intro j hj hg hz
    simp only [bfI, bfS]
    cases hr : (rnd Es (V j)).1 with
    | false => have := bf_bound hE hV h0 hr hg; omega
    | true => rw [if_neg (by decide), if_pos (.inl (by omega))]; rfl
  | succ r ih =>
    intro j hj hg hz
    rw [bfI, bfS]
    cases hr : (rnd Es (V j)).1 with
    | false =>
      have h1 := (fold_false hr).1
      have h2 : (rnd Es (V j)).2 = V j := by unfold rnd; rw [h1]
      have h3 := hpos j n
      have : (V j).getD n 0 = 0 := by omega
      rw [if_pos rfl, if_pos rfl, h2, this]; rfl
    | true =>
      simp only [Bool.true_eq_false, if_false]
      by_cases hq : (rnd Es (V j)).2.getD n 0 > 0
      · rw [if_pos (.inr hq)]
        exact (bfS_pos hE (by rw [← hV]; exact hlen _) hq).symm
      · rw [if_neg (by omega), ← hV]
        exact ih (j + 1) (by omega) (fun k hk => by
          by_cases e : k = j
          · subst e; exact hr
          · exact hg k (by omega)) (by rw [hV]; omega)

end Go.Proofs.Ytciafkboilgblaa.AX

/- Sketches: what the rules say of an axis; rounds. No conditions. -/
namespace Go.Proofs.Ytciafkboilgblaa.AX
open Go

/-- What a rule says of an axis. -/
def eR (a n : Int) (x : S31) : List S81 :=
  bif x.f0 == 1 + a then [⟨n, x.f1, x.f3⟩, ⟨x.f1, n, 0 - x.f3⟩] else bif x.f0 == 3 + a then [⟨x.f1, x.f2, x.f3⟩, ⟨x.f2, x.f1, 0 - x.f3⟩] else
  bif x.f0 == 5 + a then [⟨x.f1, x.f2, x.f3⟩] else bif x.f0 == 7 + a then [⟨x.f1, x.f2, 0⟩, ⟨x.f2, x.f1, 0⟩] else bif x.f0 == 9 then [⟨x.f1, x.f2, 0⟩, ⟨x.f2, x.f1, 0⟩] else []
def mE (a n : Int) : List S31 → List Bool → List S81
  | x :: r, b :: m => (bif b then eR a n x else []) ++ mE a n r m
  | _, _ => []
def bE (n : Int) (m : Nat) : List S81 := (List.range m).flatMap fun (i : Nat) => [⟨n, (i : Int), 0⟩, ⟨(i : Int), n, -100000⟩]
theorem bE_succ (n : Int) (m : Nat) : bE n (m + 1) = bE n m ++ [⟨n, (m : Int), 0⟩, ⟨(m : Int), n, -100000⟩] := by
  unfold bE; rw [List.range_succ, List.flatMap_append]; rfl
theorem bE_len (n : Int) : ∀ m : Nat, (bE n m).length = 2 * m
  | 0 => rfl
  | m + 1 => by rw [bE_succ, List.length_append, bE_len]; simp; omega
theorem eR_len (a n : Int) (x : S31) : (eR a n x).length ≤ 2 := by
  unfold eR
  cases x.f0 == 1 + a <;> cases x.f0 == 3 + a <;> cases x.f0 == 5 + a <;> cases x.f0 == 7 + a <;> cases x.f0 == 9 <;> simp
theorem mE_len (a n : Int) : ∀ (l : List S31) (m : List Bool), (mE a n l m).length ≤ 2 * l.length
  | [], m => by simp [mE]
  | x :: r, [] => by simp [mE]
  | x :: r, b :: m => by
    have h1 := mE_len a n r m
    have h2 := eR_len a n x
    simp only [mE, List.length_append, List.length_cons]
    cases b
    · simp; omega
    · simp; omega

structure EdP (n : Nat) (e : S81) : Prop where
  a0 : 0 ≤ e.f0
  an : e.f0 ≤ n
  b0 : 0 ≤ e.f1
  bn : e.f1 ≤ n
  c0 : -100000 ≤ e.f2
  c1 : e.f2 ≤ 100000
theorem eR_ok {a : Int} {n : Nat} {x : S31} (h : RuleP n x) : ∀ e ∈ eR a n x, EdP n e := by
  intro e he
  have := h.a0; have := h.an; have := h.b0; have := h.bn; have := h.m0; have := h.m1
  unfold eR at he
  cases h1 : x.f0 == 1 + a with
  | true =>
    rw [h1, cT] at he
    simp only [List.mem_cons, List.not_mem_nil, or_false] at he
    rcases he with rfl | rfl <;> exact ⟨by dsimp only; omega, by dsimp only; omega, by dsimp only; omega, by dsimp only; omega, by dsimp only; omega, by dsimp only; omega⟩
  | false =>
    rw [h1, cF] at he
    cases h2 : x.f0 == 3 + a with
    | true =>
      rw [h2, cT] at he
      simp only [List.mem_cons, List.not_mem_nil, or_false] at he
      rcases he with rfl | rfl <;> exact ⟨by dsimp only; omega, by dsimp only; omega, by dsimp only; omega, by dsimp only; omega, by dsimp only; omega, by dsimp only; omega⟩
    | false =>
      rw [h2, cF] at he
      cases h3 : x.f0 == 5 + a with
      | true =>
        rw [h3, cT] at he
        simp only [List.mem_cons, List.not_mem_nil, or_false] at he
        rcases he with rfl; exact ⟨by dsimp only; omega, by dsimp only; omega, by dsimp only; omega, by dsimp only; omega, by dsimp only; omega, by dsimp only; omega⟩
      | false =>
        rw [h3, cF] at he
        cases h4 : x.f0 == 7 + a with
        | true =>
          rw [h4, cT] at he
          simp only [List.mem_cons, List.not_mem_nil, or_false] at he
          rcases he with rfl | rfl <;> exact ⟨by dsimp only; omega, by dsimp only; omega, by dsimp only; omega, by dsimp only; omega, by dsimp only; omega, by dsimp only; omega⟩
        | false =>
          rw [h4, cF] at he
          cases h5 : x.f0 == 9 with
          | true =>
            rw [h5, cT] at he
            simp only [List.mem_cons, List.not_mem_nil, or_false] at he
            rcases he with rfl | rfl <;> exact ⟨by dsimp only; omega, by dsimp only; omega, by dsimp only; omega, by dsimp only; omega, by dsimp only; omega, by dsimp only; omega⟩
          | false => rw [h5, cF] at he; simp at he
theorem mE_ok {a : Int} {n : Nat} : ∀ {l : List S31} {m : List Bool}, (∀ x ∈ l, RuleP n x) → ∀ e ∈ mE a n l m, EdP n e
  | [], m, _, e, he => by simp [mE] at he
  | x :: r, [], _, e, he => by simp [mE] at he
  | x :: r, b :: m, h, e, he => by
    simp only [mE] at he
    rcases List.mem_append.1 he with q | q
    · cases b
      · simp at q
      · exact eR_ok (h x (by simp)) e q
    · exact mE_ok (fun y hy => h y (by simp [hy])) e q
theorem bE_ok {n : Nat} : ∀ {m : Nat}, m ≤ n → ∀ e ∈ bE n m, EdP n e := fun {m} hm e he => by
  unfold bE at he
  obtain ⟨i, hi, he⟩ := List.mem_flatMap.1 he
  have := List.mem_range.1 hi
  simp only [List.mem_cons, List.not_mem_nil, or_false] at he
  rcases he with rfl | rfl <;> exact ⟨by dsimp only; omega, by dsimp only; omega, by dsimp only; omega, by dsimp only; omega, by dsimp only; omega, by dsimp only; omega⟩

/-- All that is said of an axis. -/
def aE (a : Int) (n : Nat) (rs : List S31) (m : List Bool) : List S81 := bE n n ++ mE a n rs m
theorem aE_ok {a : Int} {n : Nat} {rs : List S31} {m : List Bool} (h : ∀ x ∈ rs, RuleP n x) : ∀ e ∈ aE a n rs m, EdP n e := fun e he => by
  unfold aE at he
  rcases List.mem_append.1 he with q | q
  · exact bE_ok (Nat.le_refl n) e q
  · exact mE_ok h e q
theorem aE_len {a : Int} {n : Nat} {rs : List S31} {m : List Bool} (hn : n ≤ 24) (hr : rs.length ≤ 60) : (aE a n rs m).length ≤ 168 := by
  unfold aE
  have := mE_len a n rs m
  rw [List.length_append, bE_len]; omega

theorem F45.ok (p0 p1 p2 : Int) (l : List S81) (hl : l.length ≤ 1000) (h0 : -100000 ≤ p2) (h1 : p2 ≤ 100000) : F45.F (p0, p1, p2, l) = some (l ++ [⟨p0, p1, p2⟩, ⟨p1, p0, 0 - p2⟩]) := by
  have w : Go.IntKind.wrap .i64 (0 - p2) = 0 - p2 := w64 (by omega) (by omega)
  have d : decide ((l.length + ((⟨p0, p1, p2⟩ : S81) :: (⟨p1, p0, 0 - p2⟩ : S81) :: []).length) ≤ 274877906944) = true := dT (by simp only [List.length_cons, List.length_nil]; omega)
  simp only [F45.F, w, d, cT]

theorem F43.l0_ok (a : Int) (n : Nat) (hn : n ≤ 24) (b : Int) (m : List Bool) (rs : List S31) : F43.l0 (a, (n : Int), 0, b, m, rs, []) = some (a, (n : Int), b, m, rs, bE n n) := by
  exact lim_run (f := F43.l0.b) (fun i => (a, (n : Int), (i : Int), b, m, rs, bE n i)) n (y := (a, (n : Int), b, m, rs, bE n n)) (fun i hi => by
    have d1 : decide ((i : Int) < (n : Int)) = true := dT (by omega)
    have hl := bE_len (n : Int) i
    have d2 : decide (((bE (n : Int) i).length + ((⟨(n : Int), (i : Int), 0⟩ : S81) :: (⟨(i : Int), (n : Int), -100000⟩ : S81) :: []).length) ≤ 274877906944) = true := dT (by simp only [List.length_cons, List.length_nil]; omega)
    have w : Go.IntKind.wrap .i64 ((i : Int) + 1) = ((i + 1 : Nat) : Int) := by rw [w64 (by omega) (by omega)]; rfl
    have e := bE_succ (n : Int) i
    simp only [F43.l0.b, d1, d2, cT, w]
    rw [e])
    (by
      have d1 : decide ((n : Int) < (n : Int)) = false := dF (by omega)
      simp only [F43.l0.b, d1, cF])

theorem F43.l2_ok (a : Int) (ha : a = 0 ∨ a = 1) (n : Nat) (rs : List S31) (hr : rs.length ≤ 60) (hx : ∀ x ∈ rs, RuleP n x) (m : List Bool) (hm : m.length = rs.length) : ∀ (r i : Nat) (acc : List S81), i + r = rs.length → acc.length + 2 * r ≤ 900 →
    F43.l2 (a, (n : Int), (rs.length : Int), (i : Int), m, rs, acc) = some (acc ++ mE a n (rs.drop i) (m.drop i))
  | 0, i, acc, hi, hacc => by
    have d : decide ((i : Int) < (rs.length : Int)) = false := dF (by omega)
    rw [List.drop_eq_nil_of_le (by omega)]
    simp only [mE, List.append_nil]
    unfold F43.l2
    exact lim_out (by simp only [F43.l2.b, d, cF])
  | r + 1, i, acc, hi, hacc => by
    have hlt : i < rs.length := by omega
    have d : decide ((i : Int) < (rs.length : Int)) = true := dT (by omega)
    have d2 : decide ((0 : Int) ≤ (i : Int)) = true := dT (by omega)
    have d3 : decide ((i : Int) < (m.length : Int)) = true := dT (by omega)
    have w : Go.IntKind.wrap .i64 ((i : Int) + 1) = ((i + 1 : Nat) : Int) := by rw [w64 (by omega) (by omega)]; rfl
    have wa : ∀ c : Int, 0 ≤ c → c ≤ 10 → Go.IntKind.wrap .i64 (c + a) = c + a := fun c h0 h1 => w64 (by omega) (by omega)
    have hg : rs.getD i z31 = rs[i] := getD_lt hlt
    have hgm : m.getD i false = m[i] := getD_lt (by omega)
    have hxx := hx rs[i] (List.getElem_mem hlt)
    rw [drop_cons hlt, drop_cons (show i < m.length by omega)]
    simp only [mE]
    generalize rs[i] = x at hg hxx
    have go : ∀ acc' : List S81, acc'.length ≤ acc.length + 2 → F43.l2.b (a, (n : Int), (rs.length : Int), (i : Int), m, rs, acc) = some (.inl (a, (n : Int), (rs.length : Int), ((i + 1 : Nat) : Int), m, rs, acc')) → F43.l2 (a, (n : Int), (rs.length : Int), (i : Int), m, rs, acc) = some (acc' ++ mE a n (rs.drop (i + 1)) (m.drop (i + 1))) := fun acc' hl hb => by
      rw [← F43.l2_ok a ha n rs hr hx m hm r (i + 1) acc' (by omega) (by omega)]
      unfold F43.l2
      exact lim_in hb
    rw [← List.append_assoc]
    cases hb : m[i] with
    | false =>
      rw [hb] at hgm
      rw [cF, List.append_nil]
      exact go acc (by omega) (by simp only [F43.l2.b, d, d2, d3, Bool.and_self, cT, Int.toNat_natCast, hgm, Bool.not_false, w])
    | true =>
      rw [hb] at hgm
      rw [cT]
      have hel := eR_len a n x
      refine go (acc ++ eR a n x) (by rw [List.length_append]; omega) ?_
      have f1 := fun p0 p1 => F45.ok p0 p1 x.f3 acc (by omega) hxx.m0 hxx.m1
      have f0 := fun p0 p1 => F45.ok p0 p1 0 acc (by omega) (by decide) (by decide)
      rw [show (0 : Int) - 0 = 0 from rfl] at f0
      have d5 : decide ((acc.length + ((⟨x.f1, x.f2, x.f3⟩ : S81) :: []).length) ≤ 274877906944) = true := dT (by simp only [List.length_cons, List.length_nil]; omega)
      unfold eR
      cases h1 : x.f0 == 1 + a with
      | true => simp only [F43.l2.b, d, d2, d3, Bool.and_self, cT, cF, Int.toNat_natCast, hgm, hg, Bool.not_true, wa 1 (by decide) (by decide), h1, f1, bS, w]
      | false =>
        cases h2 : x.f0 == 3 + a with
        | true => simp only [F43.l2.b, d, d2, d3, Bool.and_self, cT, cF, Int.toNat_natCast, hgm, hg, Bool.not_true, wa 1 (by decide) (by decide), wa 3 (by decide) (by decide), h1, h2, f1, bS, w]
        | false =>
          cases h3 : x.f0 == 5 + a with
          | true => simp only [F43.l2.b, d, d2, d3, Bool.and_self, cT, cF, Int.toNat_natCast, hgm, hg, Bool.not_true, wa 1 (by decide) (by decide), wa 3 (by decide) (by decide), wa 5 (by decide) (by decide), h1, h2, h3, d5, bS, w]
          | false =>
            cases h4 : x.f0 == 7 + a with
            | true => simp only [F43.l2.b, d, d2, d3, Bool.and_self, cT, cF, Int.toNat_natCast, hgm, hg, Bool.not_true, wa 1 (by decide) (by decide), wa 3 (by decide) (by decide), wa 5 (by decide) (by decide), wa 7 (by decide) (by decide), h1, h2, h3, h4, f0, bS, w]
            | false =>
              cases h5 : x.f0 == 9 with
              | true => simp only [F43.l2.b, d, d2, d3, Bool.and_self, cT, cF, Int.toNat_natCast, hgm, hg, Bool.not_true, wa 1 (by decide) (by decide), wa 3 (by decide) (by decide), wa 5 (by decide) (by decide), wa 7 (by decide) (by decide), h1, h2, h3, h4, h5, f0, bS, w]
              | false => simp only [F43.l2.b, d, d2, d3, Bool.and_self, cT, cF, Int.toNat_natCast, hgm, hg, Bool.not_true, wa 1 (by decide) (by decide), wa 3 (by decide) (by decide), wa 5 (by decide) (by decide), wa 7 (by decide) (by decide), h1, h2, h3, h4, h5, List.append_nil, bS, w]

theorem F43.ok (a : Int) (ha : a = 0 ∨ a = 1) (n : Nat) (hn : n ≤ 24) (rs : List S31) (hr : rs.length ≤ 60) (hx : ∀ x ∈ rs, RuleP n x) (m : List Bool) (hm : m.length = rs.length) : F43.F (((n : Int), rs), a, m) = some (aE a n rs m) := by
  have l0 := F43.l0_ok a n hn (n : Int) m rs
  have l2 := F43.l2_ok a ha n rs hr hx m hm rs.length 0 (bE n n) (by omega) (by rw [bE_len]; omega)
  rw [show ((0 : Nat) : Int) = 0 from rfl, List.drop_zero, List.drop_zero] at l2
  simp only [F43.F, l0, bS, l2]
  rfl

/- The reference's. -/
def c85 (e : S81) : S85 := ⟨e.f0, e.f1, e.f2⟩
def tru (rs : List S31) : List Bool := List.replicate rs.length true
theorem F44.l0_ok (a : Int) (n : Nat) (hn : n ≤ 24) (b : Int) (m : List Int) (rs : List S31) : F44.l0 (a, (n : Int), 0, b, m, [], rs) = some (a, (n : Int), b, m, (bE n n).map c85, rs) := by
  exact lim_run (f := F44.l0.b) (fun i => (a, (n : Int), (i : Int), b, m, (bE n i).map c85, rs)) n (y := (a, (n : Int), b, m, (bE n n).map c85, rs)) (fun i hi => by
    have d1 : decide ((i : Int) < (n : Int)) = true := dT (by omega)
    have hl := bE_len (n : Int) i
    have d2 : decide ((((bE (n : Int) i).map c85).length + ((⟨(n : Int), (i : Int), 0⟩ : S85) :: (⟨(i : Int), (n : Int), -100000⟩ : S85) :: []).length) ≤ 274877906944) = true := dT (by simp only [List.length_map, List.length_cons, List.length_nil]; omega)
    have w : Go.IntKind.wrap .i64 ((i : Int) + 1) = ((i + 1 : Nat) : Int) := by rw [w64 (by omega) (by omega)]; rfl
    have e := bE_succ (n : Int) i
    simp only [F44.l0.b, d1, d2, cT, w]
    rw [e, List.map_append]
    rfl)
    (by
      have d1 : decide ((n : Int) < (n : Int)) = false := dF (by omega)
      simp only [F44.l0.b, d1, cF])

def idxs (k : Nat) : List Int := (List.range k).map fun (i : Nat) => (i : Int)
theorem idxs_get {k i : Nat} (h : i < k) : (idxs k).getD i 0 = (i : Int) := by
  unfold idxs
  rw [getD_lt (by simpa using h)]; simp

theorem F44.l2_ok (a : Int) (ha : a = 0 ∨ a = 1) (n : Nat) (b : Int) (rs : List S31) (hr : rs.length ≤ 60) (hx : ∀ x ∈ rs, RuleP n x) : ∀ (r i : Nat) (acc : List S81), i + r = rs.length → acc.length + 2 * r ≤ 900 →
    F44.l2 (a, (n : Int), (i : Int), b, idxs rs.length, acc.map c85, rs) = some ((acc ++ mE a n (rs.drop i) ((tru rs).drop i)).map c85)
  | 0, i, acc, hi, hacc => by
    have hil : (idxs rs.length).length = rs.length := by simp [idxs]
    have d : decide ((i : Int) < ((idxs rs.length).length : Int)) = false := dF (by omega)
    rw [List.drop_eq_nil_of_le (by omega)]
    simp only [mE, List.append_nil]
    unfold F44.l2
    exact lim_out (by simp only [F44.l2.b, d, cF])
  | r + 1, i, acc, hi, hacc => by
    have hlt : i < rs.length := by omega
    have hil : (idxs rs.length).length = rs.length := by simp [idxs]
    have htl : (tru rs).length = rs.length := by simp [tru]
    have d : decide ((i : Int) < ((idxs rs.length).length : Int)) = true := dT (by omega)
    have d2 : decide ((0 : Int) ≤ (i : Int)) = true := dT (by omega)
    have d3 : decide ((i : Int) < (rs.length : Int)) = true := dT (by omega)
    have w : Go.IntKind.wrap .i64 ((i : Int) + 1) = ((i + 1 : Nat) : Int) := by rw [w64 (by omega) (by omega)]; rfl
    have wa : ∀ c : Int, 0 ≤ c → c ≤ 10 → Go.IntKind.wrap .i64 (c + a) = c + a := fun c h0 h1 => w64 (by omega) (by omega)
    have hg : rs.getD i z31 = rs[i] := getD_lt hlt
    have hgi := idxs_get hlt
    have hxx := hx rs[i] (List.getElem_mem hlt)
    rw [drop_cons hlt, drop_cons (show i < (tru rs).length by omega)]
    have ht : (tru rs)[i]'(by omega) = true := by simp [tru]
    simp only [mE, ht]
    generalize rs[i] = x at hg hxx
    have go : ∀ acc' : List S81, acc'.length ≤ acc.length + 2 → F44.l2.b (a, (n : Int), (i : Int), b, idxs rs.length, acc.map c85, rs) = some (.inl (a, (n : Int), ((i + 1 : Nat) : Int), b, idxs rs.length, acc'.map c85, rs)) → F44.l2 (a, (n : Int), (i : Int), b, idxs rs.length, acc.map c85, rs) = some ((acc' ++ mE a n (rs.drop (i + 1)) ((tru rs).drop (i + 1))).map c85) := fun acc' hl hb => by
      rw [← F44.l2_ok a ha n b rs hr hx r (i + 1) acc' (by omega) (by omega)]
      unfold F44.l2
      exact lim_in hb
    rw [← List.append_assoc, cT]
    have hel := eR_len a n x
    refine go (acc ++ eR a n x) (by rw [List.length_append]; omega) ?_
    have hm3 := hxx.m0
    have hm4 := hxx.m1
    have w3 : Go.IntKind.wrap .i64 (0 - x.f3) = 0 - x.f3 := w64 (by omega) (by omega)
    have dl : ∀ l : List S85, l.length ≤ 2 → decide (((acc.map c85).length + l.length) ≤ 274877906944) = true := fun l hl => dT (by rw [List.length_map]; omega)
    rw [List.map_append]
    unfold eR
    cases h1 : x.f0 == 1 + a with
    | true =>
      have d5 := dl [⟨(n : Int), x.f1, x.f3⟩, ⟨x.f1, (n : Int), 0 - x.f3⟩] (by simp)
      simp only [F44.l2.b, d, d2, d3, Bool.and_self, cT, cF, Int.toNat_natCast, hgi, hg, wa 1 (by decide) (by decide), h1, w3, d5, w]; rfl
    | false =>
      cases h2 : x.f0 == 3 + a with
      | true =>
        have d5 := dl [⟨x.f1, x.f2, x.f3⟩, ⟨x.f2, x.f1, 0 - x.f3⟩] (by simp)
        simp only [F44.l2.b, d, d2, d3, Bool.and_self, cT, cF, Int.toNat_natCast, hgi, hg, wa 1 (by decide) (by decide), wa 3 (by decide) (by decide), h1, h2, w3, d5, w]; rfl
      | false =>
        cases h3 : x.f0 == 5 + a with
        | true =>
          have d5 := dl [⟨x.f1, x.f2, x.f3⟩] (by simp)
          simp only [F44.l2.b, d, d2, d3, Bool.and_self, cT, cF, Int.toNat_natCast, hgi, hg, wa 1 (by decide) (by decide), wa 3 (by decide) (by decide), wa 5 (by decide) (by decide), h1, h2, h3, w3, d5, w]; rfl
        | false =>
          have d5 := dl [⟨x.f1, x.f2, 0⟩, ⟨x.f2, x.f1, 0⟩] (by simp)
          cases h4 : x.f0 == 7 + a with
          | true => simp only [F44.l2.b, d, d2, d3, Bool.and_self, cT, cF, Int.toNat_natCast, hgi, hg, wa 1 (by decide) (by decide), wa 3 (by decide) (by decide), wa 5 (by decide) (by decide), wa 7 (by decide) (by decide), h1, h2, h3, h4, w3, d5, w]; rfl
          | false =>
            cases h5 : x.f0 == 9 with
            | true => simp only [F44.l2.b, d, d2, d3, Bool.and_self, cT, cF, Int.toNat_natCast, hgi, hg, wa 1 (by decide) (by decide), wa 3 (by decide) (by decide), wa 5 (by decide) (by decide), wa 7 (by decide) (by decide), h1, h2, h3, h4, h5, w3, d5, w]; rfl
            | false => simp only [F44.l2.b, d, d2, d3, Bool.and_self, cT, cF, Int.toNat_natCast, hgi, hg, wa 1 (by decide) (by decide), wa 3 (by decide) (by decide), wa 5 (by decide) (by decide), wa 7 (by decide) (by decide), h1, h2, h3, h4, h5, w3, List.map_nil, List.append_nil, w]

theorem F44.ok (a : Int) (ha : a = 0 ∨ a = 1) (n : Nat) (hn : n ≤ 24) (rs : List S31) (hr : rs.length ≤ 60) (hx : ∀ x ∈ rs, RuleP n x) : F44.F (((n : Int), rs), idxs rs.length, a) = some ((aE a n rs (tru rs)).map c85) := by
  have l0 := F44.l0_ok a n hn (n : Int) (idxs rs.length) rs
  have l2 := F44.l2_ok a ha n (n : Int) rs hr hx rs.length 0 (bE n n) (by omega) (by rw [bE_len]; omega)
  rw [show ((0 : Nat) : Int) = 0 from rfl, List.drop_zero, List.drop_zero] at l2
  simp only [F44.F, l0, bS, l2]
  rfl

end Go.Proofs.Ytciafkboilgblaa.AX

/- Sketches: can their rules be kept? No conditions. -/
namespace Go.Proofs.Ytciafkboilgblaa.AX
open Go

def toEd (e : S81) : Ed := ⟨e.f0.toNat, e.f1.toNat, e.f2⟩
def eds (es : List S81) : List Ed := es.map toEd
theorem eds_val {n : Nat} {es : List S81} (h : ∀ e ∈ es, EdP n e) : Val (n + 1) (eds es) := fun e he => by
  obtain ⟨x, hx, rfl⟩ := List.mem_map.1 he
  have q := h x hx
  have := q.a0; have := q.an; have := q.b0; have := q.bn
  unfold toEd
  dsimp only
  omega

theorem take_fold {α β : Type} {g : β → α → β} {l : List α} {i : Nat} {d : α} {a : β} (h : i < l.length) : (l.take (i + 1)).foldl g a = g ((l.take i).foldl g a) (l.getD i d) := by
  rw [getD_lt h, show l.take (i + 1) = l.take i ++ [l[i]] from by simp, List.foldl_append]; rfl

/-- All lie from 0 to M. -/
def Bd (M : Int) (v : List Int) : Prop := ∀ i, 0 ≤ v.getD i 0 ∧ v.getD i 0 ≤ M
theorem stp_bd {n : Nat} {M : Int} {s : Bool × List Int} {e : S81} (he : EdP n e) (hl : s.2.length = n + 1) (h : Bd M s.2) : Bd (M + 100000) (stpG s (toEd e)).2 := fun i => by
  have := he.a0; have := he.an; have := he.b0; have := he.bn; have := he.c0; have := he.c1
  have h1 := h i
  unfold stpG toEd
  dsimp only
  split
  · rename_i hc
    dsimp only
    rw [gD_set (by omega)]
    have h2 := h e.f0.toNat
    have h3 := h e.f1.toNat
    split <;> omega
  · omega
theorem fold_bd {n : Nat} : ∀ {es : List S81} {M : Int} {s : Bool × List Int}, (∀ e ∈ es, EdP n e) → s.2.length = n + 1 → Bd M s.2 → Bd (M + 100000 * (es.length : Int)) ((eds es).foldl stpG s).2
  | [], M, s, _, _, h => by simpa [eds] using h
  | e :: es, M, s, he, hl, h => by
    have := fold_bd (es := es) (M := M + 100000) (s := stpG s (toEd e)) (fun x hx => he x (by simp [hx])) (by rw [stp_len]; exact hl) (stp_bd (he e (by simp)) hl h)
    show Bd _ ((eds es).foldl stpG (stpG s (toEd e))).2
    rw [show M + 100000 * ((e :: es).length : Int) = M + 100000 + 100000 * (es.length : Int) by simp; omega]
    exact this

theorem F36.l4_ok {n : Nat} (hn : n ≤ 24) {es : List S81} (hes : ∀ e ∈ es, EdP n e) (hel : es.length ≤ 168) (a k b : Int) (m : List Bool) (ps : List S73) (rs : List S31) (v : List Int) (hv : v.length = n + 1) {M : Int} (hM : M ≤ 10000000000) (hb : Bd M v) :
    F36.l4 (a, k, false, (es.length : Int), 0, b, m, ps, es, v, rs) = some (a, k, (rnd (eds es) v).1, b, m, ps, es, (rnd (eds es) v).2, rs) := by
  have hst : ∀ i, ((eds es).take i) = eds (es.take i) := fun i => by unfold eds; rw [List.map_take]
  have := lim_run (f := F36.l4.b) (fun i => (a, k, (((eds es).take i).foldl stpG (false, v)).1, (es.length : Int), (i : Int), b, m, ps, es, (((eds es).take i).foldl stpG (false, v)).2, rs)) es.length (y := (a, k, (rnd (eds es) v).1, b, m, ps, es, (rnd (eds es) v).2, rs)) (fun i hi => by
    have hlen : (((eds es).take i).foldl stpG (false, v)).2.length = n + 1 := by rw [fold_len]; exact hv
    have hbd : Bd (M + 100000 * ((es.take i).length : Int)) (((eds es).take i).foldl stpG (false, v)).2 := by
      rw [hst]; exact fold_bd (fun e he => hes e (List.mem_of_mem_take he)) hv hb
    have htl : (es.take i).length = i := by simp; omega
    have hsucc := take_fold (g := stpG) (l := eds es) (i := i) (d := toEd z81) (a := (false, v)) (by simpa [eds] using hi)
    have hget : (eds es).getD i (toEd z81) = toEd (es.getD i z81) := by
      rw [getD_lt (by simpa [eds] using hi), getD_lt hi]; simp [eds]
    rw [hget] at hsucc
    rw [hsucc]
    have hx := hes (es.getD i z81) (by rw [getD_lt hi]; exact List.getElem_mem hi)
    generalize hxx : es.getD i z81 = x at hx
    generalize ((eds es).take i).foldl stpG (false, v) = s at hlen hbd
    obtain ⟨s1, s2⟩ := s
    dsimp only at hlen hbd ⊢
    have := hx.a0; have := hx.an; have := hx.b0; have := hx.bn; have := hx.c0; have := hx.c1
    have hb0 := hbd x.f0.toNat
    have d : decide ((i : Int) < (es.length : Int)) = true := dT (by omega)
    have d2 : decide ((0 : Int) ≤ (i : Int)) = true := dT (by omega)
    have d3 : decide ((0 : Int) ≤ x.f0) = true := dT (by omega)
    have d4 : decide (x.f0 < (s2.length : Int)) = true := dT (by omega)
    have d5 : decide ((0 : Int) ≤ x.f1) = true := dT (by omega)
    have d6 : decide (x.f1 < (s2.length : Int)) = true := dT (by omega)
    have w : Go.IntKind.wrap .i64 ((i : Int) + 1) = ((i + 1 : Nat) : Int) := by rw [w64 (by omega) (by omega)]; rfl
    have w2 : Go.IntKind.wrap .i64 (s2.getD x.f0.toNat 0 + x.f2) = s2.getD x.f0.toNat 0 + x.f2 := w64 (by omega) (by omega)
    unfold stpG toEd
    dsimp only
    by_cases hc : s2.getD x.f0.toNat 0 + x.f2 > s2.getD x.f1.toNat 0
    · rw [if_pos hc]
      simp only [F36.l4.b, d, d2, d3, d4, d5, d6, Bool.and_self, cT, Int.toNat_natCast, hxx, w, w2, dT hc]
    · rw [if_neg hc]
      simp only [F36.l4.b, d, d2, d3, d4, d5, d6, Bool.and_self, cT, cF, Int.toNat_natCast, hxx, w, w2, dF hc])
    (by
      have d : decide ((es.length : Int) < (es.length : Int)) = false := dF (by omega)
      have ht : (eds es).take es.length = eds es := List.take_of_length_le (by simp [eds])
      simp only [F36.l4.b, d, cF, ht]
      rfl)
  exact this

theorem F36.l2_ok {n : Nat} (hn : n ≤ 24) {es : List S81} (hes : ∀ e ∈ es, EdP n e) (hel : es.length ≤ 168) (a : Int) (m : List Bool) (ps : List S73) (rs : List S31) : ∀ (f k : Nat) (v : List Int), k + f = n + 3 → 1 ≤ f → v.length = n + 1 → Bd (20000000 * (k : Int)) v →
    F36.l2 (a, (k : Int), (n : Int), m, ps, es, v, rs) = some (match bfI (eds es) n f k v with | some w => .inl (a, (n : Int), m, ps, w, rs) | none => .inr false)
  | 0, k, v, hk, hf, hl, hb => by omega
  | f + 1, k, v, hk, hf, hl, hb => by
    have l4 := F36.l4_ok hn hes hel a (k : Int) (n : Int) m ps rs v hl (M := 20000000 * (k : Int)) (by omega) hb
    have hv := eds_val hes
    have hlen : (rnd (eds es) v).2.length = n + 1 := by unfold rnd; rw [fold_len]; exact hl
    have hbd : Bd (20000000 * (k : Int) + 100000 * (es.length : Int)) (rnd (eds es) v).2 := fold_bd (s := (false, v)) hes hl hb
    rw [bfI]
    cases hr : (rnd (eds es) v).1 with
    | false =>
      rw [hr] at l4
      rw [if_pos rfl]
      unfold F36.l2
      exact lim_out (by simp only [F36.l2.b, l4, bS, Bool.not_false, cT])
    | true =>
      rw [hr] at l4
      simp only [Bool.true_eq_false, if_false]
      have w1 : Go.IntKind.wrap .i64 ((n : Int) + 1) = ((n + 1 : Nat) : Int) := by rw [w64 (by omega) (by omega)]; rfl
      have w2 : Go.IntKind.wrap .i64 ((k : Int) + 1) = ((k + 1 : Nat) : Int) := by rw [w64 (by omega) (by omega)]; rfl
      have d1 : decide ((0 : Int) ≤ (n : Int)) = true := dT (by omega)
      have d2 : decide ((n : Int) < ((rnd (eds es) v).2.length : Int)) = true := dT (by omega)
      have hcond : (decide ((k : Int) > ((n + 1 : Nat) : Int)) || decide ((rnd (eds es) v).2.getD n 0 > 0)) = decide (k > n + 1 ∨ (rnd (eds es) v).2.getD n 0 > 0) := by
        rw [Bool.decide_or]
        congr 1
        by_cases h : k > n + 1
        · rw [dT h, dT (by omega)]
        · rw [dF h, dF (by omega)]
      by_cases hc : k > n + 1 ∨ (rnd (eds es) v).2.getD n 0 > 0
      · rw [dT hc] at hcond
        rw [if_pos hc]
        unfold F36.l2
        exact lim_out (by simp only [F36.l2.b, l4, bS, Bool.not_true, cT, cF, w1, d1, d2, Bool.and_self, Bool.or_true, Int.toNat_natCast, hcond])
      · rw [dF hc] at hcond
        rw [if_neg hc, ← F36.l2_ok hn hes hel a m ps rs f (k + 1) (rnd (eds es) v).2 (by omega) (by omega) hlen (fun i => by have := hbd i; omega)]
        unfold F36.l2
        exact lim_in (by simp only [F36.l2.b, l4, bS, Bool.not_true, cT, cF, w1, w2, d1, d2, Bool.and_self, Bool.or_true, Int.toNat_natCast, hcond])

theorem F36.l6_ok {n : Nat} (hn : n ≤ 24) (a : Int) (m : List Bool) (v : List Int) (hv : v.length = n + 1) (rs : List S31) : ∀ (r i : Nat) (ps : List S73), ps.length = n → i + r = n → ∃ ps', F36.l6 (a, (n : Int), (i : Int), (n : Int), m, ps, v, rs) = some (a, (n : Int), m, ps', rs) ∧ ps'.length = n
  | 0, i, ps, hp, hi => by
    have d : decide ((i : Int) < (n : Int)) = false := dF (by omega)
    exact ⟨ps, by unfold F36.l6; exact lim_out (by simp only [F36.l6.b, d, cF]), hp⟩
  | r + 1, i, ps, hp, hi => by
    have d : decide ((i : Int) < (n : Int)) = true := dT (by omega)
    have d2 : decide ((0 : Int) ≤ (i : Int)) = true := dT (by omega)
    have d3 : decide ((i : Int) < (v.length : Int)) = true := dT (by omega)
    have d4 : decide ((i : Int) < (ps.length : Int)) = true := dT (by omega)
    have w : Go.IntKind.wrap .i64 ((i : Int) + 1) = ((i + 1 : Nat) : Int) := by rw [w64 (by omega) (by omega)]; rfl
    cases ha : (a == 0) with
    | true =>
      obtain ⟨ps', h1, h2⟩ := F36.l6_ok hn a m v hv rs r (i + 1) (ps.set i ⟨v.getD i 0, (ps.getD i z73).f1⟩) (by simpa using hp) (by omega)
      refine ⟨ps', ?_, h2⟩
      rw [← h1]
      unfold F36.l6
      exact lim_in (by simp only [F36.l6.b, d, d2, d3, d4, Bool.and_self, cT, ha, Int.toNat_natCast, w])
    | false =>
      obtain ⟨ps', h1, h2⟩ := F36.l6_ok hn a m v hv rs r (i + 1) (ps.set i ⟨(ps.getD i z73).f0, v.getD i 0⟩) (by simpa using hp) (by omega)
      refine ⟨ps', ?_, h2⟩
      rw [← h1]
      unfold F36.l6
      exact lim_in (by simp only [F36.l6.b, d, d2, d3, d4, Bool.and_self, cT, cF, ha, Int.toNat_natCast, w])

theorem bfI_len {Es : List Ed} {n : Nat} : ∀ {f k : Nat} {v w : List Int}, bfI Es n f k v = some w → w.length = v.length
  | 0, _, _, _, h => by cases h
  | f + 1, k, v, w, h => by
    rw [bfI] at h
    have hl : (rnd Es v).2.length = v.length := by unfold rnd; rw [fold_len]
    split at h
    · injection h with h; subst h; exact hl
    · split at h
      · cases h
      · rw [bfI_len h, hl]

/-- Can an axis be kept? -/
def okI (a : Int) (n : Nat) (rs : List S31) (m : List Bool) : Bool := (bfI (eds (aE a n rs m)) n (n + 3) 0 (List.replicate (n + 1) 0)).isSome

theorem rep_bd (k : Nat) (M : Int) (hM : 0 ≤ M) : Bd M (List.replicate k 0) := fun i => by
  have : (List.replicate k (0 : Int)).getD i 0 = 0 := by
    simp only [List.getD, List.getElem?_replicate]
    split <;> rfl
  rw [this]; omega

theorem F36.ok {n : Nat} (hn : n ≤ 24) {rs : List S31} (hr : rs.length ≤ 60) (hx : ∀ x ∈ rs, RuleP n x) (m : List Bool) (hm : m.length = rs.length) : ∃ ps, F36.F (((n : Int), rs), m) = some (ps, okI 0 n rs m && okI 1 n rs m) := by
  have w0 : Go.IntKind.wrap .i64 ((n : Int) + 1) = ((n + 1 : Nat) : Int) := by rw [w64 (by omega) (by omega)]; rfl
  have d0 : (((decide (0 ≤ (n : Int))) && (decide ((n : Int) ≤ (n : Int)))) && (decide ((n : Int) ≤ 274877906944))) = true := by simp; omega
  have d1 : (((decide (0 ≤ ((n + 1 : Nat) : Int))) && (decide (((n + 1 : Nat) : Int) ≤ ((n + 1 : Nat) : Int)))) && (decide (((n + 1 : Nat) : Int) ≤ 274877906944))) = true := by simp; omega
  -- an axis
  have axis : ∀ (a : Int) (ha : a = 0 ∨ a = 1) (ps : List S73), ps.length = n →
      (okI a n rs m = true ∧ ∃ ps', ps'.length = n ∧ F36.l0.b (a, (n : Int), m, ps, rs) = some (.inl (a + 1, (n : Int), m, ps', rs))) ∨ (okI a n rs m = false ∧ F36.l0.b (a, (n : Int), m, ps, rs) = some (.inr (.inl false))) := fun a ha ps hp => by
    have f43 := F43.ok a ha n hn rs hr hx m hm
    have dd : decide (a < 2) = true := dT (by omega)
    have wa : Go.IntKind.wrap .i64 (a + 1) = a + 1 := w64 (by omega) (by omega)
    have l2 := F36.l2_ok hn (aE_ok (a := a) (m := m) hx) (aE_len hn hr) a m ps rs (n + 3) 0 (List.replicate (n + 1) 0) (by omega) (by omega) (by simp) (rep_bd _ _ (by omega))
    rw [show ((0 : Nat) : Int) = 0 from rfl] at l2
    unfold okI
    cases hbf : bfI (eds (aE a n rs m)) n (n + 3) 0 (List.replicate (n + 1) 0) with
    | none =>
      rw [hbf] at l2
      exact .inr ⟨rfl, by simp only [F36.l0.b, dd, cT, f43, bS, w0, d1, Int.toNat_natCast, l2]⟩
    | some w =>
      rw [hbf] at l2
      have hw : w.length = n + 1 := by rw [bfI_len hbf]; simp
      obtain ⟨ps', h1, h2⟩ := F36.l6_ok hn a m w hw rs n 0 ps hp (by omega)
      rw [show ((0 : Nat) : Int) = 0 from rfl, ← hp] at h1
      rw [hp] at h1
      exact .inl ⟨rfl, ps', h2, by simp only [F36.l0.b, dd, cT, f43, bS, w0, d1, Int.toNat_natCast, l2, hp, h1, wa]⟩
  have dd2 : decide ((2 : Int) < 2) = false := rfl
  have hlen0 : (List.replicate n z73).length = n := by simp
  rcases axis 0 (.inl rfl) (List.replicate n z73) hlen0 with ⟨h1, ps1, h2, h3⟩ | ⟨h1, h3⟩
  · rcases axis 1 (.inr rfl) ps1 h2 with ⟨g1, ps2, g2, g3⟩ | ⟨g1, g3⟩
    · have l0 : F36.l0 (0, (n : Int), m, List.replicate n z73, rs) = some (.inr ps2) := by
        unfold F36.l0
        rw [lim_in h3]
        rw [show (0 : Int) + 1 = 1 from rfl, lim_in g3]
        exact lim_out (by simp only [F36.l0.b, show (1 : Int) + 1 = 2 from rfl, dd2, cF])
      rw [h1, g1]
      exact ⟨ps2, by simp only [F36.F, d0, cT, Int.toNat_natCast, l0, bS, Bool.and_self]⟩
    · have l0 : F36.l0 (0, (n : Int), m, List.replicate n z73, rs) = some (.inl false) := by
        unfold F36.l0
        rw [lim_in h3]
        rw [show (0 : Int) + 1 = 1 from rfl]
        exact lim_out g3
      rw [h1, g1]
      exact ⟨[], by simp only [F36.F, d0, cT, Int.toNat_natCast, l0, bS, Bool.and_false]⟩
  · have l0 : F36.l0 (0, (n : Int), m, List.replicate n z73, rs) = some (.inl false) := by
      unfold F36.l0
      exact lim_out h3
    rw [h1]
    exact ⟨[], by simp only [F36.F, d0, cT, Int.toNat_natCast, l0, bS, Bool.false_and]⟩

/- The reference's. -/
theorem F37.l2_ok {n : Nat} (hn : n ≤ 24) {es : List S81} (hes : ∀ e ∈ es, EdP n e) (hel : es.length ≤ 168) (k b : Int) (rs : List S31) (v : List Int) (hv : v.length = n + 1) {M : Int} (hM : M ≤ 10000000000) (hb : Bd M v) :
    F37.l2 (k, false, 0, b, es.map c85, v, rs) = some (k, (rnd (eds es) v).1, b, es.map c85, (rnd (eds es) v).2, rs) := by
  have hst : ∀ i, ((eds es).take i) = eds (es.take i) := fun i => by unfold eds; rw [List.map_take]
  have hml : (es.map c85).length = es.length := by simp
  have := lim_run (f := F37.l2.b) (fun i => (k, (((eds es).take i).foldl stpG (false, v)).1, (i : Int), b, es.map c85, (((eds es).take i).foldl stpG (false, v)).2, rs)) es.length (y := (k, (rnd (eds es) v).1, b, es.map c85, (rnd (eds es) v).2, rs)) (fun i hi => by
    have hlen : (((eds es).take i).foldl stpG (false, v)).2.length = n + 1 := by rw [fold_len]; exact hv
    have hbd : Bd (M + 100000 * ((es.take i).length : Int)) (((eds es).take i).foldl stpG (false, v)).2 := by
      rw [hst]; exact fold_bd (fun e he => hes e (List.mem_of_mem_take he)) hv hb
    have htl : (es.take i).length = i := by simp; omega
    have hsucc := take_fold (g := stpG) (l := eds es) (i := i) (d := toEd z81) (a := (false, v)) (by simpa [eds] using hi)
    have hget : (eds es).getD i (toEd z81) = toEd (es.getD i z81) := by
      rw [getD_lt (by simpa [eds] using hi), getD_lt hi]; simp [eds]
    rw [hget] at hsucc
    rw [hsucc]
    have hx := hes (es.getD i z81) (by rw [getD_lt hi]; exact List.getElem_mem hi)
    have hxm : (es.map c85).getD i z85 = c85 (es.getD i z81) := by rw [getD_lt (by simpa using hi), getD_lt hi]; simp
    generalize es.getD i z81 = x at hx hxm
    generalize ((eds es).take i).foldl stpG (false, v) = s at hlen hbd
    obtain ⟨s1, s2⟩ := s
    dsimp only at hlen hbd ⊢
    have := hx.a0; have := hx.an; have := hx.b0; have := hx.bn; have := hx.c0; have := hx.c1
    have hb0 := hbd x.f0.toNat
    have d : decide ((i : Int) < ((es.map c85).length : Int)) = true := dT (by omega)
    have d2 : decide ((0 : Int) ≤ (i : Int)) = true := dT (by omega)
    have d3 : decide ((0 : Int) ≤ x.f0) = true := dT (by omega)
    have d4 : decide (x.f0 < (s2.length : Int)) = true := dT (by omega)
    have d5 : decide ((0 : Int) ≤ x.f1) = true := dT (by omega)
    have d6 : decide (x.f1 < (s2.length : Int)) = true := dT (by omega)
    have w : Go.IntKind.wrap .i64 ((i : Int) + 1) = ((i + 1 : Nat) : Int) := by rw [w64 (by omega) (by omega)]; rfl
    have w2 : Go.IntKind.wrap .i64 (s2.getD x.f0.toNat 0 + x.f2) = s2.getD x.f0.toNat 0 + x.f2 := w64 (by omega) (by omega)
    have c0 : (c85 x).f0 = x.f0 := rfl
    have c1 : (c85 x).f1 = x.f1 := rfl
    have c2 : (c85 x).f2 = x.f2 := rfl
    unfold stpG toEd
    dsimp only
    by_cases hc : s2.getD x.f0.toNat 0 + x.f2 > s2.getD x.f1.toNat 0
    · rw [if_pos hc]
      simp only [F37.l2.b, d, d2, d3, d4, d5, d6, Bool.and_self, cT, Int.toNat_natCast, hxm, c0, c1, c2, w, w2, dT hc]
    · rw [if_neg hc]
      simp only [F37.l2.b, d, d2, d3, d4, d5, d6, Bool.and_self, cT, cF, Int.toNat_natCast, hxm, c0, c1, c2, w, w2, dF hc])
    (by
      have d : decide ((es.length : Int) < ((es.map c85).length : Int)) = false := dF (by omega)
      have ht : (eds es).take es.length = eds es := List.take_of_length_le (by simp [eds])
      simp only [F37.l2.b, d, cF, ht]
      rfl)
  exact this

theorem F37.l0_ok {n : Nat} (hn : n ≤ 24) {es : List S81} (hes : ∀ e ∈ es, EdP n e) (hel : es.length ≤ 168) (rs : List S31) : ∀ (f k : Nat) (v : List Int), k + f = n + 2 → v.length = n + 1 → Bd (20000000 * (k : Int)) v →
    F37.l0 ((k : Int), (n : Int), es.map c85, v, rs) = some (.inl ((bfS (eds es) n f v).2, (bfS (eds es) n f v).1)) ∨ ((bfS (eds es) n f v).2 = false ∧ F37.l0 ((k : Int), (n : Int), es.map c85, v, rs) = some (.inr (bfS (eds es) n f v).1))
  | 0, k, v, hk, hl, hb => by
    have w1 : Go.IntKind.wrap .i64 ((n : Int) + 1) = ((n + 1 : Nat) : Int) := by rw [w64 (by omega) (by omega)]; rfl
    have d : decide ((k : Int) ≤ ((n + 1 : Nat) : Int)) = false := dF (by omega)
    refine .inr ⟨rfl, ?_⟩
    unfold F37.l0
    exact lim_out (by simp only [F37.l0.b, w1, d, cF]; rfl)
  | f + 1, k, v, hk, hl, hb => by
    have w1 : Go.IntKind.wrap .i64 ((n : Int) + 1) = ((n + 1 : Nat) : Int) := by rw [w64 (by omega) (by omega)]; rfl
    have w2 : Go.IntKind.wrap .i64 ((k : Int) + 1) = ((k + 1 : Nat) : Int) := by rw [w64 (by omega) (by omega)]; rfl
    have d : decide ((k : Int) ≤ ((n + 1 : Nat) : Int)) = true := dT (by omega)
    have l2 := F37.l2_ok hn hes hel (k : Int) (n : Int) rs v hl (M := 20000000 * (k : Int)) (by omega) hb
    have hlen : (rnd (eds es) v).2.length = n + 1 := by unfold rnd; rw [fold_len]; exact hl
    have hbd : Bd (20000000 * (k : Int) + 100000 * (es.length : Int)) (rnd (eds es) v).2 := fold_bd (s := (false, v)) hes hl hb
    have d1 : decide ((0 : Int) ≤ (n : Int)) = true := dT (by omega)
    have d2 : decide ((n : Int) < ((rnd (eds es) v).2.length : Int)) = true := dT (by omega)
    rw [bfS]
    cases hr : (rnd (eds es) v).1 with
    | false =>
      rw [hr] at l2
      rw [if_pos rfl]
      refine .inl ?_
      unfold F37.l0
      exact lim_out (by simp only [F37.l0.b, w1, d, cT, l2, bS, Bool.not_false, d1, d2, Bool.and_self, Int.toNat_natCast])
    | true =>
      rw [hr] at l2
      simp only [Bool.true_eq_false, if_false]
      have run : F37.l0 ((k : Int), (n : Int), es.map c85, v, rs) = F37.l0 (((k + 1 : Nat) : Int), (n : Int), es.map c85, (rnd (eds es) v).2, rs) := by
        unfold F37.l0
        exact lim_in (by simp only [F37.l0.b, w1, w2, d, cT, cF, l2, bS, Bool.not_true])
      rw [run]
      exact F37.l0_ok hn hes hel rs f (k + 1) (rnd (eds es) v).2 (by omega) hlen (fun i => by have := hbd i; omega)

theorem F37.ok {n : Nat} (hn : n ≤ 24) {rs : List S31} (hr : rs.length ≤ 60) (hx : ∀ x ∈ rs, RuleP n x) (a : Int) (ha : a = 0 ∨ a = 1) : ∃ v, v.length = n + 1 ∧ F37.F (((n : Int), rs), idxs rs.length, a) = some (v, okI a n rs (tru rs)) := by
  have f44 := F44.ok a ha n hn rs hr hx
  have hes := aE_ok (a := a) (n := n) (m := tru rs) hx
  have w0 : Go.IntKind.wrap .i64 ((n : Int) + 1) = ((n + 1 : Nat) : Int) := by rw [w64 (by omega) (by omega)]; rfl
  have d1 : (((decide (0 ≤ ((n + 1 : Nat) : Int))) && (decide (((n + 1 : Nat) : Int) ≤ ((n + 1 : Nat) : Int)))) && (decide (((n + 1 : Nat) : Int) ≤ 274877906944))) = true := by simp; omega
  let V : Nat → List Int := fun k => Nat.rec (List.replicate (n + 1) 0) (fun _ v => (rnd (eds (aE a n rs (tru rs))) v).2) k
  have heq := bf_eq (Es := eds (aE a n rs (tru rs))) (n := n) (eds_val hes) (V := V) (fun k => rfl) (by show (List.replicate (n + 1) (0 : Int)).length = _; simp) (fun i => (rep_bd (n + 1) 0 (Int.le_refl _) i).1) (n + 2) 0 (by omega) (fun k hk => by omega) ((rep_bd (n + 1) 0 (Int.le_refl _) n).2)
  have heq : okI a n rs (tru rs) = (bfS (eds (aE a n rs (tru rs))) n (n + 2) (List.replicate (n + 1) 0)).2 := heq
  have hsl : ∀ (f : Nat) (v : List Int), (bfS (eds (aE a n rs (tru rs))) n f v).1.length = v.length := by
    intro f
    induction f with
    | zero => intro v; rfl
    | succ f ih =>
      intro v
      have hl : (rnd (eds (aE a n rs (tru rs))) v).2.length = v.length := by unfold rnd; rw [fold_len]
      rw [bfS]
      split
      · exact hl
      · rw [ih, hl]
  rw [heq]
  refine ⟨(bfS (eds (aE a n rs (tru rs))) n (n + 2) (List.replicate (n + 1) 0)).1, by rw [hsl]; simp, ?_⟩
  have l0 := F37.l0_ok hn hes (aE_len hn hr) rs (n + 2) 0 (List.replicate (n + 1) 0) (by omega) (by simp) (rep_bd _ _ (by omega))
  rw [show ((0 : Nat) : Int) = 0 from rfl] at l0
  rcases l0 with l0 | ⟨hf, l0⟩
  · simp only [F37.F, f44, bS, w0, d1, cT, Int.toNat_natCast, l0]
  · rw [hf]
    simp only [F37.F, f44, bS, w0, d1, cT, Int.toNat_natCast, l0]

end Go.Proofs.Ytciafkboilgblaa.AX

/- Groups: trees with one root each. No conditions. -/
namespace Go.Proofs.Ytciafkboilgblaa.AX
open Go

/-- From a on one comes to r. -/
inductive Rt (g : List Int) : Nat → Nat → Prop where
  | root {a : Nat} (h : a < g.length) (e : g.getD a 0 = (a : Int)) : Rt g a a
  | step {a b r : Nat} (h : a < g.length) (e : g.getD a 0 = (b : Int)) (hn : b ≠ a) (t : Rt g b r) : Rt g a r

theorem Rt.isRoot {g : List Int} {a r : Nat} (h : Rt g a r) : r < g.length ∧ g.getD r 0 = (r : Int) := by
  induction h with
  | root h e => exact ⟨h, e⟩
  | step _ _ _ _ ih => exact ih
theorem Rt.uniq {g : List Int} {a r s : Nat} (h : Rt g a r) (h' : Rt g a s) : r = s := by
  induction h with
  | root h e =>
    cases h' with
    | root _ _ => rfl
    | step _ e' hn _ => rw [e] at e'; exact absurd (by omega) hn
  | step h e hn t ih =>
    cases h' with
    | root _ e' => rw [e] at e'; exact absurd (by omega) hn
    | step _ e' _ t' =>
      rw [e] at e'
      have : _ = _ := Int.ofNat.inj e'
      subst this
      exact ih t'
theorem Rt.of_root {g : List Int} {a r : Nat} (h : Rt g a r) (e : g.getD a 0 = (a : Int)) : r = a := by
  cases h with
  | root _ _ => rfl
  | step _ e' hn _ => rw [e] at e'; exact absurd (by omega) hn

theorem F23.l0_ok {g : List Int} {a r : Nat} (h : Rt g a r) : F23.l0 ((a : Int), g) = some (r : Int) := by
  induction h with
  | root h e =>
    rename_i a
    have d2 : decide ((a : Int) < (g.length : Int)) = true := dT (by omega)
    have q : (g.getD a 0 != (a : Int)) = false := nF e
    unfold F23.l0
    exact lim_out (by simp only [F23.l0.b, dT (show (0 : Int) ≤ (a : Int) by omega), d2, Bool.and_self, cT, cF, Int.toNat_natCast, q])
  | step h e hn t ih =>
    rename_i a b r
    have d2 : decide ((a : Int) < (g.length : Int)) = true := dT (by omega)
    have q : (g.getD a 0 != (a : Int)) = true := nT (by rw [e]; omega)
    rw [← ih]
    unfold F23.l0
    exact lim_in (by simp only [F23.l0.b, dT (show (0 : Int) ≤ (a : Int) by omega), d2, Bool.and_self, cT, cF, Int.toNat_natCast, q]; rw [e])
theorem F23.ok {g : List Int} {a r : Nat} (h : Rt g a r) : F23.F (g, (a : Int)) = some (r : Int) := by
  simp only [F23.F, F23.l0_ok h, bS]
theorem F27.l0_ok {g : List Int} {a r : Nat} (h : Rt g a r) : F27.l0 ((a : Int), g) = some (r : Int) := by
  induction h with
  | root h e =>
    rename_i a
    have d2 : decide ((a : Int) < (g.length : Int)) = true := dT (by omega)
    have q : (g.getD a 0 != (a : Int)) = false := nF e
    unfold F27.l0
    exact lim_out (by simp only [F27.l0.b, dT (show (0 : Int) ≤ (a : Int) by omega), d2, Bool.and_self, cT, cF, Int.toNat_natCast, q])
  | step h e hn t ih =>
    rename_i a b r
    have d2 : decide ((a : Int) < (g.length : Int)) = true := dT (by omega)
    have q : (g.getD a 0 != (a : Int)) = true := nT (by rw [e]; omega)
    rw [← ih]
    unfold F27.l0
    exact lim_in (by simp only [F27.l0.b, dT (show (0 : Int) ≤ (a : Int) by omega), d2, Bool.and_self, cT, cF, Int.toNat_natCast, q]; rw [e])
theorem F27.ok {g : List Int} {a r : Nat} (h : Rt g a r) : F27.F (g, (a : Int)) = some (r : Int) := by
  simp only [F27.F, F27.l0_ok h, bS]

/-- A forest, and each one's root. -/
structure UF (N : Nat) (g : List Int) (f : Nat → Nat) : Prop where
  len : g.length = N
  rt : ∀ x, x < N → Rt g x (f x)
theorem UF.lt {N : Nat} {g : List Int} {f : Nat → Nat} (h : UF N g f) {x : Nat} (hx : x < N) : f x < N := by
  have := (h.rt x hx).isRoot.1; have := h.len; omega
theorem UF.idem {N : Nat} {g : List Int} {f : Nat → Nat} (h : UF N g f) {x : Nat} (hx : x < N) : f (f x) = f x :=
  (h.rt (f x) (h.lt hx)).of_root (h.rt x hx).isRoot.2
theorem UF.root_iff {N : Nat} {g : List Int} {f : Nat → Nat} (h : UF N g f) {x : Nat} (hx : x < N) : g.getD x 0 = (x : Int) ↔ f x = x := by
  constructor
  · exact fun e => (h.rt x hx).of_root e
  · intro e
    have := (h.rt x hx).isRoot.2
    rwa [e] at this

/-- Two are one. -/
def jn (f : Nat → Nat) (a b : Nat) : Nat → Nat := fun x => if f x = f a then f b else f x

theorem getD_ne {l : List Int} {i j : Nat} {x : Int} (h : i ≠ j) : (l.set i x).getD j 0 = l.getD j 0 := by
  simp only [List.getD, List.getElem?_set_ne h]

theorem rt_set {g : List Int} {p q : Nat} (hp : p < g.length) (hpr : g.getD p 0 = (p : Int)) (hq : q < g.length) (hqr : g.getD q 0 = (q : Int)) (hne : p ≠ q) {x r : Nat} (h : Rt g x r) : Rt (g.set p (q : Int)) x (if r = p then q else r) := by
  induction h with
  | root h e =>
    rename_i a
    by_cases hap : a = p
    · subst hap
      rw [if_pos rfl]
      refine .step (b := q) (by simpa using h) (getD_set h) (fun e => hne e.symm) (.root (by simpa using hq) ?_)
      rw [getD_ne hne]; exact hqr
    · rw [if_neg hap]
      exact .root (by simpa using h) (by rw [getD_ne (fun e => hap e.symm)]; exact e)
  | step h e hn t ih =>
    rename_i a b r
    have hap : a ≠ p := fun he => by subst he; rw [hpr] at e; exact hn (by omega)
    exact .step (by simpa using h) (by rw [getD_ne (fun e => hap e.symm)]; exact e) hn ih

theorem UF.join {N : Nat} {g : List Int} {f : Nat → Nat} (h : UF N g f) {a b : Nat} (ha : a < N) (hb : b < N) : UF N (g.set (f a) (f b : Int)) (jn f a b) := by
  by_cases e : f a = f b
  · have hr := (h.rt a ha).isRoot.2
    have hs : g.set (f a) (f b : Int) = g := by have q := set_self (l := g) (i := f a) (d := 0); rw [hr] at q; rw [← e]; exact q
    have hj : jn f a b = f := by
      funext x
      unfold jn
      split
      · rename_i h1; rw [h1, e]
      · rfl
    rw [hs, hj]; exact h
  · have ra := (h.rt a ha).isRoot
    have rb := (h.rt b hb).isRoot
    exact ⟨by simpa using h.len, fun x hx => rt_set ra.1 ra.2 rb.1 rb.2 e (h.rt x hx)⟩

/-- The same ones are one. -/
def Eqv (N : Nat) (f h : Nat → Nat) : Prop := ∀ x y, x < N → y < N → (f x = f y ↔ h x = h y)
theorem Eqv.join {N : Nat} {f h : Nat → Nat} (e : Eqv N f h) {a b : Nat} (ha : a < N) (hb : b < N) : Eqv N (jn f a b) (jn h a b) := fun x y hx hy => by
  have h1 := e x y hx hy
  have h2 := e x a hx ha
  have h3 := e y a hy ha
  have h4 := e x b hx hb
  have h5 := e y b hy hb
  have h6 := e a b ha hb
  unfold jn
  by_cases c1 : f x = f a <;> by_cases c2 : f y = f a
  · rw [if_pos c1, if_pos c2, if_pos (h2.1 c1), if_pos (h3.1 c2)]
    exact ⟨fun _ => rfl, fun _ => rfl⟩
  · rw [if_pos c1, if_neg c2, if_pos (h2.1 c1), if_neg (fun q => c2 (h3.2 q))]
    exact ⟨fun q => (h5.1 q.symm).symm, fun q => (h5.2 q.symm).symm⟩
  · rw [if_neg c1, if_pos c2, if_neg (fun q => c1 (h2.2 q)), if_pos (h3.1 c2)]
    exact h4
  · rw [if_neg c1, if_neg c2, if_neg (fun q => c1 (h2.2 q)), if_neg (fun q => c2 (h3.2 q))]
    exact h1
theorem Eqv.swap {N : Nat} {f : Nat → Nat} {a b : Nat} : Eqv N (jn f a b) (jn f b a) := fun x y hx hy => by
  unfold jn
  split <;> split <;> split <;> split <;> constructor <;> intro q <;> omega
theorem Eqv.trans {N : Nat} {f g h : Nat → Nat} (e : Eqv N f g) (e' : Eqv N g h) : Eqv N f h := fun x y hx hy => (e x y hx hy).trans (e' x y hx hy)

/- Counting. -/
theorem cnt_congr {p q : Nat → Bool} : ∀ {n}, (∀ i, i < n → p i = q i) → cntN p n = cntN q n
  | 0, _ => rfl
  | n + 1, h => by
    have h1 := cnt_congr (n := n) fun i hi => h i (by omega)
    simp only [cntN, h1, h n (by omega)]
theorem cnt_del {p : Nat → Bool} {c : Nat} : ∀ {n}, c < n → p c = true → cntN (fun i => p i && !(i == c)) n + 1 = cntN p n
  | 0, h, _ => by omega
  | n + 1, h, hp => by
    simp only [cntN]
    by_cases e : c = n
    · subst e
      have : cntN (fun i => p i && !(i == c)) c = cntN p c := cnt_congr fun i hi => by
        have : (i == c) = false := by simp; omega
        rw [this]; simp
      simp [this, hp]
    · have h1 := cnt_del (n := n) (by omega) hp
      have : (n == c) = false := by simp; omega
      simp only [this, Bool.not_false, Bool.and_true]
      omega

/-- Two forests of the same groups. -/
structure UU (N : Nat) (g h : List Int) (f f' : Nat → Nat) : Prop where
  u : UF N g f
  v : UF N h f'
  e : Eqv N f f'
  c : cntN (fun i => f i == i) N = cntN (fun i => f' i == i) N

theorem cnt_join {N : Nat} {g : List Int} {f : Nat → Nat} (h : UF N g f) {a b : Nat} (ha : a < N) (hb : b < N) (hne : f a ≠ f b) : cntN (fun i => jn f a b i == i) N + 1 = cntN (fun i => f i == i) N := by
  have h1 : cntN (fun i => jn f a b i == i) N = cntN (fun i => (f i == i) && !(i == f a)) N := cnt_congr fun i hi => by
    unfold jn
    by_cases c : f i = f a
    · rw [if_pos c]
      -- not a root: the other one is
      have q1 : (f b == i) = false := by
        simp only [beq_eq_false_iff_ne, ne_eq]
        intro e
        have := h.idem hb
        rw [e] at this
        exact hne (by omega)
      rw [q1]
      by_cases c2 : f i = i
      · have : i = f a := by omega
        have : (i == f a) = true := by simpa using this
        rw [this]; simp
      · have : (f i == i) = false := by simpa using c2
        rw [this]; rfl
    · rw [if_neg c]
      by_cases c2 : i = f a
      · exfalso
        have := h.idem ha
        rw [← c2] at this
        exact c (by omega)
      · have : (i == f a) = false := by simpa using c2
        rw [this]; simp
  rw [h1]
  exact cnt_del (h.lt ha) (by have := h.idem ha; simpa using this)

/-- A tie, by the program and by the reference (either way round). -/
theorem tie_ok {N : Nat} (hN : N ≤ 1000) {g h : List Int} {f f' : Nat → Nat} (u : UU N g h f f') {a b : Nat} (ha : a < N) (hb : b < N) : ∃ old g' h' k k',
    F22.F (g, (a : Int), (b : Int)) = some (old, g', ()) ∧ F26.F (h, (a : Int), (b : Int)) = some (!old, h', ()) ∧ UU N g' h' k k' := by
  have lu := u.u.len
  have lv := u.v.len
  have fa := u.u.lt ha
  have va := u.v.lt ha
  have e1 := F23.ok (u.u.rt a ha)
  have e2 := F23.ok (u.u.rt b hb)
  have e3 := F27.ok (u.v.rt a ha)
  have e4 := F27.ok (u.v.rt b hb)
  have d1 : decide ((0 : Int) ≤ (f a : Int)) = true := dT (by omega)
  have d2 : decide ((f a : Int) < (g.length : Int)) = true := dT (by omega)
  have d3 : decide ((0 : Int) ≤ (f' a : Int)) = true := dT (by omega)
  have d4 : decide ((f' a : Int) < (h.length : Int)) = true := dT (by omega)
  have hab := u.e a b ha hb
  by_cases c : f a = f b
  · have q1 : ((f a : Int) == (f b : Int)) = true := qT (by omega)
    have c' := hab.1 c
    have q2 : ((f' a : Int) == (f' b : Int)) = true := qT (by omega)
    have hj := u.u.join ha hb
    have hr := (u.u.rt a ha).isRoot.2
    have hs : g.set (f a) (f b : Int) = g := by have q := set_self (l := g) (i := f a) (d := 0); rw [hr] at q; rw [← c]; exact q
    refine ⟨true, g, h, f, f', ?_, ?_, u⟩
    · simp only [F22.F, e1, e2, bS, d1, d2, Bool.and_self, cT, q1, Int.toNat_natCast, hs]
    · simp only [F26.F, e3, e4, bS, q2, cT, Bool.not_true]
  · have q1 : ((f a : Int) == (f b : Int)) = false := qF (by omega)
    have c' : f' a ≠ f' b := fun q => c (hab.2 q)
    have q2 : ((f' a : Int) == (f' b : Int)) = false := qF (by omega)
    refine ⟨false, g.set (f a) (f b : Int), h.set (f' a) (f' b : Int), jn f a b, jn f' a b, ?_, ?_, u.u.join ha hb, u.v.join ha hb, u.e.join ha hb, ?_⟩
    · simp only [F22.F, e1, e2, bS, d1, d2, Bool.and_self, cT, q1, Int.toNat_natCast]
    · simp only [F26.F, e3, e4, bS, q2, cF, cT, d3, d4, Bool.and_self, Bool.not_false, Int.toNat_natCast]
    · have := cnt_join u.u ha hb c
      have := cnt_join u.v ha hb c'
      have := u.c
      omega

theorem tie_ok' {N : Nat} (hN : N ≤ 1000) {g h : List Int} {f f' : Nat → Nat} (u : UU N g h f f') {a b : Nat} (ha : a < N) (hb : b < N) : ∃ old g' h' k k',
    F22.F (g, (a : Int), (b : Int)) = some (old, g', ()) ∧ F26.F (h, (b : Int), (a : Int)) = some (!old, h', ()) ∧ UU N g' h' k k' := by
  have lu := u.u.len
  have lv := u.v.len
  have fa := u.u.lt ha
  have vb := u.v.lt hb
  have e1 := F23.ok (u.u.rt a ha)
  have e2 := F23.ok (u.u.rt b hb)
  have e3 := F27.ok (u.v.rt a ha)
  have e4 := F27.ok (u.v.rt b hb)
  have d1 : decide ((0 : Int) ≤ (f a : Int)) = true := dT (by omega)
  have d2 : decide ((f a : Int) < (g.length : Int)) = true := dT (by omega)
  have d3 : decide ((0 : Int) ≤ (f' b : Int)) = true := dT (by omega)
  have d4 : decide ((f' b : Int) < (h.length : Int)) = true := dT (by omega)
  have hab := u.e a b ha hb
  by_cases c : f a = f b
  · have q1 : ((f a : Int) == (f b : Int)) = true := qT (by omega)
    have c' := hab.1 c
    have q2 : ((f' b : Int) == (f' a : Int)) = true := qT (by omega)
    have hr := (u.u.rt a ha).isRoot.2
    have hs : g.set (f a) (f b : Int) = g := by have q := set_self (l := g) (i := f a) (d := 0); rw [hr] at q; rw [← c]; exact q
    refine ⟨true, g, h, f, f', ?_, ?_, u⟩
    · simp only [F22.F, e1, e2, bS, d1, d2, Bool.and_self, cT, q1, Int.toNat_natCast, hs]
    · simp only [F26.F, e3, e4, bS, q2, cT, Bool.not_true]
  · have q1 : ((f a : Int) == (f b : Int)) = false := qF (by omega)
    have c' : f' b ≠ f' a := fun q => c (hab.2 q.symm)
    have q2 : ((f' b : Int) == (f' a : Int)) = false := qF (by omega)
    refine ⟨false, g.set (f a) (f b : Int), h.set (f' b) (f' a : Int), jn f a b, jn f' b a, ?_, ?_, u.u.join ha hb, u.v.join hb ha, (u.e.join ha hb).trans Eqv.swap, ?_⟩
    · simp only [F22.F, e1, e2, bS, d1, d2, Bool.and_self, cT, q1, Int.toNat_natCast]
    · simp only [F26.F, e3, e4, bS, q2, cF, cT, d3, d4, Bool.and_self, Bool.not_false, Int.toNat_natCast]
    · have := cnt_join u.u ha hb c
      have := cnt_join u.v hb ha c'
      have := u.c
      omega

/-- At first each is alone. -/
theorem uu_zero (N : Nat) : UU N (idxs N) (idxs N) id id := by
  have h : UF N (idxs N) id := ⟨by simp [idxs], fun x hx => .root (by simpa [idxs] using hx) (idxs_get hx)⟩
  exact ⟨h, h, fun x y _ _ => Iff.rfl, rfl⟩

end Go.Proofs.Ytciafkboilgblaa.AX

/- Freedoms of sketches: the program and its reference agree. No conditions. -/
namespace Go.Proofs.Ytciafkboilgblaa.AX
open Go

theorem idxs_succ (k : Nat) : idxs (k + 1) = idxs k ++ [(k : Int)] := by unfold idxs; rw [List.range_succ, List.map_append]; rfl
theorem idxs_len (k : Nat) : (idxs k).length = k := by simp [idxs]

theorem F25.ok (n : Int) (rs : List S31) (hr : rs.length ≤ 60) : F25.F (n, rs) = some (idxs rs.length) := by
  have l0 : F25.l0 (0, n, [], rs) = some (idxs rs.length) := lim_run (f := F25.l0.b) (fun i => ((i : Int), n, idxs i, rs)) rs.length (y := idxs rs.length) (fun i hi => by
    have d1 : decide ((i : Int) < (rs.length : Int)) = true := dT (by omega)
    have hl := idxs_len i
    have d2 : decide (((idxs i).length + ((i : Int) :: ([] : List Int)).length) ≤ 274877906944) = true := dT (by simp only [List.length_cons, List.length_nil]; omega)
    have w : Go.IntKind.wrap .i64 ((i : Int) + 1) = ((i + 1 : Nat) : Int) := by rw [w64 (by omega) (by omega)]; rfl
    simp only [F25.l0.b, d1, d2, cT, w]
    rw [idxs_succ])
    (by
      have d1 : decide ((rs.length : Int) < (rs.length : Int)) = false := dF (by omega)
      simp only [F25.l0.b, d1, cF])
  simp only [F25.F, l0, bS]

/-- Can all rules be kept? -/
def okA (n : Nat) (rs : List S31) : Bool := okI 0 n rs (tru rs) && okI 1 n rs (tru rs)

theorem F24.ok {n : Nat} (hn : n ≤ 24) {rs : List S31} (hr : rs.length ≤ 60) (hx : ∀ x ∈ rs, RuleP n x) : ∃ ps, F24.F (((n : Int), rs), idxs rs.length) = some (ps, okA n rs) := by
  obtain ⟨v, hv, e0⟩ := F37.ok hn hr hx 0 (.inl rfl)
  obtain ⟨u, hu, e1⟩ := F37.ok hn hr hx 1 (.inr rfl)
  have l0 : ∀ (r i : Nat) (acc : List S73), i + r = n → acc.length ≤ i → ∃ ps, F24.l0 (okI 0 n rs (tru rs), okI 1 n rs (tru rs), (i : Int), (n : Int), v, u, acc, rs) = some (okI 0 n rs (tru rs), okI 1 n rs (tru rs), ps) := by
    intro r
    induction r with
    | zero =>
      intro i acc hi _
      have d : decide ((i : Int) < (n : Int)) = false := dF (by omega)
      exact ⟨acc, by unfold F24.l0; exact lim_out (by simp only [F24.l0.b, d, cF])⟩
    | succ r ih =>
      intro i acc hi ha
      have d : decide ((i : Int) < (n : Int)) = true := dT (by omega)
      have d2 : decide ((0 : Int) ≤ (i : Int)) = true := dT (by omega)
      have d3 : decide ((i : Int) < (v.length : Int)) = true := dT (by omega)
      have d4 : decide ((i : Int) < (u.length : Int)) = true := dT (by omega)
      have d5 : decide ((acc.length + ((⟨v.getD i 0, u.getD i 0⟩ : S73) :: []).length) ≤ 274877906944) = true := dT (by simp only [List.length_cons, List.length_nil]; omega)
      have w : Go.IntKind.wrap .i64 ((i : Int) + 1) = ((i + 1 : Nat) : Int) := by rw [w64 (by omega) (by omega)]; rfl
      obtain ⟨ps, h⟩ := ih (i + 1) (acc ++ [⟨v.getD i 0, u.getD i 0⟩]) (by omega) (by simp; omega)
      refine ⟨ps, ?_⟩
      rw [← h]
      unfold F24.l0
      exact lim_in (by simp only [F24.l0.b, d, d2, d3, d4, d5, Bool.and_self, cT, Int.toNat_natCast, w])
  obtain ⟨ps, l0⟩ := l0 n 0 [] (by omega) (by simp)
  rw [show ((0 : Nat) : Int) = 0 from rfl] at l0
  exact ⟨ps, by simp only [F24.F, e0, e1, bS, l0]; rfl⟩

theorem F20.ok {n : Nat} {rs : List S31} (h : okS n rs = true) : ∃ ps c, F20.F ((n : Int), rs) = some (ps, (if okA n rs = true then 0 else 15), c) := by
  obtain ⟨hr, h1, h24, hx⟩ := okS_all h
  have hn : n ≤ 24 := by omega
  have f19 := F19.ok n rs
  rw [h] at f19
  have d0 : (((decide (0 ≤ (rs.length : Int))) && (decide ((rs.length : Int) ≤ (rs.length : Int)))) && (decide ((rs.length : Int) ≤ 274877906944))) = true := by simp; omega
  have hfl : (List.replicate rs.length false).length = rs.length := by simp
  have htl : (tru rs).length = rs.length := by simp [tru]
  have l0 : F20.l0 ((rs.length : Int), 0, (n : Int), List.replicate rs.length false, rs) = some ((n : Int), tru rs, rs) :=
    lim_run (f := F20.l0.b) (fun i => ((rs.length : Int), (i : Int), (n : Int), List.replicate i true ++ List.replicate (rs.length - i) false, rs)) rs.length (y := ((n : Int), tru rs, rs)) (fun i hi => by
      have hl : (List.replicate i true ++ List.replicate (rs.length - i) false).length = rs.length := by simp; omega
      have d1 : decide ((i : Int) < (rs.length : Int)) = true := dT (by omega)
      have d2 : decide ((0 : Int) ≤ (i : Int)) = true := dT (by omega)
      have d3 : decide ((i : Int) < ((List.replicate i true ++ List.replicate (rs.length - i) false).length : Int)) = true := dT (by omega)
      have w : Go.IntKind.wrap .i64 ((i : Int) + 1) = ((i + 1 : Nat) : Int) := by rw [w64 (by omega) (by omega)]; rfl
      have hs : (List.replicate i true ++ List.replicate (rs.length - i) false).set i true = List.replicate (i + 1) true ++ List.replicate (rs.length - (i + 1)) false := by
        rw [show rs.length - i = (rs.length - (i + 1)) + 1 by omega, List.replicate_succ, set_app (by simp), List.replicate_succ', List.append_assoc]; rfl
      simp only [F20.l0.b, d1, d2, d3, Bool.and_self, cT, w, Int.toNat_natCast, hs])
      (by
        have d1 : decide ((rs.length : Int) < (rs.length : Int)) = false := dF (by omega)
        simp only [F20.l0.b, d1, cF, Nat.sub_self, List.replicate_zero, List.append_nil]; rfl)
  obtain ⟨ps, f36⟩ := F36.ok hn hr hx (tru rs) htl
  rw [show (okI 0 n rs (tru rs) && okI 1 n rs (tru rs)) = okA n rs from rfl] at f36
  cases hk : okA n rs with
  | true =>
    rw [hk] at f36
    exact ⟨ps, [], by simp only [F20.F, f19, bS, Bool.not_true, cF, d0, cT, Int.toNat_natCast, hfl, l0, f36, if_true]⟩
  | false =>
    rw [hk] at f36
    have l2 : ∀ (k : Nat) (m : List Bool), k ≤ rs.length → m.length = rs.length → ∃ m', m'.length = rs.length ∧ F20.l2 ((k : Int) - 1, (n : Int), m, rs) = some m' := by
      intro k
      induction k with
      | zero =>
        intro m _ hm
        have d : decide (((0 : Nat) : Int) - 1 ≥ 0) = false := rfl
        exact ⟨m, hm, by unfold F20.l2; exact lim_out (by simp only [F20.l2.b, d, cF])⟩
      | succ k ih =>
        intro m hk' hm
        have hkk : ((k + 1 : Nat) : Int) - 1 = (k : Int) := by omega
        rw [hkk]
        have d : decide ((k : Int) ≥ 0) = true := dT (by omega)
        have d2 : decide ((0 : Int) ≤ (k : Int)) = true := dT (by omega)
        have d3 : decide ((k : Int) < (m.length : Int)) = true := dT (by omega)
        have d4 : decide ((k : Int) < ((m.set k false).length : Int)) = true := dT (by rw [List.length_set]; omega)
        have w : Go.IntKind.wrap .i64 ((k : Int) - 1) = (k : Int) - 1 := w64 (by omega) (by omega)
        obtain ⟨qs, g36⟩ := F36.ok hn hr hx (m.set k false) (by simpa using hm)
        cases hb : (okI 0 n rs (m.set k false) && okI 1 n rs (m.set k false)) with
        | true =>
          rw [hb] at g36
          obtain ⟨m', g1, g2⟩ := ih ((m.set k false).set k true) (by omega) (by simpa using hm)
          refine ⟨m', g1, ?_⟩
          rw [← g2]
          unfold F20.l2
          exact lim_in (by simp only [F20.l2.b, d, d2, d3, d4, Bool.and_self, cT, Int.toNat_natCast, g36, bS, w])
        | false =>
          rw [hb] at g36
          obtain ⟨m', g1, g2⟩ := ih (m.set k false) (by omega) (by simpa using hm)
          refine ⟨m', g1, ?_⟩
          rw [← g2]
          unfold F20.l2
          exact lim_in (by simp only [F20.l2.b, d, d2, d3, d4, Bool.and_self, cT, cF, Int.toNat_natCast, g36, bS, w])
    obtain ⟨m', m1, l2⟩ := l2 rs.length (tru rs) (Nat.le_refl _) htl
    have l4 : ∀ (r i : Nat) (acc : List Int), i + r = rs.length → acc.length ≤ i → ∃ c, F20.l4 ((rs.length : Int), (i : Int), m', acc) = some c := by
      intro r
      induction r with
      | zero =>
        intro i acc hi _
        have d : decide ((i : Int) < (rs.length : Int)) = false := dF (by omega)
        exact ⟨acc, by unfold F20.l4; exact lim_out (by simp only [F20.l4.b, d, cF])⟩
      | succ r ih =>
        intro i acc hi ha
        have d : decide ((i : Int) < (rs.length : Int)) = true := dT (by omega)
        have d2 : decide ((0 : Int) ≤ (i : Int)) = true := dT (by omega)
        have d3 : decide ((i : Int) < (m'.length : Int)) = true := dT (by omega)
        have d5 : decide ((acc.length + ((i : Int) :: ([] : List Int)).length) ≤ 274877906944) = true := dT (by simp only [List.length_cons, List.length_nil]; omega)
        have w : Go.IntKind.wrap .i64 ((i : Int) + 1) = ((i + 1 : Nat) : Int) := by rw [w64 (by omega) (by omega)]; rfl
        cases hb : m'.getD i false with
        | true =>
          obtain ⟨c, h⟩ := ih (i + 1) (acc ++ [(i : Int)]) (by omega) (by simp; omega)
          refine ⟨c, ?_⟩
          rw [← h]
          unfold F20.l4
          exact lim_in (by simp only [F20.l4.b, d, d2, d3, d5, Bool.and_self, cT, Int.toNat_natCast, hb, w])
        | false =>
          obtain ⟨c, h⟩ := ih (i + 1) acc (by omega) (by omega)
          refine ⟨c, ?_⟩
          rw [← h]
          unfold F20.l4
          exact lim_in (by simp only [F20.l4.b, d, d2, d3, d5, Bool.and_self, cT, cF, Int.toNat_natCast, hb, w])
    obtain ⟨c, l4⟩ := l4 rs.length 0 [] (by omega) (by simp)
    rw [show ((0 : Nat) : Int) = 0 from rfl] at l4
    have w : Go.IntKind.wrap .i64 ((rs.length : Int) - 1) = (rs.length : Int) - 1 := w64 (by omega) (by omega)
    exact ⟨[], c, by simp only [F20.F, f19, bS, Bool.not_true, cF, d0, cT, Int.toNat_natCast, hfl, l0, f36, htl, w, l2, m1, l4, Bool.false_eq_true, if_false]⟩

theorem F21.ok (k : Nat) (hk : k ≤ 1000) : F21.F (k : Int) = some (idxs k) := by
  have d0 : (((decide (0 ≤ (k : Int))) && (decide ((k : Int) ≤ (k : Int)))) && (decide ((k : Int) ≤ 274877906944))) = true := by simp; omega
  have hfl : (List.replicate k (0 : Int)).length = k := by simp
  have hz : idxs 0 ++ List.replicate (k - 0) 0 = List.replicate k 0 := by simp [idxs]
  have l0 : F21.l0 ((k : Int), 0, idxs 0 ++ List.replicate (k - 0) 0) = some (idxs k) :=
    lim_run (f := F21.l0.b) (fun i => ((k : Int), (i : Int), idxs i ++ List.replicate (k - i) 0)) k (y := idxs k) (fun i hi => by
      have hi2 := idxs_len i
      have hl : (idxs i ++ List.replicate (k - i) 0).length = k := by simp [hi2]; omega
      have d1 : decide ((i : Int) < (k : Int)) = true := dT (by omega)
      have d2 : decide ((0 : Int) ≤ (i : Int)) = true := dT (by omega)
      have d3 : decide ((i : Int) < ((idxs i ++ List.replicate (k - i) 0).length : Int)) = true := dT (by omega)
      have w : Go.IntKind.wrap .i64 ((i : Int) + 1) = ((i + 1 : Nat) : Int) := by rw [w64 (by omega) (by omega)]; rfl
      have hs : (idxs i ++ List.replicate (k - i) 0).set i (i : Int) = idxs (i + 1) ++ List.replicate (k - (i + 1)) 0 := by
        rw [show k - i = (k - (i + 1)) + 1 by omega, List.replicate_succ, set_app (by omega), idxs_succ, List.append_assoc]; rfl
      simp only [F21.l0.b, d1, d2, d3, Bool.and_self, cT, w, Int.toNat_natCast, hs])
      (by
        have d1 : decide ((k : Int) < (k : Int)) = false := dF (by omega)
        simp only [F21.l0.b, d1, cF, Nat.sub_self, List.replicate_zero, List.append_nil])
  rw [hz] at l0
  simp only [F21.F, d0, cT, Int.toNat_natCast, hfl, l0, bS]

/- The ties, rule by rule. -/
theorem F6.t27_ok (n k : Int) (old : Bool) (a b : Int) (G : List (List Int)) (rs : List S31) (idle : List Int) (h : idle.length ≤ 1000) : F6.t27 (n, k, old, a, b, G, rs, idle) = some (n, a, b, G, bif old then idle ++ [k] else idle, rs) := by
  have d5 : decide ((idle.length + (k :: ([] : List Int)).length) ≤ 274877906944) = true := dT (by simp only [List.length_cons, List.length_nil]; omega)
  cases old <;> simp only [F6.t27, cT, cF, d5]
theorem F7.t33_ok (n k : Int) (old : Bool) (b : Int) (G : List (List Int)) (rs : List S31) (idle : List Int) (h : idle.length ≤ 1000) : F7.t33 (n, k, !old, b, G, idle, rs) = some (n, k, b, G, bif old then idle ++ [k] else idle, rs) := by
  have d5 : decide ((idle.length + (k :: ([] : List Int)).length) ≤ 274877906944) = true := dT (by simp only [List.length_cons, List.length_nil]; omega)
  cases old <;> simp only [F7.t33, Bool.not_true, Bool.not_false, cT, cF, d5]

/-- A round's ends. -/
def Nxt (n : Nat) (rs : List S31) (k : Nat) (g0 g1 h0 h1 : List Int) (idle : List Int) : Prop := ∃ old g0' g1' h0' h1' f0 f1 e0 e1,
  UU (n + 1) g0' h0' f0 e0 ∧ UU (n + 1) g1' h1' f1 e1 ∧
  F6.l0.b ((n : Int), (rs.length : Int), (k : Int), [g0, g1], rs, idle) = some (.inl ((n : Int), (rs.length : Int), ((k + 1 : Nat) : Int), [g0', g1'], rs, bif old then idle ++ [(k : Int)] else idle)) ∧
  F7.l2.b ((n : Int), (k : Int), (n : Int), [h0, h1], idle, rs) = some (.inl ((n : Int), ((k + 1 : Nat) : Int), (n : Int), [h0', h1'], (bif old then idle ++ [(k : Int)] else idle), rs))

theorem nxt_ok {n : Nat} (hn : n ≤ 24) {rs : List S31} (hr : rs.length ≤ 60) (hx : ∀ x ∈ rs, RuleP n x) {k : Nat} (hk : k < rs.length) {g0 g1 h0 h1 : List Int} {f0 f1 e0 e1 : Nat → Nat} (u0 : UU (n + 1) g0 h0 f0 e0) (u1 : UU (n + 1) g1 h1 f1 e1) (idle : List Int) (hi : idle.length ≤ 100) : Nxt n rs k g0 g1 h0 h1 idle := by
  have d : decide ((k : Int) < (rs.length : Int)) = true := dT (by omega)
  have dz : decide ((0 : Int) ≤ (k : Int)) = true := dT (by omega)
  have w : Go.IntKind.wrap .i64 ((k : Int) + 1) = ((k + 1 : Nat) : Int) := by rw [w64 (by omega) (by omega)]; rfl
  have hp := hx (rs.getD k z31) (by rw [getD_lt hk]; exact List.getElem_mem hk)
  generalize hxx : rs.getD k z31 = x at hp
  obtain ⟨x0, x1, x2, x3⟩ := x
  have k1 : 1 ≤ x0 := hp.k1
  have k9 : x0 ≤ 9 := hp.k9
  obtain ⟨a, rfl⟩ : ∃ a : Nat, x1 = (a : Int) := ⟨x1.toNat, by have : 0 ≤ x1 := hp.a0; omega⟩
  obtain ⟨b, rfl⟩ : ∃ b : Nat, x2 = (b : Int) := ⟨x2.toNat, by have : 0 ≤ x2 := hp.b0; omega⟩
  have ha : a < n + 1 := by have : (a : Int) < n := hp.an; omega
  have hb : b < n + 1 := by have : (b : Int) < n := hp.bn; omega
  have t27 := fun old G => F6.t27_ok (n : Int) (k : Int) old (rs.length : Int) (k : Int) G rs idle (by omega)
  have t33 := fun old G => F7.t33_ok (n : Int) (k : Int) old (n : Int) G rs idle (by omega)
  have i0 : ∀ p q : List Int, List.getD [p, q] (Int.toNat 0) ([] : List Int) = p := fun _ _ => rfl
  have i1 : ∀ p q : List Int, List.getD [p, q] (Int.toNat 1) ([] : List Int) = q := fun _ _ => rfl
  have s0 : ∀ p q r : List Int, List.set [p, q] (Int.toNat 0) r = [r, q] := fun _ _ _ => rfl
  have s1 : ∀ p q r : List Int, List.set [p, q] (Int.toNat 1) r = [p, r] := fun _ _ _ => rfl
  have l2 : ∀ p q : List Int, (([p, q] : List (List Int)).length : Int) = 2 := fun _ _ => rfl
  have z0 : decide ((0 : Int) ≤ 0) = true := rfl
  have z1 : decide ((0 : Int) ≤ 1) = true := rfl
  have z2 : decide ((0 : Int) < 2) = true := rfl
  have z3 : decide ((1 : Int) < 2) = true := rfl
  have n0 : decide ((0 : Nat) ≤ 0) = true := rfl
  have n1 : decide ((0 : Nat) ≤ 1) = true := rfl
  have hcs : x0 = 1 ∨ x0 = 2 ∨ x0 = 3 ∨ x0 = 4 ∨ x0 = 5 ∨ x0 = 6 ∨ x0 = 7 ∨ x0 = 8 ∨ x0 = 9 := by omega
  clear k1 k9 hp
  rcases hcs with hc | hc | hc | hc | hc | hc | hc | hc | hc
  · subst hc
    have q1 : ((1 : Int) == 1) = true := rfl
    have q2 : ((1 : Int) == 2) = false := rfl
    have q3 : ((1 : Int) == 3) = false := rfl
    have q4 : ((1 : Int) == 4) = false := rfl
    have q7 : ((1 : Int) == 7) = false := rfl
    have q8 : ((1 : Int) == 8) = false := rfl
    have q9 : ((1 : Int) == 9) = false := rfl
    have w1 : Go.IntKind.wrap .i64 ((1 : Int) - 1) = 0 := by decide
    have w3 : Go.IntKind.wrap .i64 ((1 : Int) - 3) = -2 := by decide
    have w7 : Go.IntKind.wrap .i64 ((1 : Int) - 7) = -6 := by decide
    obtain ⟨old, g', h', m, m', r1, r2, r3⟩ := tie_ok' (by omega) u0 ha (show n < n + 1 by omega)
    exact ⟨old, g', g1, h', h1, m, f1, m', e1, r3, u1, by simp only [F6.l0.b, hxx, d, dz, Bool.and_self, Bool.and_true, cT, cF, Int.toNat_natCast, q1, q2, q3, q4, q7, q8, q9, w1, w3, w7, l2, z0, z1, z2, z3, n0, n1, i0, i1, s0, s1, bS, w, r1, t27], by simp only [F7.l2.b, hxx, d, dz, Bool.and_self, Bool.and_true, cT, cF, Int.toNat_natCast, q1, q2, q3, q4, q7, q8, q9, w1, w3, w7, l2, z0, z1, z2, z3, n0, n1, i0, i1, s0, s1, bS, w, r2, t33]⟩
  · subst hc
    have q1 : ((2 : Int) == 1) = false := rfl
    have q2 : ((2 : Int) == 2) = true := rfl
    have q3 : ((2 : Int) == 3) = false := rfl
    have q4 : ((2 : Int) == 4) = false := rfl
    have q7 : ((2 : Int) == 7) = false := rfl
    have q8 : ((2 : Int) == 8) = false := rfl
    have q9 : ((2 : Int) == 9) = false := rfl
    have w1 : Go.IntKind.wrap .i64 ((2 : Int) - 1) = 1 := by decide
    have w3 : Go.IntKind.wrap .i64 ((2 : Int) - 3) = -1 := by decide
    have w7 : Go.IntKind.wrap .i64 ((2 : Int) - 7) = -5 := by decide
    obtain ⟨old, g', h', m, m', r1, r2, r3⟩ := tie_ok' (by omega) u1 ha (show n < n + 1 by omega)
    exact ⟨old, g0, g', h0, h', f0, m, e0, m', u0, r3, by simp only [F6.l0.b, hxx, d, dz, Bool.and_self, Bool.and_true, cT, cF, Int.toNat_natCast, q1, q2, q3, q4, q7, q8, q9, w1, w3, w7, l2, z0, z1, z2, z3, n0, n1, i0, i1, s0, s1, bS, w, r1, t27], by simp only [F7.l2.b, hxx, d, dz, Bool.and_self, Bool.and_true, cT, cF, Int.toNat_natCast, q1, q2, q3, q4, q7, q8, q9, w1, w3, w7, l2, z0, z1, z2, z3, n0, n1, i0, i1, s0, s1, bS, w, r2, t33]⟩
  · subst hc
    have q1 : ((3 : Int) == 1) = false := rfl
    have q2 : ((3 : Int) == 2) = false := rfl
    have q3 : ((3 : Int) == 3) = true := rfl
    have q4 : ((3 : Int) == 4) = false := rfl
    have q7 : ((3 : Int) == 7) = false := rfl
    have q8 : ((3 : Int) == 8) = false := rfl
    have q9 : ((3 : Int) == 9) = false := rfl
    have w1 : Go.IntKind.wrap .i64 ((3 : Int) - 1) = 2 := by decide
    have w3 : Go.IntKind.wrap .i64 ((3 : Int) - 3) = 0 := by decide
    have w7 : Go.IntKind.wrap .i64 ((3 : Int) - 7) = -4 := by decide
    obtain ⟨old, g', h', m, m', r1, r2, r3⟩ := tie_ok (by omega) u0 ha hb
    exact ⟨old, g', g1, h', h1, m, f1, m', e1, r3, u1, by simp only [F6.l0.b, hxx, d, dz, Bool.and_self, Bool.and_true, cT, cF, Int.toNat_natCast, q1, q2, q3, q4, q7, q8, q9, w1, w3, w7, l2, z0, z1, z2, z3, n0, n1, i0, i1, s0, s1, bS, w, r1, t27], by simp only [F7.l2.b, hxx, d, dz, Bool.and_self, Bool.and_true, cT, cF, Int.toNat_natCast, q1, q2, q3, q4, q7, q8, q9, w1, w3, w7, l2, z0, z1, z2, z3, n0, n1, i0, i1, s0, s1, bS, w, r2, t33]⟩
  · subst hc
    have q1 : ((4 : Int) == 1) = false := rfl
    have q2 : ((4 : Int) == 2) = false := rfl
    have q3 : ((4 : Int) == 3) = false := rfl
    have q4 : ((4 : Int) == 4) = true := rfl
    have q7 : ((4 : Int) == 7) = false := rfl
    have q8 : ((4 : Int) == 8) = false := rfl
    have q9 : ((4 : Int) == 9) = false := rfl
    have w1 : Go.IntKind.wrap .i64 ((4 : Int) - 1) = 3 := by decide
    have w3 : Go.IntKind.wrap .i64 ((4 : Int) - 3) = 1 := by decide
    have w7 : Go.IntKind.wrap .i64 ((4 : Int) - 7) = -3 := by decide
    obtain ⟨old, g', h', m, m', r1, r2, r3⟩ := tie_ok (by omega) u1 ha hb
    exact ⟨old, g0, g', h0, h', f0, m, e0, m', u0, r3, by simp only [F6.l0.b, hxx, d, dz, Bool.and_self, Bool.and_true, cT, cF, Int.toNat_natCast, q1, q2, q3, q4, q7, q8, q9, w1, w3, w7, l2, z0, z1, z2, z3, n0, n1, i0, i1, s0, s1, bS, w, r1, t27], by simp only [F7.l2.b, hxx, d, dz, Bool.and_self, Bool.and_true, cT, cF, Int.toNat_natCast, q1, q2, q3, q4, q7, q8, q9, w1, w3, w7, l2, z0, z1, z2, z3, n0, n1, i0, i1, s0, s1, bS, w, r2, t33]⟩
  · subst hc
    have q1 : ((5 : Int) == 1) = false := rfl
    have q2 : ((5 : Int) == 2) = false := rfl
    have q3 : ((5 : Int) == 3) = false := rfl
    have q4 : ((5 : Int) == 4) = false := rfl
    have q7 : ((5 : Int) == 7) = false := rfl
    have q8 : ((5 : Int) == 8) = false := rfl
    have q9 : ((5 : Int) == 9) = false := rfl
    have w1 : Go.IntKind.wrap .i64 ((5 : Int) - 1) = 4 := by decide
    have w3 : Go.IntKind.wrap .i64 ((5 : Int) - 3) = 2 := by decide
    have w7 : Go.IntKind.wrap .i64 ((5 : Int) - 7) = -2 := by decide
    have t33' := t33 false [h0, h1]
    rw [Bool.not_false] at t33'
    exact ⟨false, g0, g1, h0, h1, f0, f1, e0, e1, u0, u1, by simp only [F6.l0.b, hxx, d, dz, Bool.and_self, Bool.and_true, cT, cF, Int.toNat_natCast, q1, q2, q3, q4, q7, q8, q9, w1, w3, w7, l2, z0, z1, z2, z3, n0, n1, i0, i1, s0, s1, bS, w, t27], by simp only [F7.l2.b, hxx, d, dz, Bool.and_self, Bool.and_true, cT, cF, Int.toNat_natCast, q1, q2, q3, q4, q7, q8, q9, w1, w3, w7, l2, z0, z1, z2, z3, n0, n1, i0, i1, s0, s1, bS, w, t33']⟩
  · subst hc
    have q1 : ((6 : Int) == 1) = false := rfl
    have q2 : ((6 : Int) == 2) = false := rfl
    have q3 : ((6 : Int) == 3) = false := rfl
    have q4 : ((6 : Int) == 4) = false := rfl
    have q7 : ((6 : Int) == 7) = false := rfl
    have q8 : ((6 : Int) == 8) = false := rfl
    have q9 : ((6 : Int) == 9) = false := rfl
    have w1 : Go.IntKind.wrap .i64 ((6 : Int) - 1) = 5 := by decide
    have w3 : Go.IntKind.wrap .i64 ((6 : Int) - 3) = 3 := by decide
    have w7 : Go.IntKind.wrap .i64 ((6 : Int) - 7) = -1 := by decide
    have t33' := t33 false [h0, h1]
    rw [Bool.not_false] at t33'
    exact ⟨false, g0, g1, h0, h1, f0, f1, e0, e1, u0, u1, by simp only [F6.l0.b, hxx, d, dz, Bool.and_self, Bool.and_true, cT, cF, Int.toNat_natCast, q1, q2, q3, q4, q7, q8, q9, w1, w3, w7, l2, z0, z1, z2, z3, n0, n1, i0, i1, s0, s1, bS, w, t27], by simp only [F7.l2.b, hxx, d, dz, Bool.and_self, Bool.and_true, cT, cF, Int.toNat_natCast, q1, q2, q3, q4, q7, q8, q9, w1, w3, w7, l2, z0, z1, z2, z3, n0, n1, i0, i1, s0, s1, bS, w, t33']⟩
  · subst hc
    have q1 : ((7 : Int) == 1) = false := rfl
    have q2 : ((7 : Int) == 2) = false := rfl
    have q3 : ((7 : Int) == 3) = false := rfl
    have q4 : ((7 : Int) == 4) = false := rfl
    have q7 : ((7 : Int) == 7) = true := rfl
    have q8 : ((7 : Int) == 8) = false := rfl
    have q9 : ((7 : Int) == 9) = false := rfl
    have w1 : Go.IntKind.wrap .i64 ((7 : Int) - 1) = 6 := by decide
    have w3 : Go.IntKind.wrap .i64 ((7 : Int) - 3) = 4 := by decide
    have w7 : Go.IntKind.wrap .i64 ((7 : Int) - 7) = 0 := by decide
    obtain ⟨old, g', h', m, m', r1, r2, r3⟩ := tie_ok (by omega) u0 ha hb
    exact ⟨old, g', g1, h', h1, m, f1, m', e1, r3, u1, by simp only [F6.l0.b, hxx, d, dz, Bool.and_self, Bool.and_true, cT, cF, Int.toNat_natCast, q1, q2, q3, q4, q7, q8, q9, w1, w3, w7, l2, z0, z1, z2, z3, n0, n1, i0, i1, s0, s1, bS, w, r1, t27], by simp only [F7.l2.b, hxx, d, dz, Bool.and_self, Bool.and_true, cT, cF, Int.toNat_natCast, q1, q2, q3, q4, q7, q8, q9, w1, w3, w7, l2, z0, z1, z2, z3, n0, n1, i0, i1, s0, s1, bS, w, r2, t33]⟩
  · subst hc
    have q1 : ((8 : Int) == 1) = false := rfl
    have q2 : ((8 : Int) == 2) = false := rfl
    have q3 : ((8 : Int) == 3) = false := rfl
    have q4 : ((8 : Int) == 4) = false := rfl
    have q7 : ((8 : Int) == 7) = false := rfl
    have q8 : ((8 : Int) == 8) = true := rfl
    have q9 : ((8 : Int) == 9) = false := rfl
    have w1 : Go.IntKind.wrap .i64 ((8 : Int) - 1) = 7 := by decide
    have w3 : Go.IntKind.wrap .i64 ((8 : Int) - 3) = 5 := by decide
    have w7 : Go.IntKind.wrap .i64 ((8 : Int) - 7) = 1 := by decide
    obtain ⟨old, g', h', m, m', r1, r2, r3⟩ := tie_ok (by omega) u1 ha hb
    exact ⟨old, g0, g', h0, h', f0, m, e0, m', u0, r3, by simp only [F6.l0.b, hxx, d, dz, Bool.and_self, Bool.and_true, cT, cF, Int.toNat_natCast, q1, q2, q3, q4, q7, q8, q9, w1, w3, w7, l2, z0, z1, z2, z3, n0, n1, i0, i1, s0, s1, bS, w, r1, t27], by simp only [F7.l2.b, hxx, d, dz, Bool.and_self, Bool.and_true, cT, cF, Int.toNat_natCast, q1, q2, q3, q4, q7, q8, q9, w1, w3, w7, l2, z0, z1, z2, z3, n0, n1, i0, i1, s0, s1, bS, w, r2, t33]⟩
  · subst hc
    have q1 : ((9 : Int) == 1) = false := rfl
    have q2 : ((9 : Int) == 2) = false := rfl
    have q3 : ((9 : Int) == 3) = false := rfl
    have q4 : ((9 : Int) == 4) = false := rfl
    have q7 : ((9 : Int) == 7) = false := rfl
    have q8 : ((9 : Int) == 8) = false := rfl
    have q9 : ((9 : Int) == 9) = true := rfl
    have w1 : Go.IntKind.wrap .i64 ((9 : Int) - 1) = 8 := by decide
    have w3 : Go.IntKind.wrap .i64 ((9 : Int) - 3) = 6 := by decide
    have w7 : Go.IntKind.wrap .i64 ((9 : Int) - 7) = 2 := by decide
    obtain ⟨old, g', h', m, m', r1, r2, r3⟩ := tie_ok (by omega) u0 ha hb
    obtain ⟨old2, g'', h'', m2, m2', r4, r5, r6⟩ := tie_ok (by omega) u1 ha hb
    have hor : (!old || !old2) = !(old && old2) := by cases old <;> cases old2 <;> rfl
    exact ⟨old && old2, g', g'', h', h'', m, m2, m', m2', r3, r6, by simp only [F6.l0.b, hxx, d, dz, Bool.and_self, Bool.and_true, cT, cF, Int.toNat_natCast, q1, q2, q3, q4, q7, q8, q9, w1, w3, w7, l2, z0, z1, z2, z3, n0, n1, i0, i1, s0, s1, bS, w, r1, r4, t27], by simp only [F7.l2.b, hxx, d, dz, Bool.and_self, Bool.and_true, cT, cF, Int.toNat_natCast, q1, q2, q3, q4, q7, q8, q9, w1, w3, w7, l2, z0, z1, z2, z3, n0, n1, i0, i1, s0, s1, bS, w, r2, r5, hor, t33]⟩

end Go.Proofs.Ytciafkboilgblaa.AX

/- Freedoms of sketches: the program and its reference agree. No conditions. -/
namespace Go.Proofs.Ytciafkboilgblaa.AX
open Go

theorem ties_ok {n : Nat} (hn : n ≤ 24) {rs : List S31} (hr : rs.length ≤ 60) (hx : ∀ x ∈ rs, RuleP n x) : ∀ (r k : Nat) (g0 g1 h0 h1 : List Int) (f0 f1 e0 e1 : Nat → Nat) (idle : List Int), k + r = rs.length → UU (n + 1) g0 h0 f0 e0 → UU (n + 1) g1 h1 f1 e1 → idle.length ≤ k →
    ∃ g0' g1' h0' h1' f0' f1' e0' e1' idle', UU (n + 1) g0' h0' f0' e0' ∧ UU (n + 1) g1' h1' f1' e1' ∧ idle'.length ≤ rs.length ∧
      F6.l0 ((n : Int), (rs.length : Int), (k : Int), [g0, g1], rs, idle) = some ((n : Int), [g0', g1'], idle') ∧ F7.l2 ((n : Int), (k : Int), (n : Int), [h0, h1], idle, rs) = some ((n : Int), [h0', h1'], idle')
  | 0, k, g0, g1, h0, h1, f0, f1, e0, e1, idle, hk, u0, u1, hi => by
    have d : decide ((k : Int) < (rs.length : Int)) = false := dF (by omega)
    refine ⟨g0, g1, h0, h1, f0, f1, e0, e1, idle, u0, u1, by omega, ?_, ?_⟩
    · unfold F6.l0; exact lim_out (by simp only [F6.l0.b, d, cF])
    · unfold F7.l2; exact lim_out (by simp only [F7.l2.b, d, cF])
  | r + 1, k, g0, g1, h0, h1, f0, f1, e0, e1, idle, hk, u0, u1, hi => by
    obtain ⟨old, g0', g1', h0', h1', f0', f1', e0', e1', v0, v1, s1, s2⟩ := nxt_ok hn hr hx (k := k) (by omega) u0 u1 idle (by omega)
    obtain ⟨a0, a1, b0, b1, c0, c1, d0, d1, idle', w0, w1, wl, t1, t2⟩ := ties_ok hn hr hx r (k + 1) g0' g1' h0' h1' f0' f1' e0' e1' (bif old then idle ++ [(k : Int)] else idle) (by omega) v0 v1 (by cases old <;> simp <;> omega)
    refine ⟨a0, a1, b0, b1, c0, c1, d0, d1, idle', w0, w1, wl, ?_, ?_⟩
    · rw [← t1]; unfold F6.l0; exact lim_in s1
    · rw [← t2]; unfold F7.l2; exact lim_in s2

/-- Is it the root of a group that can move? -/
def mv (n : Nat) (f : Nat → Nat) (i : Nat) : Bool := (f i == i) && !(i == f n)
theorem cnt_mv {n : Nat} {g : List Int} {f : Nat → Nat} (u : UF (n + 1) g f) : cntN (mv n f) n + 1 = cntN (fun i => f i == i) (n + 1) := by
  have h1 := cnt_del (p := fun i => f i == i) (c := f n) (n := n + 1) (u.lt (by omega)) (by have := u.idem (x := n) (by omega); simpa using this)
  have h2 : cntN (fun i => (f i == i) && !(i == f n)) (n + 1) = cntN (mv n f) (n + 1) := rfl
  rw [h2] at h1
  have h3 : mv n f n = false := by
    unfold mv
    by_cases e : f n = n
    · rw [e]; simp
    · have : (f n == n) = false := by simpa using e
      rw [this]; rfl
  simp only [cntN, h3] at h1
  simpa [cntN] using h1

theorem F6.l5_ok {n : Nat} (hn : n ≤ 24) {G : List (List Int)} {ax : Nat} {g : List Int} {f : Nat → Nat} (hG : G.getD ax [] = g) (u : UF (n + 1) g f) (free : Nat) (hf : free ≤ 1000) (a b : Int) (idle : List Int) :
    F6.l5 ((n : Int), (free : Int), (ax : Int), 0, a, b, idle, G) = some ((n : Int), ((free + cntN (mv n f) n : Nat) : Int), a, b, idle, G) := by
  have hg := u.len
  exact lim_run (f := F6.l5.b) (fun i => ((n : Int), ((free + cntN (mv n f) i : Nat) : Int), (ax : Int), (i : Int), a, b, idle, G)) n (y := ((n : Int), ((free + cntN (mv n f) n : Nat) : Int), a, b, idle, G)) (fun i hi => by
    have hc := cntN_le (mv n f) i
    have d : decide ((i : Int) < (n : Int)) = true := dT (by omega)
    have d2 : decide ((0 : Int) ≤ (i : Int)) = true := dT (by omega)
    have d3 : decide ((i : Int) < (g.length : Int)) = true := dT (by omega)
    have w : Go.IntKind.wrap .i64 ((i : Int) + 1) = ((i + 1 : Nat) : Int) := by rw [w64 (by omega) (by omega)]; rfl
    have w2 : Go.IntKind.wrap .i64 (((free + cntN (mv n f) i : Nat) : Int) + 1) = ((free + cntN (mv n f) i + 1 : Nat) : Int) := by rw [w64 (by omega) (by omega)]; rfl
    have hri := u.root_iff (x := i) (by omega)
    have e23 := F23.ok (u.rt n (by omega))
    by_cases c : f i = i
    · have q : (g.getD i 0 == (i : Int)) = true := qT (hri.2 c)
      by_cases c2 : f n = i
      · have hm : mv n f i = false := by unfold mv; have : (i == f n) = true := by simp [c2]
                                         rw [this]; simp
        have q2 : ((f n : Int) != (i : Int)) = false := nF (by omega)
        simp only [F6.l5.b, d, d2, d3, Bool.and_self, cT, cF, Int.toNat_natCast, hG, q, e23, bS, q2, Bool.and_false, w, cntN, hm, Bool.false_eq_true, if_false, Nat.add_zero]
      · have hm : mv n f i = true := by
          unfold mv
          have h1 : (f i == i) = true := by simpa using c
          have h2 : (i == f n) = false := by simp; omega
          rw [h1, h2]; rfl
        have q2 : ((f n : Int) != (i : Int)) = true := nT (by omega)
        simp only [F6.l5.b, d, d2, d3, Bool.and_self, cT, cF, Int.toNat_natCast, hG, q, e23, bS, q2, w, w2, cntN, hm, if_true]
        rfl
    · have q : (g.getD i 0 == (i : Int)) = false := qF (fun h => c (hri.1 h))
      have hm : mv n f i = false := by
        unfold mv
        have h1 : (f i == i) = false := by simpa using c
        rw [h1]; rfl
      simp only [F6.l5.b, d, d2, d3, Bool.and_self, cT, cF, Int.toNat_natCast, hG, q, Bool.false_and, w, cntN, hm, Bool.false_eq_true, if_false, Nat.add_zero])
    (by
      have d : decide ((n : Int) < (n : Int)) = false := dF (by omega)
      simp only [F6.l5.b, d, cF])

theorem F7.l7_ok {n : Nat} (hn : n ≤ 24) {G : List (List Int)} {ax : Nat} (hax : ax < G.length) (hGl : G.length ≤ 10) {g : List Int} {f : Nat → Nat} (hG : G.getD ax [] = g) (u : UF (n + 1) g f) (free : Nat) (hf : free ≤ 1000) (idle : List Int) :
    F7.l7 ((n : Int), (free : Int), (ax : Int), 0, G, idle) = some ((n : Int), ((free + cntN (mv n f) n : Nat) : Int), (ax : Int), G, idle) := by
  have hg := u.len
  exact lim_run (f := F7.l7.b) (fun i => ((n : Int), ((free + cntN (mv n f) i : Nat) : Int), (ax : Int), (i : Int), G, idle)) n (y := ((n : Int), ((free + cntN (mv n f) n : Nat) : Int), (ax : Int), G, idle)) (fun i hi => by
    have hc := cntN_le (mv n f) i
    have d : decide ((i : Int) < (n : Int)) = true := dT (by omega)
    have d2 : decide ((0 : Int) ≤ (ax : Int)) = true := dT (by omega)
    have d3 : decide ((ax : Int) < (G.length : Int)) = true := dT (by omega)
    have w : Go.IntKind.wrap .i64 ((i : Int) + 1) = ((i + 1 : Nat) : Int) := by rw [w64 (by omega) (by omega)]; rfl
    have w2 : Go.IntKind.wrap .i64 (((free + cntN (mv n f) i : Nat) : Int) + 1) = ((free + cntN (mv n f) i + 1 : Nat) : Int) := by rw [w64 (by omega) (by omega)]; rfl
    have e27 := F27.ok (u.rt n (by omega))
    have e27i := F27.ok (u.rt i (by omega))
    by_cases c : f i = i
    · have q : ((f i : Int) == (i : Int)) = true := qT (by omega)
      by_cases c2 : f n = i
      · have hm : mv n f i = false := by unfold mv; have : (i == f n) = true := by simp [c2]
                                         rw [this]; simp
        have q2 : ((f n : Int) != (i : Int)) = false := nF (by omega)
        simp only [F7.l7.b, d, d2, d3, Bool.and_self, Bool.or_true, cT, cF, Int.toNat_natCast, hG, q, e27, e27i, bS, q2, Bool.and_false, w, cntN, hm, Bool.false_eq_true, if_false, Nat.add_zero]
      · have hm : mv n f i = true := by
          unfold mv
          have h1 : (f i == i) = true := by simpa using c
          have h2 : (i == f n) = false := by simp; omega
          rw [h1, h2]; rfl
        have q2 : ((f n : Int) != (i : Int)) = true := nT (by omega)
        simp only [F7.l7.b, d, d2, d3, Bool.and_self, Bool.or_true, cT, cF, Int.toNat_natCast, hG, q, e27, e27i, bS, q2, w, w2, cntN, hm, if_true]
        rfl
    · have q : ((f i : Int) == (i : Int)) = false := qF (by omega)
      have hm : mv n f i = false := by
        unfold mv
        have h1 : (f i == i) = false := by simpa using c
        rw [h1]; rfl
      simp only [F7.l7.b, d, d2, d3, Bool.and_self, Bool.or_true, cT, cF, Int.toNat_natCast, hG, q, e27i, bS, Bool.false_and, w, cntN, hm, Bool.false_eq_true, if_false, Nat.add_zero])
    (by
      have d : decide ((n : Int) < (n : Int)) = false := dF (by omega)
      simp only [F7.l7.b, d, cF])

theorem F6.l3_ok {n : Nat} (hn : n ≤ 24) {g0 g1 : List Int} {f0 f1 : Nat → Nat} (u0 : UF (n + 1) g0 f0) (u1 : UF (n + 1) g1 f1) (idle : List Int) :
    F6.l3 ((n : Int), 0, 2, 0, idle, [g0, g1]) = some (((cntN (mv n f0) n + cntN (mv n f1) n : Nat) : Int), idle) := by
  have c0 := cntN_le (mv n f0) n
  have c1 := cntN_le (mv n f1) n
  have l5 := F6.l5_ok hn (G := [g0, g1]) (ax := 0) rfl u0 0 (by omega) 2 0 idle
  have l5' := F6.l5_ok hn (G := [g0, g1]) (ax := 1) rfl u1 (0 + cntN (mv n f0) n) (by omega) 2 1 idle
  rw [Nat.zero_add] at l5 l5'
  have l2 : (([g0, g1] : List (List Int)).length : Int) = 2 := rfl
  have w0 : Go.IntKind.wrap .i64 ((0 : Int) + 1) = 1 := by decide
  have w1 : Go.IntKind.wrap .i64 ((1 : Int) + 1) = 2 := by decide
  have z0 : decide ((0 : Int) < 2) = true := rfl
  have z1 : decide ((1 : Int) < 2) = true := rfl
  have z2 : decide ((2 : Int) < 2) = false := rfl
  have z3 : decide ((0 : Int) ≤ 0) = true := rfl
  have z4 : decide ((0 : Int) ≤ 1) = true := rfl
  rw [show ((0 : Nat) : Int) = 0 from rfl] at l5
  rw [show ((1 : Nat) : Int) = 1 from rfl] at l5'
  unfold F6.l3
  refine (lim_in (x' := ((n : Int), ((cntN (mv n f0) n : Nat) : Int), 2, 1, idle, [g0, g1])) (by simp only [F6.l3.b, l2, z0, z3, Bool.and_self, cT, l5, bS, w0])).trans ?_
  refine (lim_in (x' := ((n : Int), ((cntN (mv n f0) n + cntN (mv n f1) n : Nat) : Int), 2, 2, idle, [g0, g1])) (by simp only [F6.l3.b, l2, z1, z4, Bool.and_self, cT, l5', bS, w1])).trans ?_
  exact lim_out (by simp only [F6.l3.b, z2, cF])

theorem F7.l5_ok {n : Nat} (hn : n ≤ 24) {g0 g1 : List Int} {f0 f1 : Nat → Nat} (u0 : UF (n + 1) g0 f0) (u1 : UF (n + 1) g1 f1) (idle : List Int) :
    F7.l5 ((n : Int), 0, 0, [g0, g1], idle) = some (((cntN (mv n f0) n + cntN (mv n f1) n : Nat) : Int), idle) := by
  have c0 := cntN_le (mv n f0) n
  have c1 := cntN_le (mv n f1) n
  have l5 := F7.l7_ok hn (G := [g0, g1]) (ax := 0) (by simp) (by simp) rfl u0 0 (by omega) idle
  have l5' := F7.l7_ok hn (G := [g0, g1]) (ax := 1) (by simp) (by simp) rfl u1 (0 + cntN (mv n f0) n) (by omega) idle
  rw [Nat.zero_add] at l5 l5'
  have w0 : Go.IntKind.wrap .i64 ((0 : Int) + 1) = 1 := by decide
  have w1 : Go.IntKind.wrap .i64 ((1 : Int) + 1) = 2 := by decide
  have z0 : decide ((0 : Int) < 2) = true := rfl
  have z1 : decide ((1 : Int) < 2) = true := rfl
  have z2 : decide ((2 : Int) < 2) = false := rfl
  rw [show ((0 : Nat) : Int) = 0 from rfl] at l5
  rw [show ((1 : Nat) : Int) = 1 from rfl] at l5'
  unfold F7.l5
  refine (lim_in (x' := ((n : Int), ((cntN (mv n f0) n : Nat) : Int), 1, [g0, g1], idle)) (by simp only [F7.l5.b, z0, cT, l5, bS, w0])).trans ?_
  refine (lim_in (x' := ((n : Int), ((cntN (mv n f0) n + cntN (mv n f1) n : Nat) : Int), 2, [g0, g1], idle)) (by simp only [F7.l5.b, z1, cT, l5', bS, w1])).trans ?_
  exact lim_out (by simp only [F7.l5.b, z2, cF])

theorem F7.l0_ok {n : Nat} (hn : n ≤ 24) (rs : List S31) : F7.l0 ((n : Int), 0, (n : Int), [[], []], rs) = some ((n : Int), (n : Int), [idxs (n + 1), idxs (n + 1)], rs) := by
  have hz : [idxs 0, idxs 0] = ([[], []] : List (List Int)) := by simp [idxs]
  rw [← hz]
  exact lim_run (f := F7.l0.b) (fun i => ((n : Int), (i : Int), (n : Int), [idxs i, idxs i], rs)) (n + 1) (y := ((n : Int), (n : Int), [idxs (n + 1), idxs (n + 1)], rs)) (fun i hi => by
    have hl := idxs_len i
    have d : decide ((i : Int) ≤ (n : Int)) = true := dT (by omega)
    have d5 : decide (((idxs i).length + ((i : Int) :: ([] : List Int)).length) ≤ 274877906944) = true := dT (by simp only [List.length_cons, List.length_nil]; omega)
    have w : Go.IntKind.wrap .i64 ((i : Int) + 1) = ((i + 1 : Nat) : Int) := by rw [w64 (by omega) (by omega)]; rfl
    have i0 : ∀ p q : List Int, List.getD [p, q] (Int.toNat 0) ([] : List Int) = p := fun _ _ => rfl
    have i1 : ∀ p q : List Int, List.getD [p, q] (Int.toNat 1) ([] : List Int) = q := fun _ _ => rfl
    have s0 : ∀ p q r : List Int, List.set [p, q] (Int.toNat 0) r = [r, q] := fun _ _ _ => rfl
    have s1 : ∀ p q r : List Int, List.set [p, q] (Int.toNat 1) r = [p, r] := fun _ _ _ => rfl
    have l2 : ∀ p q : List Int, (([p, q] : List (List Int)).length : Int) = 2 := fun _ _ => rfl
    have z0 : decide ((0 : Int) ≤ 0) = true := rfl
    have z1 : decide ((0 : Int) ≤ 1) = true := rfl
    have z2 : decide ((0 : Int) < 2) = true := rfl
    have z3 : decide ((1 : Int) < 2) = true := rfl
    have n0 : decide ((0 : Nat) ≤ 0) = true := rfl
    have n1 : decide ((0 : Nat) ≤ 1) = true := rfl
    simp only [F7.l0.b, d, cT, l2, z0, z1, z2, z3, n0, n1, Bool.and_self, i0, i1, s0, s1, d5, w]
    rw [idxs_succ])
    (by
      have d : decide (((n + 1 : Nat) : Int) ≤ (n : Int)) = false := dF (by omega)
      simp only [F7.l0.b, d, cF])

/-- The program and its reference answer the same. -/
theorem free_ok (n : Int) (rs : List S31) : ∃ a l c, l.length ≤ 60 ∧ F6.F (n, rs) = some (a, l, c) ∧ F7.F (n, rs) = some (a, l, c) := by
  have f19 := F19.ok n rs
  have f18 := F18.ok n rs
  cases hs : okS n rs with
  | false =>
    rw [hs] at f19 f18
    exact ⟨0, [], 1, by simp, by simp only [F6.F, f19, bS, Bool.not_false, cT], by simp only [F7.F, f18, bS, Bool.not_false, cT]⟩
  | true =>
    obtain ⟨hr, h1, h24, hx⟩ := okS_all hs
    obtain ⟨m, rfl⟩ : ∃ m : Nat, n = (m : Int) := ⟨n.toNat, by omega⟩
    have hn : m ≤ 24 := by omega
    rw [hs] at f19 f18
    obtain ⟨ps, core, f20⟩ := F20.ok hs
    have f25 := F25.ok (m : Int) rs hr
    obtain ⟨ps', f24⟩ := F24.ok hn hr hx
    cases hk : okA m rs with
    | false =>
      rw [hk] at f20 f24
      have q : ((15 : Int) != 0) = true := rfl
      exact ⟨0, [], 15, by simp, by simp only [F6.F, f19, f20, bS, Bool.not_true, cF, Bool.false_eq_true, if_false, q, cT], by simp only [F7.F, f18, f25, f24, bS, Bool.not_true, Bool.not_false, cF, cT]⟩
    | true =>
      rw [hk] at f20 f24
      have q : ((0 : Int) != 0) = false := rfl
      have w0 : Go.IntKind.wrap .i64 ((m : Int) + 1) = ((m + 1 : Nat) : Int) := by rw [w64 (by omega) (by omega)]; rfl
      have f21 := F21.ok (m + 1) (by omega)
      obtain ⟨g0, g1, h0, h1, f0, f1, e0, e1, idle, u0, u1, hil, t1, t2⟩ := ties_ok hn hr hx rs.length 0 (idxs (m + 1)) (idxs (m + 1)) (idxs (m + 1)) (idxs (m + 1)) id id id id [] (by omega) (uu_zero _) (uu_zero _) (by simp)
      rw [show ((0 : Nat) : Int) = 0 from rfl] at t1 t2
      have l3 := F6.l3_ok hn u0.u u1.u idle
      have l5 := F7.l5_ok hn u0.v u1.v idle
      have c0 := cnt_mv u0.u
      have c1 := cnt_mv u1.u
      have d0 := cnt_mv u0.v
      have d1 := cnt_mv u1.v
      have hc0 := u0.c
      have hc1 := u1.c
      rw [show cntN (mv m e0) m + cntN (mv m e1) m = cntN (mv m f0) m + cntN (mv m f1) m by omega] at l5
      have l2 : (([g0, g1] : List (List Int)).length : Int) = 2 := rfl
      have l0 := F7.l0_ok hn rs
      exact ⟨_, idle, 0, by omega, by simp only [F6.F, f19, f20, bS, Bool.not_true, cF, if_true, q, w0, f21, t1, l2, l3]; rfl, by simp only [F7.F, f18, f25, f24, bS, Bool.not_true, cF, l0, t2, l5]⟩

end Go.Proofs.Ytciafkboilgblaa.AX

/- It comes to something: rules, one for each word of a print. No conditions. -/
namespace Go.Proofs.Ytciafkboilgblaa.AX
open Go

/-- It comes to something of which P holds. -/
def Df {α : Type} (o : Option α) (P : α → Prop) : Prop := ∃ y, o = some y ∧ P y

section
variable {α β X Y : Type} {P : α → Prop} {Q : β → Prop}
theorem Df.ret {y : α} (h : P y) : Df (some y) P := ⟨y, rfl, h⟩
theorem Df.bind {o : Option α} {f : α → Option β} (h : Df o P) (k : ∀ y, P y → Df (f y) Q) : Df (o.bind f) Q := by
  obtain ⟨y, rfl, hy⟩ := h
  obtain ⟨z, e, hz⟩ := k y hy
  exact ⟨z, by rw [bS]; exact e, hz⟩
theorem Df.both {b : Bool} {x y : Option α} (h1 : b = true → Df x P) (h2 : b = false → Df y P) : Df (cond b x y) P := by
  cases b
  · rw [cF]; exact h2 rfl
  · rw [cT]; exact h1 rfl
theorem Df.need {b : Bool} {x : Option α} (hb : b = true) (h : Df x P) : Df (cond b x none) P := by rw [hb, cT]; exact h
theorem Df.mono {o : Option α} {P' : α → Prop} (h : Df o P) (hi : ∀ y, P y → P' y) : Df o P' := let ⟨y, e, hy⟩ := h; ⟨y, e, hi y hy⟩
theorem Df.eq {o : Option α} {y : α} (h : o = some y) : Df o (fun z => z = y) := ⟨y, h, rfl⟩
theorem Df.of {o : Option α} {y : α} (h : o = some y) (hy : P y) : Df o P := ⟨y, h, hy⟩

/-- A loop that comes to an end: what holds ahead of each round, and what falls. -/
theorem Df.loop {f : X → Option (X ⊕ Y)} {R : Y → Prop} (I : Nat → X → Prop) (hs : ∀ m x, I m x → Df (f x) (fun r => match r with | .inl x' => ∃ m', m' < m ∧ I m' x' | .inr y => R y)) : ∀ (m : Nat) (x : X), I m x → Df (lim f x) R := by
  intro m
  induction m using Nat.strongRecOn with
  | _ m ih =>
    intro x hx
    obtain ⟨r, e, hr⟩ := hs m x hx
    cases r with
    | inl x' =>
      obtain ⟨m', hm, hx'⟩ := hr
      obtain ⟨y, e', hy⟩ := ih m' hm x' hx'
      exact ⟨y, by rw [lim_in e]; exact e', hy⟩
    | inr y => exact ⟨y, lim_out e, hr⟩
theorem Df.bindE {o : Option α} {y : α} {f : α → Option β} (h : o = some y) (k : Df (f y) Q) : Df (o.bind f) Q := by subst h; rw [bS]; exact k
theorem Df.unroll {f : X → Option (X ⊕ Y)} {x : X} {R : Y → Prop} (h : Df (f x) (fun r => match r with | .inl x' => Df (lim f x') R | .inr y => R y)) : Df (lim f x) R := by
  obtain ⟨r, e, hr⟩ := h
  cases r with
  | inl x' =>
    obtain ⟨y, e', hy⟩ := hr
    exact ⟨y, by rw [lim_in e]; exact e', hy⟩
  | inr y => exact ⟨y, lim_out e, hr⟩
end

/-- Tests and what they say. -/
theorem de {p : Prop} [Decidable p] (h : decide p = true) : p := of_decide_eq_true h
theorem dn {p : Prop} [Decidable p] (h : decide p = false) : ¬ p := of_decide_eq_false h
theorem an {a b : Bool} (h : (a && b) = true) : a = true ∧ b = true := by simpa using h
theorem mka {a b : Bool} (h : a = true) (h' : b = true) : (a && b) = true := by rw [h, h']; rfl

end Go.Proofs.Ytciafkboilgblaa.AX

/- Drawn sketches: the draws never fail. No conditions. -/
namespace Go.Proofs.Ytciafkboilgblaa.AX
open Go

/-- A row of octets. -/
def Oct (l : List Int) : Prop := ∀ x ∈ l, 0 ≤ x ∧ x ≤ 255
theorem oct_at {l : List Int} {i : Nat} (h : Oct l) (hi : i < l.length) : 0 ≤ l.getD i 0 ∧ l.getD i 0 ≤ 255 := by
  rw [getD_lt hi]; exact h _ (List.getElem_mem hi)

theorem md {x : Int} {p : Int} (hp : 1 ≤ p) (hx : 0 ≤ x) : 0 ≤ Int.tmod x p ∧ Int.tmod x p < p := ⟨Int.tmod_nonneg p hx, Int.tmod_lt_of_pos x (by omega)⟩

def Dr (k : Nat) (a b : Int) : Prop := 0 ≤ a ∧ a ≤ k ∧ 0 ≤ b ∧ b < 2147483648

theorem F42.ok {l : List Int} (hl : l.length ≤ 1048576) (ho : Oct l) {k : Nat} (hk : k ≤ 1000000) {a b : Int} (h : Dr k a b) : ∃ x a' b', F42.F (l, a, b) = some (x, a', b') ∧ Dr (k + 1) a' b' ∧ 0 ≤ x ∧ x ≤ 255 := by
  obtain ⟨h1, h2, h3, h4⟩ := h
  have w1 : IntKind.wrap .i64 (a + 1) = a + 1 := w64 (by omega) (by omega)
  have w2 : IntKind.wrap .i64 (a + 1 - 1) = a := by rw [w64 (by omega) (by omega)]; omega
  by_cases c1 : a + 1 ≤ (l.length : Int)
  · have e1 : decide (a + 1 ≤ (l.length : Int)) = true := dT c1
    have e2 : decide (0 ≤ a) = true := dT h1
    have e3 : decide (a < (l.length : Int)) = true := dT (by omega)
    obtain ⟨o1, o2⟩ := oct_at (i := a.toNat) ho (by omega)
    refine ⟨_, _, _, by simp only [F42.F, w1, w2, e1, e2, e3, Bool.and_self, cT] <;> rfl, ⟨by omega, by omega, ?_, ?_⟩, ?_⟩
    · rw [w64 (x := l.getD a.toNat 0) (by omega) (by omega), w64 (x := b * 31) (by omega) (by omega), w64 (x := b * 31 + l.getD a.toNat 0) (by omega) (by omega), w64 (by omega) (by omega)]
      exact (md (by omega) (by omega)).1
    · rw [w64 (x := l.getD a.toNat 0) (by omega) (by omega), w64 (x := b * 31) (by omega) (by omega), w64 (x := b * 31 + l.getD a.toNat 0) (by omega) (by omega), w64 (by omega) (by omega)]
      exact (md (by omega) (by omega)).2
    · rw [w64 (by omega) (by omega)]; exact ⟨o1, o2⟩
  · have e1 : decide (a + 1 ≤ (l.length : Int)) = false := dF c1
    by_cases c2 : a + 1 > 3000
    · have e2 : decide (a + 1 > 3000) = true := dT c2
      exact ⟨_, _, _, by simp only [F42.F, w1, e1, e2, cT, cF] <;> rfl, ⟨by omega, by omega, h3, h4⟩, by omega, by omega⟩
    · have e2 : decide (a + 1 > 3000) = false := dF c2
      have w3 : IntKind.wrap .i64 (b * 1103515245) = b * 1103515245 := w64 (by omega) (by omega)
      have w4 : IntKind.wrap .i64 (b * 1103515245 + 12345) = b * 1103515245 + 12345 := w64 (by omega) (by omega)
      have m1 := md (x := b * 1103515245 + 12345) (p := 2147483648) (by omega) (by omega)
      refine ⟨_, _, _, by simp only [F42.F, w1, e1, e2, w3, w4, cF] <;> rfl, ⟨by omega, by omega, m1.1, m1.2⟩, ?_⟩
      generalize Int.tmod (b * 1103515245 + 12345) 2147483648 = x at m1 ⊢
      have t1 : 0 ≤ Int.tdiv x 65536 ∧ Int.tdiv x 65536 ≤ x := by
        rw [Int.tdiv_eq_ediv_of_nonneg m1.1]; omega
      rw [w64 (by omega) (by omega)]
      have := md (x := Int.tdiv x 65536) (p := 256) (by omega) t1.1
      omega

theorem F33.ok {l : List Int} (hl : l.length ≤ 1048576) (ho : Oct l) {k : Nat} (hk : k ≤ 100000) {a b p : Int} (h : Dr k a b) : ∃ x a' b', F33.F ((l, a, b), p) = some (x, (a', b'), ()) ∧ Dr (k + 3) a' b' ∧ 0 ≤ x ∧ (x < p ∨ x = 0) := by
  by_cases c1 : p ≤ 1
  · exact ⟨_, _, _, by simp only [F33.F, dT c1, cT] <;> rfl, ⟨h.1, by have := h.2.1; omega, h.2.2⟩, by omega, .inr rfl⟩
  · have e0 : (!(decide (p = 0))) = true := by rw [dF (by omega)]; rfl
    obtain ⟨x1, a1, b1, f1, s1, g1, g2⟩ := F42.ok hl ho (by omega) h
    by_cases c2 : p ≤ 256
    · have m := md (x := x1) (p := p) (by omega) g1
      exact ⟨_, _, _, by simp only [F33.F, dF c1, dT c2, cT, cF, f1, bS, e0] <;> rfl, ⟨s1.1, by have := s1.2.1; omega, s1.2.2⟩, m.1, .inl m.2⟩
    · obtain ⟨x2, a2, b2, f2, s2, g3, g4⟩ := F42.ok hl ho (by omega) s1
      obtain ⟨x3, a3, b3, f3, s3, g5, g6⟩ := F42.ok hl ho (by omega) s2
      have w1 : IntKind.wrap .i64 (x1 * 65536) = x1 * 65536 := w64 (by omega) (by omega)
      have w2 : IntKind.wrap .i64 (x2 * 256) = x2 * 256 := w64 (by omega) (by omega)
      have w3 : IntKind.wrap .i64 (x1 * 65536 + x2 * 256) = x1 * 65536 + x2 * 256 := w64 (by omega) (by omega)
      have w4 : IntKind.wrap .i64 (x1 * 65536 + x2 * 256 + x3) = x1 * 65536 + x2 * 256 + x3 := w64 (by omega) (by omega)
      have m := md (x := x1 * 65536 + x2 * 256 + x3) (p := p) (by omega) (by omega)
      exact ⟨_, _, _, by simp only [F33.F, dF c1, dF c2, cT, cF, f1, f2, f3, bS, e0, w1, w2, w3, w4] <;> rfl, s3, m.1, .inl m.2⟩

theorem F41.ok {l : List Int} (hl : l.length ≤ 1048576) (ho : Oct l) {k : Nat} (hk : k ≤ 100000) {a b p : Int} (h : Dr k a b) : ∃ x a' b', F41.F ((l, a, b), p) = some (x, (a', b'), ()) ∧ Dr (k + 3) a' b' := by
  obtain ⟨x, a', b', f, s, _⟩ := F33.ok hl ho hk (p := p) h
  exact ⟨_, _, _, by simp only [F41.F, f, bS] <;> rfl, s⟩

theorem F34.ok {l : List Int} (hl : l.length ≤ 1048576) (ho : Oct l) {k : Nat} (hk : k ≤ 100000) {a b : Int} (h : Dr k a b) : ∃ x a' b', F34.F (l, a, b) = some (x, a', b') ∧ Dr (k + 3) a' b' := by
  obtain ⟨x, a', b', f, s, h1, h2⟩ := F33.ok hl ho hk (p := 12) h
  have e1 : decide (0 ≤ x) = true := dT h1
  have e2 : decide (x < ((12 : Nat) : Int)) = true := dT (by omega)
  exact ⟨_, _, _, by simp only [F34.F, f, bS, List.length_cons, List.length_nil]; simp only [Nat.zero_add, Nat.reduceAdd, e1, e2, Bool.and_self, cT] <;> rfl, s⟩

theorem F40.ok {l : List Int} (hl : l.length ≤ 1048576) {a b : Int} : ∃ x, F40.F ((l, a, b), 8) = some (x, (a, b), ()) ∧ 0 ≤ x ∧ x ≤ 8 := by
  have t : 0 ≤ Int.tdiv (l.length : Int) 12 ∧ Int.tdiv (l.length : Int) 12 ≤ l.length := by rw [Int.tdiv_eq_ediv_of_nonneg (by omega)]; omega
  refine ⟨_, by simp only [F40.F] <;> rfl, ?_⟩
  rw [w64 (x := Int.tdiv (l.length : Int) 12) (by omega) (by omega), w64 (by omega) (by omega)]
  split <;> omega

theorem Dr.more {k m : Nat} {a b : Int} (h : Dr k a b) (hk : k ≤ m) : Dr m a b := ⟨h.1, by have := h.2.1; omega, h.2.2⟩

section
variable {l : List Int} (hl : l.length ≤ 1048576) (ho : Oct l)
include hl ho
theorem F33.df {k : Nat} {a b p : Int} (h : Dr k a b) (hk : k ≤ 100000) : Df (F33.F ((l, (a, b)), p)) (fun y => Dr (k + 3) y.2.1.1 y.2.1.2 ∧ 0 ≤ y.1 ∧ (y.1 < p ∨ y.1 = 0)) := by
  obtain ⟨x, a', b', f, s, g⟩ := F33.ok hl ho hk (p := p) h
  exact .of f ⟨s, g⟩
theorem F41.df {k : Nat} {a b p : Int} (h : Dr k a b) (hk : k ≤ 100000) : Df (F41.F ((l, (a, b)), p)) (fun y => Dr (k + 3) y.2.1.1 y.2.1.2) := by
  obtain ⟨x, a', b', f, s⟩ := F41.ok hl ho hk (p := p) h
  exact .of f s
theorem F34.df {k : Nat} {a b : Int} (h : Dr k a b) (hk : k ≤ 100000) : Df (F34.F (l, a, b)) (fun y => Dr (k + 3) y.2.1 y.2.2) := by
  obtain ⟨x, a', b', f, s⟩ := F34.ok hl ho hk h
  exact .of f s
theorem F40.df {k : Nat} {a b : Int} (h : Dr k a b) : Df (F40.F ((l, (a, b)), 8)) (fun y => Dr k y.2.1.1 y.2.1.2 ∧ 0 ≤ y.1 ∧ y.1 ≤ 8) := by
  obtain ⟨x, f, g⟩ := F40.ok (l := l) hl (a := a) (b := b)
  exact .of f ⟨h, g⟩

omit hl ho in
theorem len1 {α : Type} {r : List α} {x : α} (h : r.length ≤ 1000000) : decide (r.length + (x :: []).length ≤ 274877906944) = true := dT (by simp; omega)

theorem F32.l0_df {c d v3 : Int} (h3 : v3 ≤ 1000) : ∀ (m k : Nat) (v6 a b : Int) (r : List S73), v6 + m = v3 → k + 6 * m ≤ 90000 → Dr k a b → 0 ≤ v6 → (r.length : Int) = v6 →
    Df (F32.l0 (v3, v6, a, b, c, d, r, l)) (fun y => ∃ a' b' r', y = (v3, a', b', c, d, r', l) ∧ Dr (k + 6 * m) a' b' ∧ (r'.length : Int) = v3)
  | 0, k, v6, a, b, r, hm, hk, h, h6, hr => by
    unfold F32.l0
    refine .unroll ?_
    have e : decide (v6 < v3) = false := dF (by omega)
    simp only [F32.l0.b, e, cF]
    exact .ret ⟨a, b, r, rfl, h, by omega⟩
  | m + 1, k, v6, a, b, r, hm, hk, h, h6, hr => by
    obtain ⟨x, a1, b1, f1, s1, g1⟩ := F33.ok hl ho (k := k) (by omega) (p := 50) h
    obtain ⟨y, a2, b2, f2, s2, g2⟩ := F33.ok hl ho (k := k + 3) (by omega) (p := 50) s1
    have ih := F32.l0_df (c := c) (d := d) h3 m (k + 6) (v6 + 1) a2 b2 (r ++ [⟨x, y⟩]) (by omega) (by omega) s2 (by omega) (by simp; omega)
    unfold F32.l0 at ih ⊢
    refine .unroll ?_
    have e : decide (v6 < v3) = true := dT (by omega)
    have w : Go.IntKind.wrap .i64 (v6 + 1) = v6 + 1 := w64 (by omega) (by omega)
    have d1 : decide (r.length + ((⟨x, y⟩ : S73) :: []).length ≤ 274877906944) = true := len1 (by omega)
    simp only [F32.l0.b, e, cT, f1, bS, f2, w, d1]
    exact .ret (ih.mono fun z ⟨a', b', r', e1, e2, e3⟩ => ⟨a', b', r', e1, e2.more (by omega), e3⟩)

end
end Go.Proofs.Ytciafkboilgblaa.AX

/- Drawn sketches never fail. No conditions. -/
namespace Go.Proofs.Ytciafkboilgblaa.AX
open Go

def SkP (k : Nat) (v3 v7 c d : Int) (p : List S73) (l : List Int) (n : Nat) (y : Int × Int × Int × Int × Int × Int × List S73 × List Int × List S31) : Prop :=
  ∃ a b r, y = (v3, v7, a, b, c, d, p, l, r) ∧ Dr k a b ∧ r.length ≤ n
theorem SkP.more {k k' : Nat} {v3 v7 c d : Int} {p : List S73} {l : List Int} {n n' : Nat} {y : Int × Int × Int × Int × Int × Int × List S73 × List Int × List S31} (h : SkP k v3 v7 c d p l n y) (hk : k ≤ k') (hn : n ≤ n') : SkP k' v3 v7 c d p l n' y := by
  obtain ⟨a, b, r, e, h1, h2⟩ := h
  exact ⟨a, b, r, e, h1.more hk, by omega⟩

section
variable {l : List Int} (hl : l.length ≤ 1048576) (ho : Oct l)
include hl ho

omit hl ho in
theorem F32.t25_df {k : Nat} {v3 v7 a b c d x0 x1 x2 x3 : Int} {p : List S73} {r : List S31} (h : Dr k a b) (hr : r.length ≤ 1000) : Df (F32.t25 (v3, v7, a, b, c, d, x0, x1, x2, x3, p, l, r)) (SkP k v3 v7 c d p l (r.length + 1)) := by
  have d1 : decide (r.length + ((⟨x0, x1, x2, x3⟩ : S31) :: []).length ≤ 274877906944) = true := len1 (by omega)
  simp only [F32.t25, d1, cT]
  exact .ret ⟨a, b, _, rfl, h, by simp⟩

theorem F32.t23_df {k : Nat} (hk : k ≤ 90000) {v3 v7 a b c d x0 x1 x2 x3 : Int} {q : Bool} {p : List S73} {r : List S31} (h : Dr k a b) (hr : r.length ≤ 1000) : Df (F32.t23 (v3, v7, q, a, b, c, d, x0, x1, x2, x3, p, l, r)) (SkP (k + 6) v3 v7 c d p l (r.length + 1)) := by
  obtain ⟨y, a1, b1, f1, s1⟩ := F41.ok hl ho (k := k) (by omega) (p := 25) h
  simp only [F32.t23, f1, bS]
  refine .both (fun _ => ?_) (fun _ => ?_)
  · obtain ⟨z, a2, b2, f2, s2, g2⟩ := F33.ok hl ho (k := k + 3) (by omega) (p := 7) s1
    simp only [f2, bS]
    refine .bind (F32.t25_df s2 hr) fun y hy => ?_
    obtain ⟨a3, b3, r3, rfl, h3, hr3⟩ := hy
    exact .ret ⟨a3, b3, r3, rfl, h3, hr3⟩
  · refine .bind (F32.t25_df s1 hr) fun y hy => ?_
    obtain ⟨a3, b3, r3, rfl, h3, hr3⟩ := hy
    exact .ret ⟨a3, b3, r3, rfl, h3.more (by omega), hr3⟩

def SkS (k : Nat) (v3 v7 c d : Int) (p : List S73) (l : List Int) (n : Nat) (y : (Int × Int × Int × Int × Int × Int × List S73 × List Int × List S31) ⊕ (Int × Int × Int × Int × Int × Int × List S73 × List Int × List S31)) : Prop :=
  match y with
  | .inl z => SkP k v3 v7 c d p l n z
  | .inr z => SkP k v3 v7 c d p l n z

theorem F32.t21_df {k : Nat} (hk : k ≤ 80000) {v3 v7 v8 v9 a b c d x0 x1 x2 x3 : Int} {q : Bool} {p : List S73} {r : List S31} (h : Dr k a b) (hr : r.length ≤ 1000) (h8 : 0 ≤ v8 ∧ v8 < (p.length : Int)) (h9 : 0 ≤ v9 ∧ v9 < (p.length : Int)) :
    Df (F32.t21 (v3, v7, v8, v9, q, a, b, c, d, x0, x1, x2, x3, p, l, r)) (SkS (k + 9) v3 v7 c d p l (r.length + 1)) := by
  have e8 : decide (0 ≤ v8) = true := dT h8.1
  have e8' : decide (v8 < (p.length : Int)) = true := dT h8.2
  have e9 : decide (0 ≤ v9) = true := dT h9.1
  have e9' : decide (v9 < (p.length : Int)) = true := dT h9.2
  simp only [F32.t21, e8, e8', e9, e9', Bool.and_self, Bool.or_true, cT]
  refine .both (fun _ => ?_) (fun _ => ?_)
  · obtain ⟨y, a1, b1, f1, s1⟩ := F41.ok hl ho (k := k) (by omega) (p := 3) h
    simp only [f1, bS]
    refine .both (fun _ => .both (fun _ => .ret ⟨_, _, _, rfl, s1.more (by omega), by omega⟩) (fun _ => ?_)) (fun _ => ?_)
    all_goals
      refine .bind (F32.t23_df hl ho (by omega) s1 hr) fun y hy => ?_
      obtain ⟨a3, b3, r3, rfl, h3, hr3⟩ := hy
      exact .ret ⟨a3, b3, r3, rfl, h3.more (by omega), hr3⟩
  · refine .both (fun _ => .both (fun _ => .ret ⟨_, _, _, rfl, h.more (by omega), by omega⟩) (fun _ => ?_)) (fun _ => ?_)
    all_goals
      refine .bind (F32.t23_df hl ho (by omega) h hr) fun y hy => ?_
      obtain ⟨a3, b3, r3, rfl, h3, hr3⟩ := hy
      exact .ret ⟨a3, b3, r3, rfl, h3.more (by omega), hr3⟩

theorem F32.t17_df {k : Nat} (hk : k ≤ 70000) {v3 v7 v8 v9 a b c d x0 x1 x2 x3 : Int} {q : Bool} {p : List S73} {r : List S31} (h : Dr k a b) (hr : r.length ≤ 1000) (h8 : 0 ≤ v8 ∧ v8 < (p.length : Int)) (h9 : 0 ≤ v9 ∧ v9 < (p.length : Int)) (h0 : 0 ≤ x0) (hq : q = true → x0 ≤ 6) :
    Df (F32.t17 (v3, v7, v8, v9, q, a, b, c, d, x0, x1, x2, x3, p, l, r)) (SkS (k + 15) v3 v7 c d p l (r.length + 1)) := by
  have e8 : decide (0 ≤ v8) = true := dT h8.1
  have e8' : decide (v8 < (p.length : Int)) = true := dT h8.2
  have e9 : decide (0 ≤ v9) = true := dT h9.1
  have e9' : decide (v9 < (p.length : Int)) = true := dT h9.2
  simp only [F32.t17, e8, e8', e9, e9', Bool.and_self, cT]
  refine .both (fun t => ?_) (fun _ => ?_)
  · have hq := hq t
    obtain ⟨y, a1, b1, f1, s1, g1⟩ := F33.ok hl ho (k := k) (by omega) (p := 3) h
    obtain ⟨z, a2, b2, f2, s2, g2⟩ := F33.ok hl ho (k := k + 3) (by omega) (p := 3) s1
    simp only [f1, bS, f2]
    refine .need (mka (dT h0) (dT (by simp only [List.length_cons, List.length_nil]; omega))) ?_
    refine .bind (F32.t21_df hl ho (by omega) s2 hr h8 h9) fun y hy => ?_
    rcases y with y | y
    all_goals
      obtain ⟨a3, b3, r3, rfl, h3, hr3⟩ := hy
      exact .ret ⟨a3, b3, r3, rfl, h3.more (by omega), hr3⟩
  · refine .bind (F32.t21_df hl ho (by omega) h hr h8 h9) fun y hy => ?_
    rcases y with y | y
    all_goals
      obtain ⟨a3, b3, r3, rfl, h3, hr3⟩ := hy
      exact .ret ⟨a3, b3, r3, rfl, h3.more (by omega), hr3⟩

theorem F32.l2_df {v3 c d : Int} {p : List S73} (hp : (p.length : Int) = v3) (h3 : 1 ≤ v3) : ∀ (m k : Nat) (v7 a b : Int) (r : List S31), v7.toNat = m → k + 24 * m ≤ 60000 → r.length + m ≤ 900 → Dr k a b →
    Df (F32.l2 (v3, v7, a, b, c, d, p, l, r)) (fun y => ∃ a' b' r', y = (a', b', c, d, l, r') ∧ Dr (k + 24 * m) a' b' ∧ r'.length ≤ r.length + m)
  | 0, k, v7, a, b, r, hm, hk, hr, h => by
    unfold F32.l2
    refine .unroll ?_
    have e : decide (v7 > 0) = false := dF (by omega)
    simp only [F32.l2.b, e, cF]
    exact .ret ⟨a, b, r, rfl, h, by omega⟩
  | m + 1, k, v7, a, b, r, hm, hk, hr, h => by
    obtain ⟨x, a1, b1, f1, s1, g1⟩ := F33.ok hl ho (k := k) (by omega) (p := v3) h
    obtain ⟨y, a2, b2, f2, s2, g2⟩ := F33.ok hl ho (k := k + 3) (by omega) (p := v3) s1
    obtain ⟨z, a3, b3, f3, s3, g3⟩ := F33.ok hl ho (k := k + 6) (by omega) (p := 9) s2
    have w1 : Go.IntKind.wrap .i64 (1 + z) = 1 + z := w64 (by omega) (by omega)
    have e35 : F35.F (1 + z) = some ((decide (1 + z ≥ 3)), (decide (1 + z ≤ 6))) := rfl
    have hx : 0 ≤ x ∧ x < (p.length : Int) := by omega
    have hy : 0 ≤ y ∧ y < (p.length : Int) := by omega
    have key : ∀ (u : Int), Df (F32.t17 (v3, v7, x, y, decide (1 + z ≤ 6), a3, b3, c, d, 1 + z, x, u, 0, p, l, r)) (SkS (k + 9 + 15) v3 v7 c d p l (r.length + 1)) := fun u =>
      F32.t17_df hl ho (by omega) s3 (by omega) hx hy (by omega) (fun t => de t)
    have nxt : ∀ (a' b' : Int) (r' : List S31), Dr (k + 9 + 15) a' b' → r'.length ≤ r.length + 1 → Df (F32.l2 (v3, Go.IntKind.wrap .i64 (v7 - 1), a', b', c, d, p, l, r')) (fun y => ∃ a'' b'' r'', y = (a'', b'', c, d, l, r'') ∧ Dr (k + 24 * (m + 1)) a'' b'' ∧ r''.length ≤ r.length + (m + 1)) := fun a' b' r' hd hrr => by
      have w : Go.IntKind.wrap .i64 (v7 - 1) = v7 - 1 := w64 (by omega) (by omega)
      rw [w]
      exact (F32.l2_df hp h3 m (k + 24) (v7 - 1) a' b' r' (by omega) (by omega) (by omega) hd).mono fun z ⟨a'', b'', r'', e1, e2, e3⟩ => ⟨a'', b'', r'', e1, e2.more (by omega), by omega⟩
    unfold F32.l2 at nxt ⊢
    refine .unroll ?_
    have e : decide (v7 > 0) = true := dT (by omega)
    simp only [F32.l2.b, e, cT, f1, f2, f3, bS, w1, e35]
    refine .both (fun _ => ?_) (fun _ => ?_)
    all_goals
      refine .bind (key _) fun y hy => ?_
      rcases y with y | y
      all_goals
        obtain ⟨a4, b4, r4, rfl, h4, hr4⟩ := hy
        exact .ret (nxt a4 b4 r4 h4 hr4)

theorem F32.df {k : Nat} (hk : k ≤ 10000) {a b : Int} (h : Dr k a b) : Df (F32.F (l, (a, b))) (fun y => ∃ n rs a' b', y = ((n, rs), (a', b')) ∧ Dr (k + 1000) a' b' ∧ rs.length ≤ 100 ∧ 1 ≤ n ∧ n ≤ 20) := by
  obtain ⟨x, f1, g1⟩ := F40.ok (l := l) hl (a := a) (b := b)
  have w1 : Go.IntKind.wrap .i64 (x + 2) = x + 2 := w64 (by omega) (by omega)
  obtain ⟨y, a2, b2, f2, s2, g2⟩ := F33.ok hl ho (k := k) (by omega) (p := x + 2) h
  have w2 : Go.IntKind.wrap .i64 (1 + y) = 1 + y := w64 (by omega) (by omega)
  simp only [F32.F, f1, bS, w1, f2, w2]
  refine .bind (F32.l0_df hl ho (by omega) (1 + y).toNat (k + 3) 0 a2 b2 [] (by omega) (by omega) s2 (by omega) (by simp)) fun z hz => ?_
  obtain ⟨a3, b3, r3, rfl, s3, hr3⟩ := hz
  have w3 : Go.IntKind.wrap .i64 (2 * (1 + y)) = 2 * (1 + y) := w64 (by omega) (by omega)
  have w4 : Go.IntKind.wrap .i64 (2 * (1 + y) + 3) = 2 * (1 + y) + 3 := w64 (by omega) (by omega)
  obtain ⟨u, a4, b4, f4, s4, g4⟩ := F33.ok hl ho (k := k + 3 + 6 * (1 + y).toNat) (by omega) (p := 2 * (1 + y) + 3) s3
  simp only [w3, w4, f4, bS]
  refine .bind (F32.l2_df hl ho hr3 (by omega) u.toNat _ u a4 b4 [] rfl (by omega) (by simp; omega) s4) fun z hz => ?_
  obtain ⟨a5, b5, r5, rfl, s5, hr5⟩ := hz
  rw [List.length_nil] at hr5
  exact .ret ⟨1 + y, r5, a5, b5, rfl, s5.more (by omega), by omega, by omega, by omega⟩

theorem F17.l1_df {c d : Int} : ∀ (m k : Nat) (a b : Int) (r : List S31), 61 - r.length ≤ m → k + 3 * m ≤ 60000 → r.length ≤ 200 → Dr k a b →
    Df (F17.l1 (a, b, c, d, l, r)) (fun y => ∃ a' b' r', y = (a', b', c, d, l, r') ∧ Dr (k + 3 * m + 3) a' b' ∧ r'.length ≤ 300)
  | m, k, a, b, r, hm, hk, hr, h => by
    obtain ⟨x, a1, b1, f1, s1, g1⟩ := F33.ok hl ho (k := k) (by omega) (p := 4) h
    have w1 : Go.IntKind.wrap .i64 (58 + x) = 58 + x := w64 (by omega) (by omega)
    by_cases c1 : (r.length : Int) < 58 + x
    · cases m with
      | zero => omega
      | succ m =>
        have ih := F17.l1_df (c := c) (d := d) m (k + 3) a1 b1 (r ++ [⟨5, 0, 0, Go.IntKind.wrap .i64 (0 - (r.length : Int))⟩]) (by simp; omega) (by omega) (by simp; omega) s1
        unfold F17.l1 at ih ⊢
        refine .unroll ?_
        have d1 : decide (r.length + ((⟨5, 0, 0, Go.IntKind.wrap .i64 (0 - (r.length : Int))⟩ : S31) :: []).length ≤ 274877906944) = true := len1 (by omega)
        simp only [F17.l1.b, f1, bS, w1, dT c1, cT, d1]
        exact .ret (ih.mono fun z ⟨a', b', r', e1, e2, e3⟩ => ⟨a', b', r', e1, e2.more (by omega), e3⟩)
    · unfold F17.l1
      refine .unroll ?_
      simp only [F17.l1.b, f1, bS, w1, dF c1, cF]
      exact .ret ⟨a1, b1, r, rfl, s1.more (by omega), by omega⟩

theorem F17.df {k : Nat} (hk : k ≤ 8000) {a b : Int} (h : Dr k a b) : Df (F17.F (l, (a, b))) (fun y => ∃ n rs a' b', y = ((n, rs), (a', b')) ∧ Dr (k + 2000) a' b') := by
  simp only [F17.F]
  refine .bind (F32.df hl ho (by omega) h) fun y hy => ?_
  obtain ⟨n, rs, a1, b1, rfl, s1, hr, n1, n2⟩ := hy
  obtain ⟨x, a2, b2, f2, s2, g2⟩ := F33.ok hl ho (k := k + 1000) (by omega) (p := 30) s1
  obtain ⟨z, a3, b3, f3, s3⟩ := F34.ok hl ho (k := k + 1003) (by omega) s2
  obtain ⟨u, a4, b4, f4, s4, g4⟩ := F33.ok hl ho (k := k + 1006) (by omega) (p := 4) s3
  have e4 : decide (0 ≤ u) = true := dT (by omega)
  have e4' : decide (u < ((4 : Nat) : Int)) = true := dT (by omega)
  simp only [f2, bS]
  refine .both (fun _ => ?_) (fun _ => ?_)
  · simp only [f3, bS, f4, List.length_cons, List.length_nil, Nat.zero_add, Nat.reduceAdd, e4, e4', Bool.and_self, cT]
    exact .ret ⟨_, _, _, _, rfl, s4.more (by omega)⟩
  · refine .both (fun _ => ?_) (fun _ => ?_)
    · obtain ⟨q1, c1, d1, t1, u1, _⟩ := F33.ok hl ho (k := k + 1003) (by omega) (p := 12) s2
      have w : Go.IntKind.wrap .i64 (n + 2) = n + 2 := w64 (by omega) (by omega)
      obtain ⟨q2, c2, d2, t2, u2, _⟩ := F33.ok hl ho (k := k + 1006) (by omega) (p := n + 2) u1
      obtain ⟨q3, c3, d3, t3, u3, _⟩ := F33.ok hl ho (k := k + 1009) (by omega) (p := 3) u2
      obtain ⟨q4, c4, d4, t4, u4, _⟩ := F33.ok hl ho (k := k + 1012) (by omega) (p := 3) u3
      simp only [t1, bS, w, t2, t3, t4, len1 (show rs.length ≤ 1000000 by omega), cT]
      exact .ret ⟨_, _, _, _, rfl, u4.more (by omega)⟩
    · refine .both (fun _ => ?_) (fun _ => ?_)
      · refine .bind (F17.l1_df hl ho 61 (k + 1003) a2 b2 rs (by omega) (by omega) (by omega) s2) fun y hy => ?_
        obtain ⟨a5, b5, r5, rfl, s5, _⟩ := hy
        exact .ret ⟨_, _, _, _, rfl, s5.more (by omega)⟩
      · refine .both (fun _ => ?_) (fun _ => ?_)
        · simp only [f3, bS, f4, List.length_cons, List.length_nil, Nat.zero_add, Nat.reduceAdd, e4, e4', Bool.and_self, cT]
          have d1 : decide (rs.length + 1 ≤ 274877906944) = true := dT (by omega)
          simp only [d1, cT]
          exact .ret ⟨_, _, _, _, rfl, s4.more (by omega)⟩
        · refine .both (fun _ => ?_) (fun _ => ?_)
          · have d1 : decide (rs.length + 2 ≤ 274877906944) = true := dT (by omega)
            simp only [List.length_cons, List.length_nil, Nat.zero_add, Nat.reduceAdd, d1, cT]
            exact .ret ⟨_, _, _, _, rfl, s2.more (by omega)⟩
          · exact .ret ⟨_, _, _, _, rfl, s2.more (by omega)⟩

theorem F5.l0_df {d : Int} : ∀ (m k : Nat) (v4 a b : Int), v4 + m = 3 → 0 ≤ v4 → k + 2000 * m ≤ 8000 → Dr k a b →
    Df (F5.l0 (v4, d, a, b, l)) (fun y => match y with | .inl z => okS z.1 z.2 = true | .inr _ => True)
  | 0, k, v4, a, b, hm, h4, hk, h => by
    unfold F5.l0
    refine .unroll ?_
    have e : decide (v4 < 3) = false := dF (by omega)
    simp only [F5.l0.b, e, cF]
    exact .ret trivial
  | m + 1, k, v4, a, b, hm, h4, hk, h => by
    have e : decide (v4 < 3) = true := dT (by omega)
    have w : Go.IntKind.wrap .i64 (v4 + 1) = v4 + 1 := w64 (by omega) (by omega)
    unfold F5.l0
    refine .unroll ?_
    simp only [F5.l0.b, e, cT]
    refine .bind (F17.df hl ho (by omega) h) fun y hy => ?_
    obtain ⟨n, rs, a1, b1, rfl, s1⟩ := hy
    refine .bindE (F18.ok n rs) ?_
    refine .both (fun t => .ret t) (fun _ => .ret ?_)
    have ih := F5.l0_df (d := d) m (k + 2000) (v4 + 1) a1 b1 (by omega) (by omega) (by omega) s1
    unfold F5.l0 at ih
    rw [w]
    exact ih

theorem F5.df : Df (F5.F l) (fun y => okS y.1 y.2 = true) := by
  have f16 : ∃ a b, F16.F l = some (a, b) ∧ Dr 0 a b := by
    have m := md (x := (l.length : Int)) (p := 1000) (by omega) (by omega)
    exact ⟨_, _, rfl, by omega, by omega, m.1, by omega⟩
  obtain ⟨a, b, f16, h⟩ := f16
  simp only [F5.F, f16, bS]
  refine .bind (F5.l0_df hl ho 3 0 0 a b (by omega) (by omega) (by omega) h) fun y hy => ?_
  rcases y with y | y
  · exact .ret hy
  · exact .ret (by decide)

end
end Go.Proofs.Ytciafkboilgblaa.AX

/- Fewer rules of a sketch can be kept where more can. No conditions. -/
namespace Go.Proofs.Ytciafkboilgblaa.AX
open Go

def sumN (f : Nat → Nat) : Nat → Nat
  | 0 => 0
  | n + 1 => sumN f n + f n
theorem sumN_le {f g : Nat → Nat} : ∀ {n}, (∀ i, i < n → g i ≤ f i) → sumN g n ≤ sumN f n
  | 0, _ => Nat.le_refl _
  | n + 1, h => by
    have h1 := sumN_le (n := n) fun i hi => h i (by omega)
    have h2 := h n (by omega)
    simp only [sumN]; omega
theorem sumN_lt {f g : Nat → Nat} : ∀ {n}, (∀ i, i < n → g i ≤ f i) → (∃ i, i < n ∧ g i < f i) → sumN g n + 1 ≤ sumN f n
  | 0, _, ⟨i, hi, _⟩ => by omega
  | n + 1, h, ⟨i, hi, hlt⟩ => by
    have h2 := h n (by omega)
    simp only [sumN]
    by_cases e : i = n
    · subst e
      have := sumN_le (n := i) fun j hj => h j (by omega)
      omega
    · have := sumN_lt (n := n) (fun j hj => h j (by omega)) ⟨i, by omega, hlt⟩
      omega

theorem rnd_len {Es : List Ed} {v : List Int} : (rnd Es v).2.length = v.length := by unfold rnd; rw [fold_len]

theorem rnd_grow {Es : List Ed} {N : Nat} (hE : Val N Es) {v : List Int} (hl : v.length = N) (h : (rnd Es v).1 = true) : ∃ i, i < N ∧ v.getD i 0 < (rnd Es v).2.getD i 0 := by
  apply Classical.byContradiction
  intro hc
  have hm := fold_mono (s := (false, v)) hE hl
  have heq : (rnd Es v).2 = v := by
    refine ext0 rnd_len fun i hi => ?_
    rw [rnd_len, hl] at hi
    have h1 := hm i
    have h1 : v.getD i 0 ≤ (rnd Es v).2.getD i 0 := h1
    rcases Int.lt_or_eq_of_le h1 with h2 | h2
    · exact absurd ⟨i, hi, h2⟩ hc
    · exact h2.symm
  have hF : Fix Es v := fun e he => by
    have := fold_tight (s := (false, v)) hE hl he
    have h2 : v.getD e.a 0 + e.c ≤ (rnd Es v).2.getD e.b 0 := this
    rw [heq] at h2; exact h2
  have := fold_fix (s := (false, v)) hF
  unfold rnd at h
  rw [this] at h; cases h

/-- What the rounds come to keeps all. -/
theorem bfI_fix {Es : List Ed} {n : Nat} (hE : Val (n + 1) Es) : ∀ {f k : Nat} {v w : List Int}, bfI Es n f k v = some w → v.length = n + 1 → v.getD n 0 ≤ 0 → Fix Es w ∧ w.getD n 0 ≤ 0 ∧ Le v w ∧ w.length = n + 1
  | 0, k, v, w, h, _, _ => by simp [bfI] at h
  | f + 1, k, v, w, h, hl, h0 => by
    rw [bfI] at h
    split at h
    · rename_i hr
      injection h with h; subst h
      obtain ⟨h1, h2⟩ := fold_false (s := (false, v)) hr
      have e : (rnd Es v).2 = v := by unfold rnd; rw [h1]
      rw [e]
      exact ⟨h2, h0, fun i => Int.le_refl _, hl⟩
    · split at h
      · cases h
      · rename_i hr hq
        obtain ⟨g1, g2, g3, g4⟩ := bfI_fix hE h (by rw [rnd_len]; exact hl) (by omega)
        have hm := fold_mono (s := (false, v)) hE hl
        exact ⟨g1, g2, fun i => Int.le_trans (hm i) (g3 i), g4⟩

/-- Where something keeps all, the rounds come to an end. -/
theorem bfI_of {Es : List Ed} {n : Nat} (hE : Val (n + 1) Es) {h : List Int} (hF : Fix Es h) (h0 : h.getD n 0 ≤ 0) (hp : Le (List.replicate (n + 1) 0) h) : (bfI Es n (n + 3) 0 (List.replicate (n + 1) 0)).isSome = true := by
  let V : Nat → List Int := fun k => Nat.rec (List.replicate (n + 1) 0) (fun _ v => (rnd Es v).2) k
  have hV0 : V 0 = List.replicate (n + 1) 0 := rfl
  have hV : ∀ k, V (k + 1) = (rnd Es (V k)).2 := fun k => rfl
  have hlen : ∀ k, (V k).length = n + 1 := fun k => by
    induction k with
    | zero => rw [hV0]; simp
    | succ k ih => rw [hV, rnd_len]; exact ih
  have hle : ∀ k, Le (V k) h := fun k => by
    induction k with
    | zero => exact hp
    | succ k ih => rw [hV]; exact fold_le (s := (false, V k)) hE (hlen k) hF ih
  -- it comes to an end
  have hend : ∀ (d k : Nat), sumN (fun i => (h.getD i 0 - (V k).getD i 0).toNat) (n + 1) ≤ d → ∃ m, k ≤ m ∧ (rnd Es (V m)).1 = false ∧ ∀ j, k ≤ j → j < m → (rnd Es (V j)).1 = true := by
    intro d
    induction d with
    | zero =>
      intro k hd
      cases hr : (rnd Es (V k)).1 with
      | false => exact ⟨k, Nat.le_refl _, hr, fun j h1 h2 => by omega⟩
      | true =>
        obtain ⟨i, hi, hlt⟩ := rnd_grow hE (hlen k) hr
        have h1 := hle (k + 1) i
        rw [hV] at h1
        have h2 : sumN (fun _ => 0) (n + 1) + 1 ≤ sumN (fun i => (h.getD i 0 - (V k).getD i 0).toNat) (n + 1) := sumN_lt (fun _ _ => Nat.zero_le _) ⟨i, hi, by omega⟩
        omega
    | succ d ih =>
      intro k hd
      cases hr : (rnd Es (V k)).1 with
      | false => exact ⟨k, Nat.le_refl _, hr, fun j h1 h2 => by omega⟩
      | true =>
        obtain ⟨i, hi, hlt⟩ := rnd_grow hE (hlen k) hr
        have hm : Le (V k) (V (k + 1)) := by rw [hV]; exact fold_mono (s := (false, V k)) hE (hlen k)
        have h2 := sumN_lt (f := fun i => (h.getD i 0 - (V k).getD i 0).toNat) (g := fun i => (h.getD i 0 - (V (k + 1)).getD i 0).toNat) (n := n + 1) (fun i _ => by have := hm i; omega) ⟨i, hi, by
          have h1 := hle (k + 1) i
          rw [hV] at h1 ⊢
          omega⟩
        obtain ⟨m, m1, m2, m3⟩ := ih (k + 1) (by omega)
        exact ⟨m, by omega, m2, fun j j1 j2 => by
          by_cases e : j = k
          · subst e; exact hr
          · exact m3 j (by omega) j2⟩
  obtain ⟨m, _, m2, m3⟩ := hend _ 0 (Nat.le_refl _)
  have hmn : m ≤ n + 1 := bf_bound hE hV (by rw [hV0]; simp) m2 fun k hk => m3 k (by omega) hk
  have run : ∀ (r k : Nat), k + r = m → ∀ f, r < f → (bfI Es n f k (V k)).isSome = true := by
    intro r
    induction r with
    | zero =>
      intro k hk f hf
      have : k = m := by omega
      subst this
      cases f with
      | zero => omega
      | succ f => rw [bfI, if_pos m2]; rfl
    | succ r ih =>
      intro k hk f hf
      cases f with
      | zero => omega
      | succ f =>
        have hr := m3 k (by omega) (by omega)
        have h1 := hle (k + 1) n
        rw [hV] at h1
        rw [bfI, if_neg (by rw [hr]; simp), if_neg (by omega), ← hV]
        exact ih (k + 1) (by omega) f (by omega)
  exact run m 0 (by omega) (n + 3) (by omega)

theorem mE_mem {a n : Int} : ∀ {rs : List S31} {e : S81}, e ∈ mE a n rs (tru rs) ↔ ∃ x ∈ rs, e ∈ eR a n x
  | [], e => by simp [mE, tru]
  | x :: rs, e => by
    have h := mE_mem (a := a) (n := n) (rs := rs) (e := e)
    have ht : tru (x :: rs) = true :: tru rs := by simp [tru, List.replicate_succ]
    rw [ht, mE, List.mem_append, h]
    simp

theorem okI_sub {a : Int} {n : Nat} {rs rs' : List S31} (hx : ∀ x ∈ rs, RuleP n x) (hs : ∀ x ∈ rs', x ∈ rs) (h : okI a n rs (tru rs) = true) : okI a n rs' (tru rs') = true := by
  unfold okI at h ⊢
  have hv := eds_val (aE_ok (a := a) (m := tru rs) hx)
  have hv' := eds_val (aE_ok (a := a) (m := tru rs') fun x h => hx x (hs x h))
  have hsub : ∀ e ∈ eds (aE a n rs' (tru rs')), e ∈ eds (aE a n rs (tru rs)) := fun e he => by
    unfold eds at he ⊢
    obtain ⟨q, hq, rfl⟩ := List.mem_map.1 he
    refine List.mem_map.2 ⟨q, ?_, rfl⟩
    unfold aE at hq ⊢
    rcases List.mem_append.1 hq with h | h
    · exact List.mem_append.2 (.inl h)
    · obtain ⟨x, h1, h2⟩ := mE_mem.1 h
      exact List.mem_append.2 (.inr (mE_mem.2 ⟨x, hs x h1, h2⟩))
  obtain ⟨w, hw⟩ := Option.isSome_iff_exists.1 h
  obtain ⟨g1, g2, g3, g4⟩ := bfI_fix hv hw (by simp) (by
    have := (rep_bd (n + 1) 0 (Int.le_refl _) n).2
    exact this)
  exact bfI_of hv' (fun e he => g1 e (hsub e he)) g2 g3

theorem okA_sub {n : Nat} {rs rs' : List S31} (hx : ∀ x ∈ rs, RuleP n x) (hs : ∀ x ∈ rs', x ∈ rs) (h : okA n rs = true) : okA n rs' = true := by
  unfold okA at h ⊢
  rw [Bool.and_eq_true] at h ⊢
  exact ⟨okI_sub hx hs h.1, okI_sub hx hs h.2⟩

theorem okS_sub {n : Int} {rs rs' : List S31} (hs : ∀ x ∈ rs', x ∈ rs) (hl : rs'.length ≤ rs.length) (h : okS n rs = true) : okS n rs' = true := by
  obtain ⟨h1, h2, h3, h4⟩ := okS_all h
  unfold okS headB
  have e1 : decide (n < 1) = false := dF (by omega)
  have e2 : decide (n > 24) = false := dF (by omega)
  have e3 : decide ((rs'.length : Int) > 60) = false := dF (by omega)
  rw [e1, e2, e3]
  simp only [Bool.or_self, Bool.not_false, Bool.true_and]
  exact List.all_eq_true.2 fun x hx => dT (h4 x (hs x hx))

end Go.Proofs.Ytciafkboilgblaa.AX

/- Freedoms of sketches: what each rule does. No conditions. -/
namespace Go.Proofs.Ytciafkboilgblaa.AX
open Go

theorem jn_same {f : Nat → Nat} {a b : Nat} (h : f a = f b) : jn f a b = f := by
  funext x
  unfold jn
  split
  · rename_i h1; rw [h1, h]
  · rfl

theorem tie1 {N : Nat} {g : List Int} {f : Nat → Nat} (u : UF N g f) {a b : Nat} (ha : a < N) (hb : b < N) : F22.F (g, (a : Int), (b : Int)) = some (f a == f b, g.set (f a) (f b : Int), ()) := by
  have lu := u.len
  have fa := u.lt ha
  have e1 := F23.ok (u.rt a ha)
  have e2 := F23.ok (u.rt b hb)
  have d1 : decide ((0 : Int) ≤ (f a : Int)) = true := dT (by omega)
  have d2 : decide ((f a : Int) < (g.length : Int)) = true := dT (by omega)
  have q : ((f a : Int) == (f b : Int)) = (f a == f b) := by
    by_cases c : f a = f b
    · rw [c]; simp
    · rw [qF (by omega), qF c]
  simp only [F22.F, e1, e2, bS, d1, d2, Bool.and_self, cT, q, Int.toNat_natCast]

abbrev FF := (Nat → Nat) × (Nat → Nat)
def tie0 (F : FF) (a b : Nat) : Bool × FF := (F.1 a == F.1 b, (jn F.1 a b, F.2))
def tie2 (F : FF) (a b : Nat) : Bool × FF := (F.2 a == F.2 b, (F.1, jn F.2 a b))
/-- What a rule does: did it say nothing new?; the groups of both axes. -/
def stp (n : Nat) (x : S31) (F : FF) : Bool × FF :=
  if x.f0 = 1 then tie0 F x.f1.toNat n else if x.f0 = 2 then tie2 F x.f1.toNat n
  else if x.f0 = 3 ∨ x.f0 = 7 then tie0 F x.f1.toNat x.f2.toNat else if x.f0 = 4 ∨ x.f0 = 8 then tie2 F x.f1.toNat x.f2.toNat
  else if x.f0 = 9 then ((tie0 F x.f1.toNat x.f2.toNat).1 && (tie2 F x.f1.toNat x.f2.toNat).1, (jn F.1 x.f1.toNat x.f2.toNat, jn F.2 x.f1.toNat x.f2.toNat))
  else (false, F)

def Nx1 (n : Nat) (rs : List S31) (k : Nat) (g0 g1 : List Int) (F : FF) (idle : List Int) (x : S31) : Prop := ∃ g0' g1', UF (n + 1) g0' (stp n x F).2.1 ∧ UF (n + 1) g1' (stp n x F).2.2 ∧
  F6.l0.b ((n : Int), (rs.length : Int), (k : Int), [g0, g1], rs, idle) = some (.inl ((n : Int), (rs.length : Int), ((k + 1 : Nat) : Int), [g0', g1'], rs, bif (stp n x F).1 then idle ++ [(k : Int)] else idle))

theorem nx1_ok {n : Nat} (hn : n ≤ 24) {rs : List S31} (hr : rs.length ≤ 60) {k : Nat} (hk : k < rs.length) (hp : RuleP n (rs.getD k z31)) {g0 g1 : List Int} {F : FF} (u0 : UF (n + 1) g0 F.1) (u1 : UF (n + 1) g1 F.2) (idle : List Int) (hi : idle.length ≤ 100) : Nx1 n rs k g0 g1 F idle (rs.getD k z31) := by
  have d : decide ((k : Int) < (rs.length : Int)) = true := dT (by omega)
  have dz : decide ((0 : Int) ≤ (k : Int)) = true := dT (by omega)
  have w : Go.IntKind.wrap .i64 ((k : Int) + 1) = ((k + 1 : Nat) : Int) := by rw [w64 (by omega) (by omega)]; rfl
  generalize hxx : rs.getD k z31 = x at hp
  obtain ⟨x0, x1, x2, x3⟩ := x
  have k1 : 1 ≤ x0 := hp.k1
  have k9 : x0 ≤ 9 := hp.k9
  obtain ⟨a, rfl⟩ : ∃ a : Nat, x1 = (a : Int) := ⟨x1.toNat, by have : 0 ≤ x1 := hp.a0; omega⟩
  obtain ⟨b, rfl⟩ : ∃ b : Nat, x2 = (b : Int) := ⟨x2.toNat, by have : 0 ≤ x2 := hp.b0; omega⟩
  have ha : a < n + 1 := by have : (a : Int) < n := hp.an; omega
  have hb : b < n + 1 := by have : (b : Int) < n := hp.bn; omega
  have t27 := fun old G => F6.t27_ok (n : Int) (k : Int) old (rs.length : Int) (k : Int) G rs idle (by omega)
  have i0 : ∀ p q : List Int, List.getD [p, q] (Int.toNat 0) ([] : List Int) = p := fun _ _ => rfl
  have i1 : ∀ p q : List Int, List.getD [p, q] (Int.toNat 1) ([] : List Int) = q := fun _ _ => rfl
  have s0 : ∀ p q r : List Int, List.set [p, q] (Int.toNat 0) r = [r, q] := fun _ _ _ => rfl
  have s1 : ∀ p q r : List Int, List.set [p, q] (Int.toNat 1) r = [p, r] := fun _ _ _ => rfl
  have l2 : ∀ p q : List Int, (([p, q] : List (List Int)).length : Int) = 2 := fun _ _ => rfl
  have z0 : decide ((0 : Int) ≤ 0) = true := rfl
  have z1 : decide ((0 : Int) ≤ 1) = true := rfl
  have z2 : decide ((0 : Int) < 2) = true := rfl
  have z3 : decide ((1 : Int) < 2) = true := rfl
  have n0 : decide ((0 : Nat) ≤ 0) = true := rfl
  have n1 : decide ((0 : Nat) ≤ 1) = true := rfl
  have hcs : x0 = 1 ∨ x0 = 2 ∨ x0 = 3 ∨ x0 = 4 ∨ x0 = 5 ∨ x0 = 6 ∨ x0 = 7 ∨ x0 = 8 ∨ x0 = 9 := by omega
  clear k1 k9 hp
  unfold Nx1
  rcases hcs with hc | hc | hc | hc | hc | hc | hc | hc | hc
  · subst hc
    have q1 : ((1 : Int) == 1) = true := rfl
    have q2 : ((1 : Int) == 2) = false := rfl
    have q3 : ((1 : Int) == 3) = false := rfl
    have q4 : ((1 : Int) == 4) = false := rfl
    have q7 : ((1 : Int) == 7) = false := rfl
    have q8 : ((1 : Int) == 8) = false := rfl
    have q9 : ((1 : Int) == 9) = false := rfl
    have w1 : Go.IntKind.wrap .i64 ((1 : Int) - 1) = 0 := by decide
    have w3 : Go.IntKind.wrap .i64 ((1 : Int) - 3) = -2 := by decide
    have w7 : Go.IntKind.wrap .i64 ((1 : Int) - 7) = -6 := by decide
    have es : stp n ⟨1, (a : Int), (b : Int), x3⟩ F = tie0 F a n := rfl
    rw [es]
    have r := tie1 u0 ha (show n < n + 1 by omega)
    exact ⟨_, g1, u0.join ha (show n < n + 1 by omega), u1, by unfold tie0; simp only [F6.l0.b, hxx, d, dz, Bool.and_self, Bool.and_true, cT, cF, Int.toNat_natCast, q1, q2, q3, q4, q7, q8, q9, w1, w3, w7, l2, z0, z1, z2, z3, n0, n1, i0, i1, s0, s1, bS, w, r, t27]⟩
  · subst hc
    have q1 : ((2 : Int) == 1) = false := rfl
    have q2 : ((2 : Int) == 2) = true := rfl
    have q3 : ((2 : Int) == 3) = false := rfl
    have q4 : ((2 : Int) == 4) = false := rfl
    have q7 : ((2 : Int) == 7) = false := rfl
    have q8 : ((2 : Int) == 8) = false := rfl
    have q9 : ((2 : Int) == 9) = false := rfl
    have w1 : Go.IntKind.wrap .i64 ((2 : Int) - 1) = 1 := by decide
    have w3 : Go.IntKind.wrap .i64 ((2 : Int) - 3) = -1 := by decide
    have w7 : Go.IntKind.wrap .i64 ((2 : Int) - 7) = -5 := by decide
    have es : stp n ⟨2, (a : Int), (b : Int), x3⟩ F = tie2 F a n := rfl
    rw [es]
    have r := tie1 u1 ha (show n < n + 1 by omega)
    exact ⟨g0, _, u0, u1.join ha (show n < n + 1 by omega), by unfold tie2; simp only [F6.l0.b, hxx, d, dz, Bool.and_self, Bool.and_true, cT, cF, Int.toNat_natCast, q1, q2, q3, q4, q7, q8, q9, w1, w3, w7, l2, z0, z1, z2, z3, n0, n1, i0, i1, s0, s1, bS, w, r, t27]⟩
  · subst hc
    have q1 : ((3 : Int) == 1) = false := rfl
    have q2 : ((3 : Int) == 2) = false := rfl
    have q3 : ((3 : Int) == 3) = true := rfl
    have q4 : ((3 : Int) == 4) = false := rfl
    have q7 : ((3 : Int) == 7) = false := rfl
    have q8 : ((3 : Int) == 8) = false := rfl
    have q9 : ((3 : Int) == 9) = false := rfl
    have w1 : Go.IntKind.wrap .i64 ((3 : Int) - 1) = 2 := by decide
    have w3 : Go.IntKind.wrap .i64 ((3 : Int) - 3) = 0 := by decide
    have w7 : Go.IntKind.wrap .i64 ((3 : Int) - 7) = -4 := by decide
    have es : stp n ⟨3, (a : Int), (b : Int), x3⟩ F = tie0 F a b := rfl
    rw [es]
    have r := tie1 u0 ha hb
    exact ⟨_, g1, u0.join ha hb, u1, by unfold tie0; simp only [F6.l0.b, hxx, d, dz, Bool.and_self, Bool.and_true, cT, cF, Int.toNat_natCast, q1, q2, q3, q4, q7, q8, q9, w1, w3, w7, l2, z0, z1, z2, z3, n0, n1, i0, i1, s0, s1, bS, w, r, t27]⟩
  · subst hc
    have q1 : ((4 : Int) == 1) = false := rfl
    have q2 : ((4 : Int) == 2) = false := rfl
    have q3 : ((4 : Int) == 3) = false := rfl
    have q4 : ((4 : Int) == 4) = true := rfl
    have q7 : ((4 : Int) == 7) = false := rfl
    have q8 : ((4 : Int) == 8) = false := rfl
    have q9 : ((4 : Int) == 9) = false := rfl
    have w1 : Go.IntKind.wrap .i64 ((4 : Int) - 1) = 3 := by decide
    have w3 : Go.IntKind.wrap .i64 ((4 : Int) - 3) = 1 := by decide
    have w7 : Go.IntKind.wrap .i64 ((4 : Int) - 7) = -3 := by decide
    have es : stp n ⟨4, (a : Int), (b : Int), x3⟩ F = tie2 F a b := rfl
    rw [es]
    have r := tie1 u1 ha hb
    exact ⟨g0, _, u0, u1.join ha hb, by unfold tie2; simp only [F6.l0.b, hxx, d, dz, Bool.and_self, Bool.and_true, cT, cF, Int.toNat_natCast, q1, q2, q3, q4, q7, q8, q9, w1, w3, w7, l2, z0, z1, z2, z3, n0, n1, i0, i1, s0, s1, bS, w, r, t27]⟩
  · subst hc
    have q1 : ((5 : Int) == 1) = false := rfl
    have q2 : ((5 : Int) == 2) = false := rfl
    have q3 : ((5 : Int) == 3) = false := rfl
    have q4 : ((5 : Int) == 4) = false := rfl
    have q7 : ((5 : Int) == 7) = false := rfl
    have q8 : ((5 : Int) == 8) = false := rfl
    have q9 : ((5 : Int) == 9) = false := rfl
    have w1 : Go.IntKind.wrap .i64 ((5 : Int) - 1) = 4 := by decide
    have w3 : Go.IntKind.wrap .i64 ((5 : Int) - 3) = 2 := by decide
    have w7 : Go.IntKind.wrap .i64 ((5 : Int) - 7) = -2 := by decide
    have es : stp n ⟨5, (a : Int), (b : Int), x3⟩ F = (false, F) := rfl
    rw [es]
    exact ⟨g0, g1, u0, u1, by simp only [F6.l0.b, hxx, d, dz, Bool.and_self, Bool.and_true, cT, cF, Int.toNat_natCast, q1, q2, q3, q4, q7, q8, q9, w1, w3, w7, l2, z0, z1, z2, z3, n0, n1, i0, i1, s0, s1, bS, w,  t27]⟩
  · subst hc
    have q1 : ((6 : Int) == 1) = false := rfl
    have q2 : ((6 : Int) == 2) = false := rfl
    have q3 : ((6 : Int) == 3) = false := rfl
    have q4 : ((6 : Int) == 4) = false := rfl
    have q7 : ((6 : Int) == 7) = false := rfl
    have q8 : ((6 : Int) == 8) = false := rfl
    have q9 : ((6 : Int) == 9) = false := rfl
    have w1 : Go.IntKind.wrap .i64 ((6 : Int) - 1) = 5 := by decide
    have w3 : Go.IntKind.wrap .i64 ((6 : Int) - 3) = 3 := by decide
    have w7 : Go.IntKind.wrap .i64 ((6 : Int) - 7) = -1 := by decide
    have es : stp n ⟨6, (a : Int), (b : Int), x3⟩ F = (false, F) := rfl
    rw [es]
    exact ⟨g0, g1, u0, u1, by simp only [F6.l0.b, hxx, d, dz, Bool.and_self, Bool.and_true, cT, cF, Int.toNat_natCast, q1, q2, q3, q4, q7, q8, q9, w1, w3, w7, l2, z0, z1, z2, z3, n0, n1, i0, i1, s0, s1, bS, w,  t27]⟩
  · subst hc
    have q1 : ((7 : Int) == 1) = false := rfl
    have q2 : ((7 : Int) == 2) = false := rfl
    have q3 : ((7 : Int) == 3) = false := rfl
    have q4 : ((7 : Int) == 4) = false := rfl
    have q7 : ((7 : Int) == 7) = true := rfl
    have q8 : ((7 : Int) == 8) = false := rfl
    have q9 : ((7 : Int) == 9) = false := rfl
    have w1 : Go.IntKind.wrap .i64 ((7 : Int) - 1) = 6 := by decide
    have w3 : Go.IntKind.wrap .i64 ((7 : Int) - 3) = 4 := by decide
    have w7 : Go.IntKind.wrap .i64 ((7 : Int) - 7) = 0 := by decide
    have es : stp n ⟨7, (a : Int), (b : Int), x3⟩ F = tie0 F a b := rfl
    rw [es]
    have r := tie1 u0 ha hb
    exact ⟨_, g1, u0.join ha hb, u1, by unfold tie0; simp only [F6.l0.b, hxx, d, dz, Bool.and_self, Bool.and_true, cT, cF, Int.toNat_natCast, q1, q2, q3, q4, q7, q8, q9, w1, w3, w7, l2, z0, z1, z2, z3, n0, n1, i0, i1, s0, s1, bS, w, r, t27]⟩
  · subst hc
    have q1 : ((8 : Int) == 1) = false := rfl
    have q2 : ((8 : Int) == 2) = false := rfl
    have q3 : ((8 : Int) == 3) = false := rfl
    have q4 : ((8 : Int) == 4) = false := rfl
    have q7 : ((8 : Int) == 7) = false := rfl
    have q8 : ((8 : Int) == 8) = true := rfl
    have q9 : ((8 : Int) == 9) = false := rfl
    have w1 : Go.IntKind.wrap .i64 ((8 : Int) - 1) = 7 := by decide
    have w3 : Go.IntKind.wrap .i64 ((8 : Int) - 3) = 5 := by decide
    have w7 : Go.IntKind.wrap .i64 ((8 : Int) - 7) = 1 := by decide
    have es : stp n ⟨8, (a : Int), (b : Int), x3⟩ F = tie2 F a b := rfl
    rw [es]
    have r := tie1 u1 ha hb
    exact ⟨g0, _, u0, u1.join ha hb, by unfold tie2; simp only [F6.l0.b, hxx, d, dz, Bool.and_self, Bool.and_true, cT, cF, Int.toNat_natCast, q1, q2, q3, q4, q7, q8, q9, w1, w3, w7, l2, z0, z1, z2, z3, n0, n1, i0, i1, s0, s1, bS, w, r, t27]⟩
  · subst hc
    have q1 : ((9 : Int) == 1) = false := rfl
    have q2 : ((9 : Int) == 2) = false := rfl
    have q3 : ((9 : Int) == 3) = false := rfl
    have q4 : ((9 : Int) == 4) = false := rfl
    have q7 : ((9 : Int) == 7) = false := rfl
    have q8 : ((9 : Int) == 8) = false := rfl
    have q9 : ((9 : Int) == 9) = true := rfl
    have w1 : Go.IntKind.wrap .i64 ((9 : Int) - 1) = 8 := by decide
    have w3 : Go.IntKind.wrap .i64 ((9 : Int) - 3) = 6 := by decide
    have w7 : Go.IntKind.wrap .i64 ((9 : Int) - 7) = 2 := by decide
    have es : stp n ⟨9, (a : Int), (b : Int), x3⟩ F = ((tie0 F a b).1 && (tie2 F a b).1, (jn F.1 a b, jn F.2 a b)) := rfl
    rw [es]
    have r := tie1 u0 ha hb
    have r' := tie1 u1 ha hb
    exact ⟨_, _, u0.join ha hb, u1.join ha hb, by unfold tie0 tie2; simp only [F6.l0.b, hxx, d, dz, Bool.and_self, Bool.and_true, cT, cF, Int.toNat_natCast, q1, q2, q3, q4, q7, q8, q9, w1, w3, w7, l2, z0, z1, z2, z3, n0, n1, i0, i1, s0, s1, bS, w, r, r', t27]⟩

/-- All rules in turn, from number k on. -/
def runR (n : Nat) : Nat → List S31 → FF → List Int → FF × List Int
  | _, [], F, idle => (F, idle)
  | k, x :: r, F, idle => runR n (k + 1) r (stp n x F).2 (bif (stp n x F).1 then idle ++ [(k : Int)] else idle)

theorem F6.l0_run {n : Nat} (hn : n ≤ 24) {rs : List S31} (hr : rs.length ≤ 60) (hx : ∀ x ∈ rs, RuleP n x) : ∀ (q k : Nat) (g0 g1 : List Int) (F : FF) (idle : List Int), k + q = rs.length → UF (n + 1) g0 F.1 → UF (n + 1) g1 F.2 → idle.length ≤ k →
    ∃ g0' g1', UF (n + 1) g0' (runR n k (rs.drop k) F idle).1.1 ∧ UF (n + 1) g1' (runR n k (rs.drop k) F idle).1.2 ∧ (runR n k (rs.drop k) F idle).2.length ≤ rs.length ∧
      F6.l0 ((n : Int), (rs.length : Int), (k : Int), [g0, g1], rs, idle) = some ((n : Int), [g0', g1'], (runR n k (rs.drop k) F idle).2)
  | 0, k, g0, g1, F, idle, hk, u0, u1, hi => by
    have d : decide ((k : Int) < (rs.length : Int)) = false := dF (by omega)
    have hd : rs.drop k = [] := List.drop_eq_nil_of_le (by omega)
    rw [hd]
    refine ⟨g0, g1, u0, u1, by simp only [runR]; omega, ?_⟩
    unfold F6.l0
    exact lim_out (by simp only [F6.l0.b, d, cF]; rfl)
  | q + 1, k, g0, g1, F, idle, hk, u0, u1, hi => by
    have hkl : k < rs.length := by omega
    obtain ⟨a, b, v0, v1, e⟩ := nx1_ok hn hr hkl (hx _ (by rw [getD_lt hkl]; exact List.getElem_mem hkl)) u0 u1 idle (by omega)
    have hd : rs.drop k = rs.getD k z31 :: rs.drop (k + 1) := by rw [drop_cons hkl, getD_lt hkl]
    rw [hd]
    simp only [runR]
    obtain ⟨c, c', h1, h2, h3, h4⟩ := F6.l0_run hn hr hx q (k + 1) a b _ (bif (stp n (rs.getD k z31) F).1 then idle ++ [(k : Int)] else idle) (by omega) v0 v1 (by cases (stp n (rs.getD k z31) F).1 <;> simp <;> omega)
    refine ⟨c, c', h1, h2, h3, ?_⟩
    rw [← h4]
    unfold F6.l0
    exact lim_in e

/-- How many coordinates are free. -/
def fr (n : Nat) (F : FF) : Nat := cntN (mv n F.1) n + cntN (mv n F.2) n
def run0 (n : Nat) (rs : List S31) : FF × List Int := runR n 0 rs (id, id) []
theorem uf_zero (N : Nat) : UF N (idxs N) id := (uu_zero N).u

theorem F6.okR {n : Nat} {rs : List S31} (hs : okS n rs = true) (hk : okA n rs = true) : F6.F ((n : Int), rs) = some ((fr n (run0 n rs).1 : Int), (run0 n rs).2, 0) ∧ (run0 n rs).2.length ≤ rs.length := by
  have f19 := F19.ok n rs
  obtain ⟨hr, h1, h24, hx⟩ := okS_all hs
  have hn : n ≤ 24 := by omega
  rw [hs] at f19
  obtain ⟨ps, core, f20⟩ := F20.ok hs
  rw [hk] at f20
  have q : ((0 : Int) != 0) = false := rfl
  have w0 : Go.IntKind.wrap .i64 ((n : Int) + 1) = ((n + 1 : Nat) : Int) := by rw [w64 (by omega) (by omega)]; rfl
  have f21 := F21.ok (n + 1) (by omega)
  obtain ⟨g0, g1, u0, u1, hil, t1⟩ := F6.l0_run hn hr hx rs.length 0 (idxs (n + 1)) (idxs (n + 1)) (id, id) [] (by omega) (uf_zero _) (uf_zero _) (by simp)
  rw [List.drop_zero] at u0 u1 hil t1
  rw [show ((0 : Nat) : Int) = 0 from rfl] at t1
  have l3 := F6.l3_ok hn u0 u1 (run0 n rs).2
  have l2 : (([g0, g1] : List (List Int)).length : Int) = 2 := rfl
  refine ⟨?_, hil⟩
  rw [show runR n 0 rs (id, id) [] = run0 n rs from rfl] at t1
  simp only [F6.F, f19, f20, bS, Bool.not_true, cF, if_true, q, w0, f21, t1, l2, l3]
  rfl

end Go.Proofs.Ytciafkboilgblaa.AX

/- Freedoms of drawn sketches: the law, plainly. No conditions. -/
namespace Go.Proofs.Ytciafkboilgblaa.AX
open Go

/-- The groups behind all rules; the numbers of those that say nothing new; the others. -/
def goF (n : Nat) : List S31 → FF → FF
  | [], F => F
  | x :: r, F => goF n r (stp n x F).2
def idl (n : Nat) : Nat → List S31 → FF → List Int
  | _, [], _ => []
  | k, x :: r, F => (bif (stp n x F).1 then [(k : Int)] else []) ++ idl n (k + 1) r (stp n x F).2
def keepR (n : Nat) : List S31 → FF → List S31
  | [], _ => []
  | x :: r, F => (bif (stp n x F).1 then [] else [x]) ++ keepR n r (stp n x F).2

theorem runR_eq {n : Nat} : ∀ {rs : List S31} {k : Nat} {F : FF} {idle : List Int}, runR n k rs F idle = (goF n rs F, idle ++ idl n k rs F)
  | [], k, F, idle => by simp [runR, goF, idl]
  | x :: r, k, F, idle => by
    simp only [runR, goF, idl, runR_eq]
    cases (stp n x F).1 <;> simp
theorem goF_app {n : Nat} : ∀ {l r : List S31} {F : FF}, goF n (l ++ r) F = goF n r (goF n l F)
  | [], r, F => rfl
  | x :: l, r, F => by simp only [List.cons_append, goF, goF_app]
theorem idl_ge {n : Nat} : ∀ {rs : List S31} {k : Nat} {F : FF} {q : Int}, q ∈ idl n k rs F → (k : Int) ≤ q
  | [], k, F, q, h => by simp [idl] at h
  | x :: r, k, F, q, h => by
    simp only [idl, List.mem_append] at h
    rcases h with h | h
    · cases hs : (stp n x F).1 with
      | true => rw [hs] at h; simp at h; omega
      | false => rw [hs] at h; simp at h
    · have := idl_ge h; omega
theorem idl_mem {n : Nat} : ∀ {rs : List S31} {k i : Nat} {F : FF}, i < rs.length → (((k + i : Nat) : Int) ∈ idl n k rs F ↔ (stp n (rs.getD i z31) (goF n (rs.take i) F)).1 = true)
  | [], k, i, F, h => by simp at h
  | x :: r, k, 0, F, h => by
    simp only [idl, List.mem_append, Nat.add_zero, List.take_zero, goF]
    have hx : (x :: r).getD 0 z31 = x := rfl
    rw [hx]
    constructor
    · rintro (h | h)
      · cases hs : (stp n x F).1 with
        | true => rfl
        | false => rw [hs] at h; simp at h
      · have := idl_ge h; omega
    · intro hs
      rw [hs]; simp
  | x :: r, k, i + 1, F, h => by
    have ih := idl_mem (n := n) (rs := r) (k := k + 1) (i := i) (F := (stp n x F).2) (by simpa using h)
    have hx : (x :: r).getD (i + 1) z31 = r.getD i z31 := by simp [List.getD]
    rw [hx]
    simp only [idl, List.mem_append, List.take_succ_cons, goF]
    rw [← ih, show k + 1 + i = k + (i + 1) by omega]
    constructor
    · rintro (h | h)
      · cases hs : (stp n x F).1 with
        | true => rw [hs] at h; simp at h; omega
        | false => rw [hs] at h; simp at h
      · exact h
    · exact fun h => .inr h

/-- Forests there are. -/
def Fo (n : Nat) (F : FF) : Prop := ∃ g0 g1, UF (n + 1) g0 F.1 ∧ UF (n + 1) g1 F.2
theorem fo_zero (n : Nat) : Fo n (id, id) := ⟨_, _, uf_zero _, uf_zero _⟩

theorem join_cnt {n : Nat} {g : List Int} {f : Nat → Nat} (u : UF (n + 1) g f) {a b : Nat} (ha : a < n + 1) (hb : b < n + 1) :
    (f a = f b → jn f a b = f) ∧ (f a ≠ f b → cntN (mv n (jn f a b)) n + 1 = cntN (mv n f) n) := by
  refine ⟨jn_same, fun h => ?_⟩
  have h1 := cnt_join u ha hb h
  have h2 := cnt_mv u
  have h3 := cnt_mv (u.join ha hb)
  omega

structure St1 (n : Nat) (x : S31) (F : FF) : Prop where
  fo : Fo n (stp n x F).2
  le : fr n (stp n x F).2 ≤ fr n F
  ge : fr n F ≤ fr n (stp n x F).2 + 2
  eq : (fr n (stp n x F).2 = fr n F ↔ ((x.f0 = 5 ∨ x.f0 = 6) ∨ (stp n x F).1 = true))
  same : (stp n x F).1 = true → (stp n x F).2 = F

theorem st_tie0 {n : Nat} {x : S31} {F : FF} {a b : Nat} (h : Fo n F) (ha : a < n + 1) (hb : b < n + 1) (e : stp n x F = tie0 F a b) (h5 : x.f0 ≠ 5) (h6 : x.f0 ≠ 6) : St1 n x F := by
  obtain ⟨g0, g1, u0, u1⟩ := h
  obtain ⟨j1, j2⟩ := join_cnt u0 ha hb
  have hfo : Fo n (stp n x F).2 := by rw [e]; exact ⟨_, _, u0.join ha hb, u1⟩
  by_cases c : F.1 a = F.1 b
  · have ej := j1 c
    have e1 : (stp n x F).1 = true := by rw [e]; simpa [tie0] using c
    have e2 : (stp n x F).2 = F := by rw [e]; simp only [tie0, ej]
    exact ⟨hfo, by rw [e2]; omega, by rw [e2]; omega, by rw [e2, e1]; simp, fun _ => e2⟩
  · have ec := j2 c
    have e1 : (stp n x F).1 = false := by rw [e]; simpa [tie0] using c
    have e2 : fr n (stp n x F).2 + 1 = fr n F := by rw [e]; simp only [tie0, fr]; omega
    refine ⟨hfo, by omega, by omega, ?_, fun q => by rw [e1] at q; cases q⟩
    rw [e1]
    constructor
    · intro q; omega
    · rintro ((q | q) | q)
      · exact absurd q h5
      · exact absurd q h6
      · cases q
theorem st_tie2 {n : Nat} {x : S31} {F : FF} {a b : Nat} (h : Fo n F) (ha : a < n + 1) (hb : b < n + 1) (e : stp n x F = tie2 F a b) (h5 : x.f0 ≠ 5) (h6 : x.f0 ≠ 6) : St1 n x F := by
  obtain ⟨g0, g1, u0, u1⟩ := h
  obtain ⟨j1, j2⟩ := join_cnt u1 ha hb
  have hfo : Fo n (stp n x F).2 := by rw [e]; exact ⟨_, _, u0, u1.join ha hb⟩
  by_cases c : F.2 a = F.2 b
  · have ej := j1 c
    have e1 : (stp n x F).1 = true := by rw [e]; simpa [tie2] using c
    have e2 : (stp n x F).2 = F := by rw [e]; simp only [tie2, ej]
    exact ⟨hfo, by rw [e2]; omega, by rw [e2]; omega, by rw [e2, e1]; simp, fun _ => e2⟩
  · have ec := j2 c
    have e1 : (stp n x F).1 = false := by rw [e]; simpa [tie2] using c
    have e2 : fr n (stp n x F).2 + 1 = fr n F := by rw [e]; simp only [tie2, fr]; omega
    refine ⟨hfo, by omega, by omega, ?_, fun q => by rw [e1] at q; cases q⟩
    rw [e1]
    constructor
    · intro q; omega
    · rintro ((q | q) | q)
      · exact absurd q h5
      · exact absurd q h6
      · cases q

theorem st1 {n : Nat} {x : S31} {F : FF} (h : Fo n F) (hp : RuleP n x) : St1 n x F := by
  have k1 := hp.k1
  have k9 := hp.k9
  have a0 := hp.a0
  have an := hp.an
  have b0 := hp.b0
  have bn := hp.bn
  have ha : x.f1.toNat < n + 1 := by omega
  have hb : x.f2.toNat < n + 1 := by omega
  by_cases c1 : x.f0 = 1
  · exact st_tie0 h ha (show n < n + 1 by omega) (by unfold stp; rw [if_pos c1]) (by omega) (by omega)
  by_cases c2 : x.f0 = 2
  · exact st_tie2 h ha (show n < n + 1 by omega) (by unfold stp; rw [if_neg c1, if_pos c2]) (by omega) (by omega)
  by_cases c3 : x.f0 = 3 ∨ x.f0 = 7
  · exact st_tie0 h ha hb (by unfold stp; rw [if_neg c1, if_neg c2, if_pos c3]) (by omega) (by omega)
  by_cases c4 : x.f0 = 4 ∨ x.f0 = 8
  · exact st_tie2 h ha hb (by unfold stp; rw [if_neg c1, if_neg c2, if_neg c3, if_pos c4]) (by omega) (by omega)
  by_cases c9 : x.f0 = 9
  · have e : stp n x F = ((tie0 F x.f1.toNat x.f2.toNat).1 && (tie2 F x.f1.toNat x.f2.toNat).1, (jn F.1 x.f1.toNat x.f2.toNat, jn F.2 x.f1.toNat x.f2.toNat)) := by
      unfold stp; rw [if_neg c1, if_neg c2, if_neg c3, if_neg c4, if_pos c9]
    obtain ⟨g0, g1, u0, u1⟩ := h
    obtain ⟨i1, i2⟩ := join_cnt u0 ha hb
    obtain ⟨j1, j2⟩ := join_cnt u1 ha hb
    have hfo : Fo n (stp n x F).2 := by rw [e]; exact ⟨_, _, u0.join ha hb, u1.join ha hb⟩
    generalize x.f1.toNat = a at *
    generalize x.f2.toNat = b at *
    by_cases c : F.1 a = F.1 b <;> by_cases c' : F.2 a = F.2 b
    · have e1 : (stp n x F).1 = true := by rw [e]; simp [tie0, tie2, c, c']
      have e2 : (stp n x F).2 = F := by rw [e]; simp only [i1 c, j1 c']
      exact ⟨hfo, by rw [e2]; omega, by rw [e2]; omega, by rw [e2, e1]; simp, fun _ => e2⟩
    · have ec := j2 c'
      have e1 : (stp n x F).1 = false := by rw [e]; simp [tie0, tie2, c, c']
      have e2 : fr n (stp n x F).2 + 1 = fr n F := by rw [e]; simp only [fr, i1 c]; omega
      exact ⟨hfo, by omega, by omega, by rw [e1]; constructor <;> intro q <;> first | omega | (rcases q with (q | q) | q <;> first | omega | cases q), fun q => by rw [e1] at q; cases q⟩
    · have ec := i2 c
      have e1 : (stp n x F).1 = false := by rw [e]; simp [tie0, tie2, c, c']
      have e2 : fr n (stp n x F).2 + 1 = fr n F := by rw [e]; simp only [fr, j1 c']; omega
      exact ⟨hfo, by omega, by omega, by rw [e1]; constructor <;> intro q <;> first | omega | (rcases q with (q | q) | q <;> first | omega | cases q), fun q => by rw [e1] at q; cases q⟩
    · have ec := i2 c
      have ec' := j2 c'
      have e1 : (stp n x F).1 = false := by rw [e]; simp [tie0, tie2, c, c']
      have e2 : fr n (stp n x F).2 + 2 = fr n F := by rw [e]; simp only [fr]; omega
      exact ⟨hfo, by omega, by omega, by rw [e1]; constructor <;> intro q <;> first | omega | (rcases q with (q | q) | q <;> first | omega | cases q), fun q => by rw [e1] at q; cases q⟩
  · have e : stp n x F = (false, F) := by unfold stp; rw [if_neg c1, if_neg c2, if_neg c3, if_neg c4, if_neg c9]
    have h56 : x.f0 = 5 ∨ x.f0 = 6 := by omega
    refine ⟨by rw [e]; exact h, by rw [e]; exact Nat.le_refl _, by rw [e]; dsimp only; omega, by rw [e]; simp [h56], fun q => by rw [e] at q; cases q⟩

theorem fo_run {n : Nat} : ∀ {rs : List S31} {F : FF}, (∀ x ∈ rs, RuleP n x) → Fo n F → Fo n (goF n rs F)
  | [], F, _, h => h
  | x :: r, F, hx, h => fo_run (rs := r) (fun y hy => hx y (by simp [hy])) (st1 h (hx x (by simp))).fo

theorem keep_run {n : Nat} : ∀ {rs : List S31} {F : FF} {k : Nat}, (∀ x ∈ rs, RuleP n x) → Fo n F → goF n (keepR n rs F) F = goF n rs F ∧ idl n k (keepR n rs F) F = []
  | [], F, k, _, h => ⟨rfl, rfl⟩
  | x :: r, F, k, hx, h => by
    have hs := st1 h (hx x (by simp))
    have hx' : ∀ y ∈ r, RuleP n y := fun y hy => hx y (by simp [hy])
    simp only [keepR, goF]
    cases hst : (stp n x F).1 with
    | true =>
      have e := hs.same hst
      rw [e]
      simp only [cond_true, List.nil_append]
      exact keep_run hx' h
    | false =>
      simp only [cond_false, List.cons_append, List.nil_append, goF, idl, hst]
      exact keep_run hx' hs.fo
theorem keep_mem {n : Nat} : ∀ {rs : List S31} {F : FF}, (∀ x ∈ keepR n rs F, x ∈ rs) ∧ (keepR n rs F).length ≤ rs.length
  | [], F => ⟨fun x h => h, Nat.le_refl _⟩
  | x :: r, F => by
    obtain ⟨h1, h2⟩ := keep_mem (n := n) (rs := r) (F := (stp n x F).2)
    simp only [keepR]
    cases (stp n x F).1 with
    | true => exact ⟨fun y hy => by simp only [cond_true, List.nil_append] at hy; simp [h1 y hy], by simp; omega⟩
    | false => exact ⟨fun y hy => by simp only [cond_false, List.cons_append, List.nil_append, List.mem_cons] at hy ⊢; rcases hy with rfl | hy; exact .inl rfl; exact .inr (h1 y hy), by simp; omega⟩
theorem keep_app {n : Nat} : ∀ {l r : List S31} {F : FF}, keepR n (l ++ r) F = keepR n l F ++ keepR n r (goF n l F)
  | [], r, F => rfl
  | x :: l, r, F => by simp only [List.cons_append, keepR, goF, keep_app, List.append_assoc]

theorem fr_zero (n : Nat) : fr n (id, id) = 2 * n := by
  have h : ∀ m, m ≤ n → cntN (mv n id) m = m := by
    intro m
    induction m with
    | zero => intro _; rfl
    | succ m ih =>
      intro hm
      have e : mv n id m = true := by unfold mv; simp; omega
      simp only [cntN, ih (by omega), e, if_true]
  unfold fr
  rw [h n (Nat.le_refl _)]
  omega
theorem fr_le (n : Nat) (F : FF) : fr n F ≤ 2 * n := by
  have h1 := cntN_le (mv n F.1) n
  have h2 := cntN_le (mv n F.2) n
  unfold fr; omega

theorem F8.ok (p : List Int) (h : p.length ≤ 1048576) : F8.F (p, p) = some true := by
  have := lim_run (f := F8.l0.b) (fun i => ((i : Int), p, p)) p.length (y := .inr ()) (fun i hi => by
    have d1 : decide ((i : Int) < (p.length : Int)) = true := dT (by omega)
    have d2 : decide ((0 : Int) ≤ (i : Int)) = true := dT (by omega)
    have w : Go.IntKind.wrap .i64 ((i : Int) + 1) = ((i + 1 : Nat) : Int) := by rw [w64 (by omega) (by omega)]; rfl
    simp (disch := rfl) only [F8.l0.b, d1, d2, nF, w, Bool.and_self, cT, cF, bS, Bool.not_true])
    (by
      have d1 : decide ((p.length : Int) < (p.length : Int)) = false := dF (by omega)
      simp (disch := rfl) only [F8.l0.b, d1, cF])
  have n0 : (((p.length : Int)) != (p.length : Int)) = false := nF rfl
  simp only [F8.F, n0, cF]
  exact congrArg (fun q : Option (Bool ⊕ Unit) => q.bind fun q => match q with | .inl y => some y | .inr y => some true) this

theorem F3.l2_ok {v4 v10 v13 n x0 x1 x2 x3 : Int} {i : Nat} {q : Bool} {sp : List Int} {kp rs : List S31} (hi : i < 1000) (hsp : sp.length ≤ 1000) :
    F3.l2 (v4, v10, ((i + 1 : Nat) : Int), v13, q, false, 0, n, x0, x1, x2, x3, sp, kp, rs) = some (v4, v10, ((i + 1 : Nat) : Int), v13, q, sp.any (fun z => z == (i : Int)), n, x0, x1, x2, x3, sp, kp, rs) := by
  have w0 : Go.IntKind.wrap .i64 (((i + 1 : Nat) : Int) - 1) = (i : Int) := by rw [w64 (by omega) (by omega)]; omega
  have main := lim_fold (f := F3.l2.b) (fun (j : Nat) (t : Bool) => (v4, v10, ((i + 1 : Nat) : Int), v13, q, t, (j : Int), n, x0, x1, x2, x3, sp, kp, rs)) sp 0 (fun t z => t || z == (i : Int)) (fun _ => True)
    (z := fun t => (v4, v10, ((i + 1 : Nat) : Int), v13, q, t, n, x0, x1, x2, x3, sp, kp, rs)) false trivial (fun _ _ _ _ => trivial) (fun j t hj _ => by
      have d1 : decide ((j : Int) < (sp.length : Int)) = true := dT (by omega)
      have d2 : decide ((0 : Int) ≤ (j : Int)) = true := dT (by omega)
      have w : Go.IntKind.wrap .i64 ((j : Int) + 1) = ((j + 1 : Nat) : Int) := by rw [w64 (by omega) (by omega)]; rfl
      simp only [F3.l2.b, d1, d2, Bool.and_self, Bool.or_true, cT, w0, w, Int.toNat_natCast])
    (fun t _ => by
      have d1 : decide ((sp.length : Int) < (sp.length : Int)) = false := dF (by omega)
      simp only [F3.l2.b, d1, cF])
  have hf : ∀ (l : List Int) (t : Bool), l.foldl (fun t z => t || z == (i : Int)) t = (t || l.any (fun z => z == (i : Int))) := by
    intro l
    induction l with
    | nil => intro t; simp
    | cons z l ih => intro t; rw [List.foldl_cons, ih, List.any_cons, Bool.or_assoc]
  unfold F3.l2
  rw [hf] at main
  exact main

theorem F3.l0_ok {n : Nat} {rs : List S31} (hs : okS n rs = true) (hk : okA n rs = true) (free : Int) : ∀ (q i : Nat) (was : Nat) (kp : List S31), i + q = rs.length + 1 →
    (i = 0 → was = 2 * n ∧ kp = []) → (∀ j, i = j + 1 → was = fr n (goF n (rs.take j) (id, id)) ∧ kp = keepR n (rs.take j) (id, id)) →
    F3.l0 (free, (was : Int), (i : Int), (n : Int), idl n 0 rs (id, id), kp, rs) = some (.inr (free, (fr n (goF n rs (id, id)) : Int), (n : Int), keepR n rs (id, id), rs))
  | 0, i, was, kp, hi, h0, h1 => by
    have d : decide ((i : Int) ≤ (rs.length : Int)) = false := dF (by omega)
    obtain ⟨e1, e2⟩ := h1 rs.length (by omega)
    rw [List.take_length] at e1 e2
    unfold F3.l0
    exact lim_out (by simp only [F3.l0.b, d, cF, e1, e2])
  | q + 1, i, was, kp, hi, h0, h1 => by
    obtain ⟨hr, g1, g24, hx⟩ := okS_all hs
    have hn : n ≤ 24 := by omega
    have d : decide ((i : Int) ≤ (rs.length : Int)) = true := dT (by omega)
    have d2 : decide ((0 : Int) ≤ (i : Int)) = true := dT (by omega)
    have z0 : decide ((0 : Int) ≤ 0) = true := rfl
    have n0 : decide ((0 : Nat) ≤ 0) = true := rfl
    have et : List.take (Int.toNat ((i : Int) - 0)) (List.drop (Int.toNat 0) rs) = rs.take i := by simp
    have hmem : ∀ x ∈ rs.take i, x ∈ rs := fun x hx => List.mem_of_mem_take hx
    have hlen : (rs.take i).length ≤ rs.length := by rw [List.length_take]; omega
    obtain ⟨f6, _⟩ := F6.okR (okS_sub hmem hlen hs) (okA_sub hx hmem hk)
    have e0 : (run0 n (rs.take i)).1 = goF n (rs.take i) (id, id) := by unfold run0; rw [runR_eq]
    rw [e0] at f6
    have hle := fr_le n (goF n (rs.take i) (id, id))
    have c0 : ((0 : Int) != 0) = false := rfl
    have w1 : Go.IntKind.wrap .i64 ((i : Int) + 1) = ((i + 1 : Nat) : Int) := by rw [w64 (by omega) (by omega)]; rfl
    by_cases ci : i = 0
    · subst ci
      obtain ⟨e1, e2⟩ := h0 rfl
      subst e2 e1
      have ef : fr n (goF n (rs.take 0) (id, id)) = 2 * n := by simp only [List.take_zero, goF]; exact fr_zero n
      rw [ef] at f6
      have w2 : Go.IntKind.wrap .i64 (((2 * n : Nat) : Int) - 2) = ((2 * n : Nat) : Int) - 2 := w64 (by omega) (by omega)
      have d3 : decide (((2 * n : Nat) : Int) > ((2 * n : Nat) : Int)) = false := dF (by omega)
      have d4 : decide (((2 * n : Nat) : Int) < ((2 * n : Nat) : Int) - 2) = false := dF (by omega)
      have d5 : (((2 * n : Nat) : Int) != ((2 * n : Nat) : Int)) = false := nF (by omega)
      have d6 : decide (((0 : Nat) : Int) > 0) = false := dF (by omega)
      have ih := F3.l0_ok hs hk free q 1 (2 * n) [] (by omega) (fun h => by omega) (fun j hj => by
        have : j = 0 := by omega
        subst this
        exact ⟨by rw [ef], by simp [keepR]⟩)
      rw [← ih]
      unfold F3.l0
      exact lim_in (by
        simp only [F3.l0.b, d, d2, z0, n0, Bool.and_self, cT, et, f6, bS, c0, d3, w2, d4, Bool.or_self, cF, d5, Bool.and_false, d6, w1])
    · obtain ⟨j, rfl⟩ : ∃ j, i = j + 1 := ⟨i - 1, by omega⟩
      obtain ⟨e1, e2⟩ := h1 j rfl
      have hj : j < rs.length := by omega
      have htk : rs.take (j + 1) = rs.take j ++ [rs.getD j z31] := by rw [getD_lt hj, List.take_append_getElem hj]
      have hfo : Fo n (goF n (rs.take j) (id, id)) := fo_run (fun x h => hx x (List.mem_of_mem_take h)) (fo_zero n)
      have hp := hx (rs.getD j z31) (by rw [getD_lt hj]; exact List.getElem_mem hj)
      have hst := st1 hfo hp
      have erun : goF n (rs.take (j + 1)) (id, id) = (stp n (rs.getD j z31) (goF n (rs.take j) (id, id))).2 := by rw [htk, goF_app]; rfl
      have ekeep : keepR n (rs.take (j + 1)) (id, id) = kp ++ (bif (stp n (rs.getD j z31) (goF n (rs.take j) (id, id))).1 then [] else [rs.getD j z31]) := by rw [htk, keep_app, e2]; simp [keepR]
      have hsp : (idl n 0 rs (id, id)).length ≤ 60 := by
        have := (F6.okR hs hk).2
        unfold run0 at this
        rw [runR_eq] at this
        simp only [List.nil_append] at this
        omega
      have hany : (idl n 0 rs (id, id)).any (fun z => z == (j : Int)) = (stp n (rs.getD j z31) (goF n (rs.take j) (id, id))).1 := by
        have hm := idl_mem (n := n) (rs := rs) (k := 0) (i := j) (F := (id, id)) hj
        rw [Nat.zero_add] at hm
        cases ht : (stp n (rs.getD j z31) (goF n (rs.take j) (id, id))).1 with
        | true => exact List.any_eq_true.2 ⟨_, hm.2 ht, by simp⟩
        | false =>
          cases ha : (idl n 0 rs (id, id)).any (fun z => z == (j : Int)) with
          | false => rfl
          | true =>
            obtain ⟨z, z1, z2⟩ := List.any_eq_true.1 ha
            have : z = (j : Int) := by simpa using z2
            subst this
            rw [hm.1 z1] at ht; cases ht
      have l2 := fun (v13 : Int) (qq : Bool) (a b c dd : Int) => F3.l2_ok (v4 := free) (v10 := (was : Int)) (v13 := v13) (n := (n : Int)) (x0 := a) (x1 := b) (x2 := c) (x3 := dd) (i := j) (q := qq) (sp := idl n 0 rs (id, id)) (kp := kp) (rs := rs) (by omega) (by omega)
      rw [hany] at l2
      rw [erun] at f6 hle
      generalize hF : goF n (rs.take j) (id, id) = F at *
      generalize hX : rs.getD j z31 = x at *
      have w2 : Go.IntKind.wrap .i64 ((was : Int) - 2) = (was : Int) - 2 := w64 (by have := fr_le n F; omega) (by have := fr_le n F; omega)
      have s1 := hst.le
      have s2 := hst.ge
      have s3 := hst.eq
      have d3 : decide (((fr n (stp n x F).2 : Nat) : Int) > (was : Int)) = false := dF (by omega)
      have d4 : decide (((fr n (stp n x F).2 : Nat) : Int) < (was : Int) - 2) = false := dF (by omega)
      have d5 : ((((j + 1 : Nat)) : Int) == 0) = false := qF (by omega)
      have d6 : decide (((j + 1 : Nat) : Int) > 0) = true := dT (by omega)
      have w3 : Go.IntKind.wrap .i64 (((j + 1 : Nat) : Int) - 1) = (j : Int) := by rw [w64 (by omega) (by omega)]; omega
      have d7 : decide ((0 : Int) ≤ (j : Int)) = true := dT (by omega)
      have d8 : decide ((j : Int) < (rs.length : Int)) = true := dT (by omega)
      have d9 : ((((fr n (stp n x F).2 : Nat) : Int) == (was : Int)) == (((x.f0 == 5) || (x.f0 == 6)) || (stp n x F).1)) = true := by
        have hl : ((((fr n (stp n x F).2 : Nat) : Int) == (was : Int)) = true) ↔ ((((x.f0 == 5) || (x.f0 == 6)) || (stp n x F).1) = true) := by
          rw [Bool.or_eq_true, Bool.or_eq_true, beq_iff_eq, beq_iff_eq, beq_iff_eq]
          rw [← s3]
          omega
        cases h1 : (((fr n (stp n x F).2 : Nat) : Int) == (was : Int)) <;> cases h2 : (((x.f0 == 5) || (x.f0 == 6)) || (stp n x F).1) <;> rw [h1, h2] at hl <;> simp at hl ⊢
      have w4 : Go.IntKind.wrap .i64 (((j + 1 : Nat) : Int) + 1) = ((j + 1 + 1 : Nat) : Int) := by rw [w64 (by omega) (by omega)]; rfl
      have hkl : kp.length ≤ 60 := by
        have := (keep_mem (n := n) (rs := rs.take j) (F := (id, id))).2
        rw [← e2, List.length_take] at this
        omega
      have ih := F3.l0_ok hs hk free q (j + 1 + 1) (fr n (stp n x F).2) (kp ++ (bif (stp n x F).1 then [] else [x])) (by omega) (fun h => by omega) (fun j' hj' => by
        have : j' = j + 1 := by omega
        subst this
        exact ⟨by rw [erun], ekeep.symm⟩)
      rw [← ih]
      unfold F3.l0
      cases ht : (stp n x F).1 with
      | true =>
        rw [ht] at l2 d9
        exact lim_in (by
          simp only [F3.l0.b, d, d2, z0, n0, Bool.and_self, cT, et, f6, bS, c0, d3, w2, d4, Bool.or_self, cF, d5, Bool.false_and, d6, w3, d7, d8, Int.toNat_natCast, hX, l2, d9, Bool.not_true, w4, List.append_nil])
      | false =>
        rw [ht] at l2 d9
        have d10 : decide (kp.length + ((⟨x.f0, x.f1, x.f2, x.f3⟩ : S31) :: []).length ≤ 274877906944) = true := len1 (by omega)
        exact lim_in (by
          simp only [F3.l0.b, d, d2, z0, n0, Bool.and_self, cT, et, f6, bS, c0, d3, w2, d4, Bool.or_self, cF, d5, Bool.false_and, d6, w3, d7, d8, Int.toNat_natCast, hX, l2, d9, Bool.not_true, Bool.not_false, w4, d10])

theorem F3.law_of (l : List Int) (ho : Oct l) : F3.F l = some true := by
  by_cases h0 : (l.length : Int) > 1048576
  · simp only [F3.F, dT h0, cT]
  have hl : l.length ≤ 1048576 := by omega
  obtain ⟨y, f5, hs⟩ := F5.df hl ho
  obtain ⟨n, rs⟩ := y
  dsimp only at hs
  obtain ⟨a, q, c, hq, e6, e7⟩ := free_ok n rs
  have e8 := F8.ok q (by omega)
  have na : (a != a) = false := nF rfl
  have nc : (c != c) = false := nF rfl
  by_cases hc : c = 0
  · subst hc
    obtain ⟨hr, g1, g24, hx⟩ := okS_all hs
    obtain ⟨m, rfl⟩ : ∃ m : Nat, n = (m : Int) := ⟨n.toNat, by omega⟩
    have hk : okA m rs = true := by
      obtain ⟨ps, core, f20⟩ := F20.ok hs
      have f19 := F19.ok (m : Int) rs
      rw [hs] at f19
      cases hk : okA m rs with
      | true => rfl
      | false =>
        rw [hk] at f20
        have qq : ((15 : Int) != 0) = true := rfl
        simp only [F6.F, f19, f20, bS, Bool.not_true, cF, Bool.false_eq_true, if_false, qq, cT] at e6
        simp at e6
    obtain ⟨f6, hil⟩ := F6.okR hs hk
    have er : run0 m rs = (goF m rs (id, id), idl m 0 rs (id, id)) := by unfold run0; rw [runR_eq]; rfl
    rw [er] at f6
    rw [f6] at e6
    simp only [Option.some.injEq, Prod.mk.injEq] at e6
    obtain ⟨rfl, rfl, _⟩ := e6
    have w0 : Go.IntKind.wrap .i64 (2 * (m : Int)) = ((2 * m : Nat) : Int) := by rw [w64 (by omega) (by omega)]; omega
    have l0 := F3.l0_ok hs hk ((fr m (goF m rs (id, id)) : Nat) : Int) (rs.length + 1) 0 (2 * m) [] (by omega) (fun _ => ⟨rfl, rfl⟩) (fun j hj => by omega)
    rw [show ((0 : Nat) : Int) = 0 from rfl] at l0
    obtain ⟨km, kl⟩ := keep_mem (n := m) (rs := rs) (F := (id, id))
    obtain ⟨f6', _⟩ := F6.okR (okS_sub km kl hs) (okA_sub hx km hk)
    have er' : run0 m (keepR m rs (id, id)) = (goF m rs (id, id), []) := by
      unfold run0
      rw [runR_eq]
      obtain ⟨k1, k2⟩ := keep_run (n := m) (rs := rs) (F := (id, id)) (k := 0) hx (fo_zero m)
      rw [k1, k2]; rfl
    rw [er'] at f6'
    have c0 : ((0 : Int) != 0) = false := rfl
    have t0 : ((0 : Int) == 0) = true := rfl
    have tt : (((fr m (goF m rs (id, id)) : Nat) : Int) == ((fr m (goF m rs (id, id)) : Nat) : Int)) = true := qT rfl
    have tl : ((((([] : List Int).length : Nat)) : Int) == 0) = true := rfl
    simp only [F3.F, dF h0, cF, f5, bS, f6, e7, c0, na, Bool.or_self, Bool.not_false, cT, e8, Bool.not_true, w0, l0, f6', t0, tt, tl, Bool.and_self]
  · have hc0 : (c != 0) = true := nT hc
    simp only [F3.F, dF h0, cF, f5, bS, e6, e7, nc, na, Bool.or_self, Bool.not_false, cT, e8, Bool.not_true, hc0]

end Go.Proofs.Ytciafkboilgblaa.AX

/- The law of freedoms of drawn sketches, plainly, of what is handed in. No conditions. -/
namespace Go.Proofs.Ytciafkboilgblaa.AX
open Go

theorem oct_of {l : List Int} (h : ∀ n, RowOk (U := uni) ky n 0 l) : Oct l := fun x hx => by
  have h1 : TsOf (U := uni) (fun k l => l.length ≤ maxLen ∧ ∀ x ∈ l, ElOk (U := uni) ky 0 k x) (ky 0) (uni.enc 0 x) := (h 1).2 x hx
  have h2 : (Lit.int .u8 x).wf = true := h1.1.2
  simp [Lit.wf, IntKind.min, IntKind.max, IntKind.signed, IntKind.bits] at h2
  omega

theorem F3.law (l : List Int) (hl : ∀ n, RowOk (U := uni) ky n 0 l) : F3.F l = some true := F3.law_of l (oct_of hl)

end Go.Proofs.Ytciafkboilgblaa.AX

/- The law FnFree answers true at every input. No conditions. -/
namespace Go.Proofs.Ytciafkboilgblaa.fnFree
open Go.ChangeShapes Go.WideShapes Go.ChangeAt Go.RowKit Go.Proofs.Ytciafkboilgblaa.AX
open Go.ChangeMaps (open_string shut_string)
set_option maxRecDepth 100000
theorem own : ownKnob Try.prog.godebug = none := by kernel_rfl
theorem laidOut : laidOutB Try.prog = true := by kernel_rfl
set_option maxRecDepth 100000 in
theorem lifted (os : Os) (started : os.Started) (H : Type) (enc : TypeId × Value → H) :
    ReturnsInHanded {} Try.checked os 3 .any (Rows.fnFreeSpec.pre6 enc Try.prog Try.f3 Rows.fnFreeRow.domain false) (Rows.fnFreeSpec.post enc Try.prog Try.f3 false true false false) := by
  refine returnsInHanded_of_change_sized (C := Try.checked) own started (by kernel_rfl) Try.func3
    (ChangeSpec.witness6 (enc := enc) (C := Try.checked) false ⟨#[], #[.slice none 0 0], []⟩ 8 (by kernel_rfl) (by kernel_rfl) (by kernel_rfl) (by kernel_rfl)) ?_
  intro W base args ds gs before hval0 hW hcnd hsz0 _
  have hval : ∀ (j : Nat) t v, Try.f3.params[j]? = some t → args[j]? = some v → Value.okWide Try.prog W .any base t v := hval0
  have hW' := hW
  obtain ⟨p, q, hA0, hV, rfl, hfz, hnd⟩ := hW
  have hA : DataW.TrodAll enc Try.prog W 0 (fun _ => true) true Try.f3.params.toList args.toList ds p := hA0
  rw [Try.params3] at hA hval
  obtain ⟨v0, vs0, d0, ds0, p0, q0, hargs, rfl, rfl, h0, r0⟩ := trodAll_cons hA
  obtain ⟨rfl, rfl, rfl⟩ := trodAll_nil r0
  obtain rfl : args = #[v0] := by cases args; simp_all
  obtain ⟨rfl, rfl⟩ := trodVars_none hV
  have k0 := h0
  have lt0 : ∀ x ∈ p0, x.block < W.heap.size := by obtain ⟨m, hm⟩ := k0; exact DataW.trod_lt m _ _ _ hm
  obtain ⟨l0, F0, i0, o0⟩ := open_slice kindsOk (k := 0) Try.underlying22 (List.cons_ne_nil _ _) (hval 0 22 v0 rfl rfl) h0
  clear hA0 hval0 hsz0
  have hcon := F3.con l0 true (F3.law l0 o0) [v0] W [] _ ⟨[], [], F0, _, i0, ⟨rfl, rfl⟩, rfl, rfl⟩ (by simp) (by simp) (DoorOk.none trivial)
  refine hcon.mono fun e W' ⟨rs, vs, G, E', hr, hR, he, hO, hfr, _, _⟩ => ?_
  obtain rfl : rs = [.val (.bool true)] := by injection hr with hr; exact hr.symm
  obtain rfl : vs = [.bool true] := by
    match vs, hR with
    | [v], ⟨_, _, ⟨h, _⟩, _, _⟩ => rw [h]
  subst he
  have bel := below_of hfr
  exact ⟨_, rfl, _, _, _, [], _, [], hW', trodAll_mk1 (shut_bool Try.underlying4 _), (trodAll_cons_mk (Below.trod laidOut (by kernel_rfl) (of_decide_eq_true (by kernel_rfl)) k0 bel lt0) trodAll_mk0), rfl, bel.frame _, fun h => by cases h⟩
theorem over : Rows.fnFreeRow.holds Try.pinned (OpenSpec.ofChange Rows.fnFreeSpec) :=
  OpenClaim.holds_of_wide 3 Try.f3 rfl rfl rfl rfl rfl rfl rfl ⟨rfl, rfl, rfl, rfl, rfl⟩ rfl rfl rfl rfl rfl (by kernel_rfl) Try.func3 (by kernel_rfl)
    (of_decide_eq_true (by kernel_rfl)) (by unfold Func.isWrapper; first | (rw [if_pos (by decide +kernel)]; kernel_rfl) | (rw [if_neg (by decide +kernel)]; exact ⟨rfl, rfl⟩))
    (fun os started H enc _ => lifted os started H enc)
theorem proved : Rows.FnFreeSaid := over
end Go.Proofs.Ytciafkboilgblaa.fnFree
namespace Go.Proofs.Ytciafkboilgblaa
theorem fnFree_holds : Rows.FnFreeSaid := fnFree.proved
end Go.Proofs.Ytciafkboilgblaa

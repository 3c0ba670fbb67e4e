/- The function 43 of the program in the small machine. No conditions. -/
import Derived.KernelRfl
import Derived.Test.YtchohkelpjfpcaaDoorRows
import Derived.WalkKit
import Derived.ProofKit
import Derived.OpenShut
import Derived.ShutString
import Derived.ChangeOld
import Derived.Below
import Derived.SizedLaws
import Derived.Test.YtchohkelpjfpcaaDoorTie
import Derived.Test.YtchohkelpjfpcaaDoorCards
import Derived.Lib.LaidU8
import Derived.Lay
import Derived.LaidOnce
import Derived.SevenTiedAt
import Derived.Test.YtchohkelpjfpcaaDoorPDd
set_option linter.unusedVariables false
set_option linter.unusedSimpArgs false
set_option linter.unusedSectionVars false
namespace Go.Proofs.YtchohkelpjfpcaaDoor.AX.F43
open Go Go.Proofs.Tryd
noncomputable def code : Code := bodyOf f43
abbrev Y : Type := ByteArray
def cp : Cod uni Int := (cod1 (iInt .i64))
def cr : Coz uni ByteArray := (cozR (cod1 iStr) (codD cod0))
noncomputable def es : List (Ent prog uni) := []
theorem get : prog.funcs[43]? = some f43 := by kernel_rfl

def l0.A : Ann := ⟨[(0, .sc), (3, .sc)], [], [], []⟩
def l0.c : Cod uni (Int × ByteArray) := (codC (iInt .i64) (cod1 iStr))
def l0.xs : List (AExit × Ann) := [((.exit 0), ⟨[(3, .sc)], [], [], []⟩)]
def l0.y : Coy uni (ByteArray) := (coy1 (cod1 iStr))
noncomputable def l0.b : Int × ByteArray → Option ((Int × ByteArray) ⊕ (ByteArray))
  | (v0, v3) =>
  cond (decide (v0 > 0)) (
   let x0 := (strRow (U := uni) 4 ((Go.IntKind.wrap (Go.IntKind.u8 ) (Go.IntKind.wrap (Go.IntKind.i64 ) (48 + (Int.tmod v0 10)))) :: []))
   cond (decide (((ByteArray.size x0) + (ByteArray.size v3)) ≤ 274877906944)) (
    some (.inl ((Go.IntKind.wrap (Go.IntKind.i64 ) (Int.tdiv v0 10)), (x0 ++ v3)))) none) (
   some (.inr v3))
noncomputable def l0 (x : Int × ByteArray) : Option (ByteArray) := lim l0.b x
theorem l0.eq : ∀ x, l0.b x = roundX (mkE tab es 20 [] []) (loopAt 0 code) (cutOf l0.A l0.c) (cutsOf l0.xs l0.y) x := fun x => by kernel_rfl
theorem l0.owed {R : Type} : owed (mkE (R := R) tab es 20 [] []) (loopAt 0 code) = [] := by kernel_rfl
theorem l0.ok (w0 : World) (M : Own) (h : Pinned M []) {R : Type} : SoundO prog w0 M 20 (.block 0 (.loop (loopAt 0 code))) (loopO (R := R) 0 (cutOf l0.A l0.c) (cutsOf l0.xs l0.y) l0) :=
  loop_ok tabOk uniOk mixed l0.eq (h.sub rfl) (h.sub rfl) fun x hx => by rw [l0.owed] at hx; exact absurd hx List.not_mem_nil

noncomputable def F : Int → Option (ByteArray)
  | p0 =>
  cond (decide (p0 ≤ 0)) (
   some (ByteArray.mk (Array.mk (109 :: (48 :: []))))) (
   (l0 (p0, (ByteArray.mk (Array.mk ([] : List UInt8))))).bind fun yl0 =>
   cond (decide (((ByteArray.size (ByteArray.mk (Array.mk (109 :: [])))) + (ByteArray.size yl0)) ≤ 274877906944)) (
    some ((ByteArray.mk (Array.mk (109 :: []))) ++ yl0)) none)
theorem F.eq : ∀ x, F x = runF (mkE tab es 20 [(0, some (loopO 0 (cutOf l0.A l0.c) (cutsOf l0.xs l0.y) l0))] []) code [.sc] [.sc] [.tmp 2] (Coz.dec cr) (cp.enc x) := fun x => by kernel_rfl
theorem F.owed : owed (mkE (R := ByteArray) tab es 20 [(0, some (loopO 0 (cutOf l0.A l0.c) (cutsOf l0.xs l0.y) l0))] []) code = [((.block 0 (.loop (loopAt 0 code))), (loopO (R := _) 0 (cutOf l0.A l0.c) (cutsOf l0.xs l0.y) l0))] := by kernel_rfl
theorem con : ∀ x y, F x = some y → Con prog 43 [.sc] [.sc] (cp.enc x) (cr.enc y).1 (cr.enc y).2 :=
  func_ok (c := code) (n := 20) (pf := [.sc]) (res := [.tmp 2]) tabOk uniOk mixed get (by kernel_rfl) (by kernel_rfl) (by kernel_rfl) (by decide) F.eq fun w0 M h x hx => by rw [F.owed] at hx; rcases List.mem_cons.1 hx with rfl | hx; exact l0.ok w0 M h; exact absurd hx List.not_mem_nil
noncomputable def ent : Ent prog uni := Ent.of 43 [.sc] [.sc] cp cr F con fun args w => enters_of get (by kernel_rfl) rfl args w
end Go.Proofs.YtchohkelpjfpcaaDoor.AX.F43

/- The function 44 of the program in the small machine. No conditions. -/
namespace Go.Proofs.YtchohkelpjfpcaaDoor.AX.F44
open Go Go.Proofs.Tryd
noncomputable def code : Code := bodyOf f44
abbrev Y : Type := (Int × ((List S69) × Unit))
def cp : Cod uni ((List S69) × Int) := (codC (iRow 6) (cod1 (iInt .i64)))
def cr : Coz uni (Int × ((List S69) × Unit)) := (cozRM (cod1 (iInt .i64)) (codC (iRow 6) (codD cod0)))
noncomputable def es : List (Ent prog uni) := []
theorem get : prog.funcs[44]? = some f44 := by kernel_rfl

def l0.A : Ann := ⟨[(0, .slc 4194304 []), (1, .sc), (5, .sc)], [], [(4194304, true, 6)], [4194304]⟩
def l0.c : Cod uni (Int × Int × (List S69)) := (codC (iInt .i64) (codC (iInt .i64) (cod1 (iRow 6))))
def l0.xs : List (AExit × Ann) := [((.exit 0), ⟨[(0, .slc 4194304 []), (1, .sc)], [], [(4194304, true, 6)], [4194304]⟩)]
def l0.y : Coy uni ((Int × (List S69))) := (coy1 (codC (iInt .i64) (cod1 (iRow 6))))
noncomputable def l0.b : Int × Int × (List S69) → Option ((Int × Int × (List S69)) ⊕ ((Int × (List S69))))
  | (v1, v5, r94304) =>
  let x8 := (decide (v5 < ((List.length r94304) : Int)))
  cond x8 (
   cond ((decide (0 ≤ v5)) && x8) (
    let x10 := (List.getD r94304 (Int.toNat v5) z69)
    let x5 := (List.set r94304 (Int.toNat v5) (⟨v1, x10.f1, x10.f2, x10.f3⟩ : S69))
    cond ((decide (0 ≤ v5)) && (decide (v5 < ((List.length x5) : Int)))) (
     let x4 := (List.getD x5 (Int.toNat v5) z69)
     let x9 := (Go.IntKind.wrap (Go.IntKind.i64 ) (v1 + 1))
     let x3 := (List.set x5 (Int.toNat v5) (⟨x4.f0, x9, x4.f2, x4.f3⟩ : S69))
     cond ((decide (0 ≤ v5)) && (decide (v5 < ((List.length x3) : Int)))) (
      let x2 := (List.getD x3 (Int.toNat v5) z69)
      let x7 := (Go.IntKind.wrap (Go.IntKind.i64 ) (x9 + 1))
      let x1 := (List.set x3 (Int.toNat v5) (⟨x2.f0, x2.f1, x7, x2.f3⟩ : S69))
      cond ((decide (0 ≤ v5)) && (decide (v5 < ((List.length x1) : Int)))) (
       let x0 := (List.getD x1 (Int.toNat v5) z69)
       let x6 := (Go.IntKind.wrap (Go.IntKind.i64 ) (x7 + 1))
       some (.inl ((Go.IntKind.wrap (Go.IntKind.i64 ) (x6 + 1)), (Go.IntKind.wrap (Go.IntKind.i64 ) (v5 + 1)), (List.set x1 (Int.toNat v5) (⟨x0.f0, x0.f1, x0.f2, x6⟩ : S69))))) none) none) none) none) (
   some (.inr (v1, r94304)))
noncomputable def l0 (x : Int × Int × (List S69)) : Option ((Int × (List S69))) := lim l0.b x
theorem l0.eq : ∀ x, l0.b x = roundX (mkE tab es 41 [] []) (loopAt 0 code) (cutOf l0.A l0.c) (cutsOf l0.xs l0.y) x := fun x => by kernel_rfl
theorem l0.owed {R : Type} : owed (mkE (R := R) tab es 41 [] []) (loopAt 0 code) = [] := by kernel_rfl
theorem l0.ok (w0 : World) (M : Own) (h : Pinned M [4194304]) {R : Type} : SoundO prog w0 M 41 (.block 0 (.loop (loopAt 0 code))) (loopO (R := R) 0 (cutOf l0.A l0.c) (cutsOf l0.xs l0.y) l0) :=
  loop_ok tabOk uniOk mixed l0.eq (h.sub rfl) (h.sub rfl) fun x hx => by rw [l0.owed] at hx; exact absurd hx List.not_mem_nil

noncomputable def F : ((List S69) × Int) → Option ((Int × ((List S69) × Unit)))
  | (p0, p1) =>
  (l0 (p1, 0, p0)).bind fun yl0 =>
  some (yl0.1, (yl0.2, ()))
theorem F.eq : ∀ x, F x = runF (mkE tab es 41 [(0, some (loopO 0 (cutOf l0.A l0.c) (cutsOf l0.xs l0.y) l0))] []) code [.row 6 1, .sc] [.sc] [.tmp 4] (Coz.dec cr) (cp.enc x) := fun x => by kernel_rfl
theorem F.owed : owed (mkE (R := (Int × ((List S69) × Unit))) tab es 41 [(0, some (loopO 0 (cutOf l0.A l0.c) (cutsOf l0.xs l0.y) l0))] []) code = [((.block 0 (.loop (loopAt 0 code))), (loopO (R := _) 0 (cutOf l0.A l0.c) (cutsOf l0.xs l0.y) l0))] := by kernel_rfl
theorem con : ∀ x y, F x = some y → Con prog 44 [.row 6 1, .sc] [.sc] (cp.enc x) (cr.enc y).1 (cr.enc y).2 :=
  func_ok (c := code) (n := 41) (pf := [.row 6 1, .sc]) (res := [.tmp 4]) tabOk uniOk mixed get (by kernel_rfl) (by kernel_rfl) (by kernel_rfl) (by decide) F.eq fun w0 M h x hx => by rw [F.owed] at hx; rcases List.mem_cons.1 hx with rfl | hx; exact l0.ok w0 M h; exact absurd hx List.not_mem_nil
noncomputable def ent : Ent prog uni := Ent.of 44 [.row 6 1, .sc] [.sc] cp cr F con fun args w => enters_of get (by kernel_rfl) rfl args w
end Go.Proofs.YtchohkelpjfpcaaDoor.AX.F44

/- The function 18 of the program in the small machine. No conditions. -/
namespace Go.Proofs.YtchohkelpjfpcaaDoor.AX.F18
open Go Go.Proofs.Tryd
noncomputable def code : Code := bodyOf f18
abbrev Y : Type := (Int × ((List S54) × Unit))
def cp : Cod uni ((List S54) × Int) := (codC (iRow 2) (cod1 (iInt .i64)))
def cr : Coz uni (Int × ((List S54) × Unit)) := (cozRM (cod1 (iInt .i64)) (codC (iRow 2) (codD cod0)))
noncomputable def es : List (Ent prog uni) := [F43.ent, F44.ent]
theorem get : prog.funcs[18]? = some f18 := by kernel_rfl

def l0.A : Ann := ⟨[(0, .slc 4194304 []), (1, .sc), (5, .sc)], [], [(4194304, true, 2)], [4194304]⟩
def l0.c : Cod uni (Int × Int × (List S54)) := (codC (iInt .i64) (codC (iInt .i64) (cod1 (iRow 2))))
def l0.xs : List (AExit × Ann) := [((.exit 0), ⟨[(0, .slc 4194304 []), (1, .sc)], [], [(4194304, true, 2)], [4194304]⟩)]
def l0.y : Coy uni ((Int × (List S54))) := (coy1 (codC (iInt .i64) (cod1 (iRow 2))))
noncomputable def l0.b : Int × Int × (List S54) → Option ((Int × Int × (List S54)) ⊕ ((Int × (List S54))))
  | (v1, v5, r94304) =>
  let x4 := (decide (v5 < ((List.length r94304) : Int)))
  cond x4 (
   (F43.F v1).bind fun y43 =>
   cond ((decide (0 ≤ v5)) && x4) (
    let x6 := (List.getD r94304 (Int.toNat v5) z54)
    let x3 := (List.set r94304 (Int.toNat v5) (⟨y43, x6.f1, x6.f2⟩ : S54))
    cond ((decide (0 ≤ v5)) && (decide (v5 < ((List.length x3) : Int)))) (
     let x2 := (List.getD x3 (Int.toNat v5) z54)
     let x5 := (Go.IntKind.wrap (Go.IntKind.i64 ) (v1 + 1))
     let x1 := (List.set x3 (Int.toNat v5) (⟨x2.f0, x5, x2.f2⟩ : S54))
     cond ((decide (0 ≤ v5)) && (decide (v5 < ((List.length x1) : Int)))) (
      let x0 := (List.getD x1 (Int.toNat v5) z54)
      (F44.F (x0.f2, (Go.IntKind.wrap (Go.IntKind.i64 ) (x5 + 1)))).bind fun y44 =>
      some (.inl (y44.1, (Go.IntKind.wrap (Go.IntKind.i64 ) (v5 + 1)), (List.set x1 (Int.toNat v5) (⟨x0.f0, x0.f1, y44.2.1⟩ : S54))))) none) none) none) (
   some (.inr (v1, r94304)))
noncomputable def l0 (x : Int × Int × (List S54)) : Option ((Int × (List S54))) := lim l0.b x
theorem l0.eq : ∀ x, l0.b x = roundX (mkE tab es 35 [] []) (loopAt 0 code) (cutOf l0.A l0.c) (cutsOf l0.xs l0.y) x := fun x => by kernel_rfl
theorem l0.owed {R : Type} : owed (mkE (R := R) tab es 35 [] []) (loopAt 0 code) = [] := by kernel_rfl
theorem l0.ok (w0 : World) (M : Own) (h : Pinned M [4194304]) {R : Type} : SoundO prog w0 M 35 (.block 0 (.loop (loopAt 0 code))) (loopO (R := R) 0 (cutOf l0.A l0.c) (cutsOf l0.xs l0.y) l0) :=
  loop_ok tabOk uniOk mixed l0.eq (h.sub rfl) (h.sub rfl) fun x hx => by rw [l0.owed] at hx; exact absurd hx List.not_mem_nil

noncomputable def F : ((List S54) × Int) → Option ((Int × ((List S54) × Unit)))
  | (p0, p1) =>
  (l0 (p1, 0, p0)).bind fun yl0 =>
  some (yl0.1, (yl0.2, ()))
theorem F.eq : ∀ x, F x = runF (mkE tab es 35 [(0, some (loopO 0 (cutOf l0.A l0.c) (cutsOf l0.xs l0.y) l0))] []) code [.row 2 1, .sc] [.sc] [.tmp 4] (Coz.dec cr) (cp.enc x) := fun x => by kernel_rfl
theorem F.owed : owed (mkE (R := (Int × ((List S54) × Unit))) tab es 35 [(0, some (loopO 0 (cutOf l0.A l0.c) (cutsOf l0.xs l0.y) l0))] []) code = [((.block 0 (.loop (loopAt 0 code))), (loopO (R := _) 0 (cutOf l0.A l0.c) (cutsOf l0.xs l0.y) l0))] := by kernel_rfl
theorem con : ∀ x y, F x = some y → Con prog 18 [.row 2 1, .sc] [.sc] (cp.enc x) (cr.enc y).1 (cr.enc y).2 :=
  func_ok (c := code) (n := 35) (pf := [.row 2 1, .sc]) (res := [.tmp 4]) tabOk uniOk mixed get (by kernel_rfl) (by kernel_rfl) (by kernel_rfl) (by decide) F.eq fun w0 M h x hx => by rw [F.owed] at hx; rcases List.mem_cons.1 hx with rfl | hx; exact l0.ok w0 M h; exact absurd hx List.not_mem_nil
noncomputable def ent : Ent prog uni := Ent.of 18 [.row 2 1, .sc] [.sc] cp cr F con fun args w => enters_of get (by kernel_rfl) rfl args w
end Go.Proofs.YtchohkelpjfpcaaDoor.AX.F18

/- The function 19 of the program in the small machine. No conditions. -/
namespace Go.Proofs.YtchohkelpjfpcaaDoor.AX.F19
open Go Go.Proofs.Tryd
noncomputable def code : Code := bodyOf f19
abbrev Y : Type := (Int × ((List S56) × Unit))
def cp : Cod uni ((List S56) × Int) := (codC (iRow 3) (cod1 (iInt .i64)))
def cr : Coz uni (Int × ((List S56) × Unit)) := (cozRM (cod1 (iInt .i64)) (codC (iRow 3) (codD cod0)))
noncomputable def es : List (Ent prog uni) := []
theorem get : prog.funcs[19]? = some f19 := by kernel_rfl

def l0.A : Ann := ⟨[(0, .slc 4194304 []), (1, .sc), (5, .sc)], [], [(4194304, true, 3)], [4194304]⟩
def l0.c : Cod uni (Int × Int × (List S56)) := (codC (iInt .i64) (codC (iInt .i64) (cod1 (iRow 3))))
def l0.xs : List (AExit × Ann) := [((.exit 0), ⟨[(0, .slc 4194304 []), (1, .sc)], [], [(4194304, true, 3)], [4194304]⟩)]
def l0.y : Coy uni ((Int × (List S56))) := (coy1 (codC (iInt .i64) (cod1 (iRow 3))))
noncomputable def l0.b : Int × Int × (List S56) → Option ((Int × Int × (List S56)) ⊕ ((Int × (List S56))))
  | (v1, v5, r94304) =>
  let x14 := (decide (v5 < ((List.length r94304) : Int)))
  cond x14 (
   cond ((decide (0 ≤ v5)) && x14) (
    let x16 := (List.getD r94304 (Int.toNat v5) z56)
    let x9 := (List.set r94304 (Int.toNat v5) (⟨v1, x16.f1, x16.f2, x16.f3, x16.f4, x16.f5⟩ : S56))
    cond ((decide (0 ≤ v5)) && (decide (v5 < ((List.length x9) : Int)))) (
     let x8 := (List.getD x9 (Int.toNat v5) z56)
     let x15 := (Go.IntKind.wrap (Go.IntKind.i64 ) (v1 + 1))
     let x7 := (List.set x9 (Int.toNat v5) (⟨x8.f0, x15, x8.f2, x8.f3, x8.f4, x8.f5⟩ : S56))
     cond ((decide (0 ≤ v5)) && (decide (v5 < ((List.length x7) : Int)))) (
      let x6 := (List.getD x7 (Int.toNat v5) z56)
      let x13 := (Go.IntKind.wrap (Go.IntKind.i64 ) (x15 + 1))
      let x5 := (List.set x7 (Int.toNat v5) (⟨x6.f0, x6.f1, x13, x6.f3, x6.f4, x6.f5⟩ : S56))
      cond ((decide (0 ≤ v5)) && (decide (v5 < ((List.length x5) : Int)))) (
       let x4 := (List.getD x5 (Int.toNat v5) z56)
       let x12 := (Go.IntKind.wrap (Go.IntKind.i64 ) (x13 + 1))
       let x3 := (List.set x5 (Int.toNat v5) (⟨x4.f0, x4.f1, x4.f2, x12, x4.f4, x4.f5⟩ : S56))
       cond ((decide (0 ≤ v5)) && (decide (v5 < ((List.length x3) : Int)))) (
        let x2 := (List.getD x3 (Int.toNat v5) z56)
        let x11 := (Go.IntKind.wrap (Go.IntKind.i64 ) (x12 + 1))
        let x1 := (List.set x3 (Int.toNat v5) (⟨x2.f0, x2.f1, x2.f2, x2.f3, x11, x2.f5⟩ : S56))
        cond ((decide (0 ≤ v5)) && (decide (v5 < ((List.length x1) : Int)))) (
         let x0 := (List.getD x1 (Int.toNat v5) z56)
         let x10 := (Go.IntKind.wrap (Go.IntKind.i64 ) (x11 + 1))
         some (.inl ((Go.IntKind.wrap (Go.IntKind.i64 ) (x10 + 1)), (Go.IntKind.wrap (Go.IntKind.i64 ) (v5 + 1)), (List.set x1 (Int.toNat v5) (⟨x0.f0, x0.f1, x0.f2, x0.f3, x0.f4, ((Int.tmod x10 3) == 0)⟩ : S56))))) none) none) none) none) none) none) (
   some (.inr (v1, r94304)))
noncomputable def l0 (x : Int × Int × (List S56)) : Option ((Int × (List S56))) := lim l0.b x
theorem l0.eq : ∀ x, l0.b x = roundX (mkE tab es 57 [] []) (loopAt 0 code) (cutOf l0.A l0.c) (cutsOf l0.xs l0.y) x := fun x => by kernel_rfl
theorem l0.owed {R : Type} : owed (mkE (R := R) tab es 57 [] []) (loopAt 0 code) = [] := by kernel_rfl
theorem l0.ok (w0 : World) (M : Own) (h : Pinned M [4194304]) {R : Type} : SoundO prog w0 M 57 (.block 0 (.loop (loopAt 0 code))) (loopO (R := R) 0 (cutOf l0.A l0.c) (cutsOf l0.xs l0.y) l0) :=
  loop_ok tabOk uniOk mixed l0.eq (h.sub rfl) (h.sub rfl) fun x hx => by rw [l0.owed] at hx; exact absurd hx List.not_mem_nil

noncomputable def F : ((List S56) × Int) → Option ((Int × ((List S56) × Unit)))
  | (p0, p1) =>
  (l0 (p1, 0, p0)).bind fun yl0 =>
  some (yl0.1, (yl0.2, ()))
theorem F.eq : ∀ x, F x = runF (mkE tab es 57 [(0, some (loopO 0 (cutOf l0.A l0.c) (cutsOf l0.xs l0.y) l0))] []) code [.row 3 1, .sc] [.sc] [.tmp 4] (Coz.dec cr) (cp.enc x) := fun x => by kernel_rfl
theorem F.owed : owed (mkE (R := (Int × ((List S56) × Unit))) tab es 57 [(0, some (loopO 0 (cutOf l0.A l0.c) (cutsOf l0.xs l0.y) l0))] []) code = [((.block 0 (.loop (loopAt 0 code))), (loopO (R := _) 0 (cutOf l0.A l0.c) (cutsOf l0.xs l0.y) l0))] := by kernel_rfl
theorem con : ∀ x y, F x = some y → Con prog 19 [.row 3 1, .sc] [.sc] (cp.enc x) (cr.enc y).1 (cr.enc y).2 :=
  func_ok (c := code) (n := 57) (pf := [.row 3 1, .sc]) (res := [.tmp 4]) tabOk uniOk mixed get (by kernel_rfl) (by kernel_rfl) (by kernel_rfl) (by decide) F.eq fun w0 M h x hx => by rw [F.owed] at hx; rcases List.mem_cons.1 hx with rfl | hx; exact l0.ok w0 M h; exact absurd hx List.not_mem_nil
noncomputable def ent : Ent prog uni := Ent.of 19 [.row 3 1, .sc] [.sc] cp cr F con fun args w => enters_of get (by kernel_rfl) rfl args w
end Go.Proofs.YtchohkelpjfpcaaDoor.AX.F19

/- The function 20 of the program in the small machine. No conditions. -/
namespace Go.Proofs.YtchohkelpjfpcaaDoor.AX.F20
open Go Go.Proofs.Tryd
noncomputable def code : Code := bodyOf f20
abbrev Y : Type := Int
def cp : Cod uni ((List S56) × Int) := (codC (iRow 3) (cod1 (iInt .i64)))
def cr : Coz uni Int := (cozR (cod1 (iInt .i64)) (codD (codD cod0)))
noncomputable def es : List (Ent prog uni) := []
theorem get : prog.funcs[20]? = some f20 := by kernel_rfl

def l0.A : Ann := ⟨[(0, .slc 5000000 []), (1, .sc), (5, .sc)], [], [(5000000, false, 3)], []⟩
def l0.c : Cod uni (Int × Int × (List S56)) := (codC (iInt .i64) (codC (iInt .i64) (cod1 (iRow 3))))
def l0.xs : List (AExit × Ann) := [(.ret, ⟨[(4, .sc)], [], [], []⟩), ((.exit 0), ⟨[(1, .sc)], [], [], []⟩)]
def l0.y : Coy uni (Int ⊕ Int) := (coyS (cod1 (iInt .i64)) (coy1 (cod1 (iInt .i64))))
noncomputable def l0.b : Int × Int × (List S56) → Option ((Int × Int × (List S56)) ⊕ (Int ⊕ Int))
  | (v1, v5, r0) =>
  let x6 := (decide (v5 < ((List.length r0) : Int)))
  cond x6 (
   let x4 := ((decide (0 ≤ v5)) && x6)
   cond x4 (
    let x7 := (List.getD r0 (Int.toNat v5) z56)
    cond (x7.f0 != v1) (
     some (.inr (.inl (-1)))) (
     cond x4 (
      let x5 := (Go.IntKind.wrap (Go.IntKind.i64 ) (v1 + 1))
      cond (x7.f1 != x5) (
       some (.inr (.inl (-1)))) (
       cond x4 (
        let x3 := (Go.IntKind.wrap (Go.IntKind.i64 ) (x5 + 1))
        cond (x7.f2 != x3) (
         some (.inr (.inl (-1)))) (
         cond x4 (
          let x2 := (Go.IntKind.wrap (Go.IntKind.i64 ) (x3 + 1))
          cond (x7.f3 != x2) (
           some (.inr (.inl (-1)))) (
           cond x4 (
            let x1 := (Go.IntKind.wrap (Go.IntKind.i64 ) (x2 + 1))
            cond (x7.f4 != x1) (
             some (.inr (.inl (-1)))) (
             cond x4 (
              let x0 := (Go.IntKind.wrap (Go.IntKind.i64 ) (x1 + 1))
              cond (!(x7.f5 == ((Int.tmod x0 3) == 0))) (
               some (.inr (.inl (-1)))) (
               some (.inl ((Go.IntKind.wrap (Go.IntKind.i64 ) (x0 + 1)), (Go.IntKind.wrap (Go.IntKind.i64 ) (v5 + 1)), r0)))) none)) none)) none)) none)) none)) none) (
   some (.inr (.inr v1)))
noncomputable def l0 (x : Int × Int × (List S56)) : Option (Int ⊕ Int) := lim l0.b x
theorem l0.eq : ∀ x, l0.b x = roundX (mkE tab es 69 [] []) (loopAt 0 code) (cutOf l0.A l0.c) (cutsOf l0.xs l0.y) x := fun x => by kernel_rfl
theorem l0.owed {R : Type} : owed (mkE (R := R) tab es 69 [] []) (loopAt 0 code) = [] := by kernel_rfl
theorem l0.ok (w0 : World) (M : Own) (h : Pinned M []) {R : Type} : SoundO prog w0 M 69 (.block 0 (.loop (loopAt 0 code))) (loopO (R := R) 0 (cutOf l0.A l0.c) (cutsOf l0.xs l0.y) l0) :=
  loop_ok tabOk uniOk mixed l0.eq (h.sub rfl) (h.sub rfl) fun x hx => by rw [l0.owed] at hx; exact absurd hx List.not_mem_nil

noncomputable def F : ((List S56) × Int) → Option (Int)
  | (p0, p1) =>
  (l0 (p1, 0, p0)).bind fun q => match q with
  | (.inl yl0) =>
   some yl0
  | (.inr yl0) =>
   some yl0
theorem F.eq : ∀ x, F x = runF (mkE tab es 69 [(0, some (loopO 0 (cutOf l0.A l0.c) (cutsOf l0.xs l0.y) l0))] []) code [.row 3 0, .sc] [.sc] [.tmp 4] (Coz.dec cr) (cp.enc x) := fun x => by kernel_rfl
theorem F.owed : owed (mkE (R := Int) tab es 69 [(0, some (loopO 0 (cutOf l0.A l0.c) (cutsOf l0.xs l0.y) l0))] []) code = [((.block 0 (.loop (loopAt 0 code))), (loopO (R := _) 0 (cutOf l0.A l0.c) (cutsOf l0.xs l0.y) l0))] := by kernel_rfl
theorem con : ∀ x y, F x = some y → Con prog 20 [.row 3 0, .sc] [.sc] (cp.enc x) (cr.enc y).1 (cr.enc y).2 :=
  func_ok (c := code) (n := 69) (pf := [.row 3 0, .sc]) (res := [.tmp 4]) tabOk uniOk mixed get (by kernel_rfl) (by kernel_rfl) (by kernel_rfl) (by decide) F.eq fun w0 M h x hx => by rw [F.owed] at hx; rcases List.mem_cons.1 hx with rfl | hx; exact l0.ok w0 M h; exact absurd hx List.not_mem_nil
noncomputable def ent : Ent prog uni := Ent.of 20 [.row 3 0, .sc] [.sc] cp cr F con fun args w => enters_of get (by kernel_rfl) rfl args w
end Go.Proofs.YtchohkelpjfpcaaDoor.AX.F20

/- The function 4 of the program in the small machine. No conditions. -/
namespace Go.Proofs.YtchohkelpjfpcaaDoor.AX.F4
open Go Go.Proofs.Tryd
noncomputable def code : Code := bodyOf f4
abbrev Y : Type := Bool
def cp : Cod uni ((Int × Int × Int) × (List S64)) := (codC (iAgg (codC (iInt .i64) (codC (iInt .i64) (cod1 (iInt .i64))))) (cod1 (iRow 0)))
def cr : Coz uni Bool := (cozR (cod1 iBool) (codD (codD cod0)))
noncomputable def es : List (Ent prog uni) := [F7.ent, F10.ent, F11.ent, F16.ent, F17.ent, F15.ent, F14.ent, F18.ent, F19.ent, F20.ent]
theorem get : prog.funcs[4]? = some f4 := by kernel_rfl

noncomputable def F : ((Int × Int × Int) × (List S64)) → Option (Bool)
  | ((p0_0, p0_1, p0_2), p1) =>
  (F7.F (p1, 1048576)).bind fun y7 =>
  cond (decide (y7 < 0)) (
   some true) (
   let x0 := (F10.F (p0_0, (p0_1, p0_2)))
   x0.bind fun y10 =>
   (F11.F p1).bind fun y11 =>
   (F16.F ((y10.1, (y10.2.1, y10.2.2)), y11)).bind fun y16 =>
   (F11.F p1).bind fun y11x2 =>
   x0.bind fun y10x2 =>
   (F17.F ((y10x2.1, (y10x2.2.1, y10x2.2.2)), y11x2)).bind fun y17 =>
   let x1 := (F15.F (y17.1, y16.1))
   x1.bind fun y15 =>
   cond ((!y15) || (y17.2 != y16.2)) (
    some false) (
    (F11.F p1).bind fun y11x3 =>
    (F14.F (y11x2, y11x3)).bind fun y14 =>
    cond (!y14) (
     some false) (
     (F18.F (y11x2, 1)).bind fun y18 =>
     cond (!(decide (y18.1 < 0))) (
      x1.bind fun y15x2 =>
      cond (((decide (y18.1 < 0)) || (!y15x2)) || (y17.2 != y16.2)) (
       some false) (
       (F19.F (y17.1, 1)).bind fun y19 =>
       (F20.F (y19.2.1, 1)).bind fun y20 =>
       cond (decide (y20 < 0)) (
        some false) (
        cond (y20 != y19.1) (
         some false) (
         x0.bind fun y10x3 =>
         (F11.F p1).bind fun y11x4 =>
         (F17.F ((y10x3.1, (y10x3.2.1, y10x3.2.2)), y11x4)).bind fun y17x2 =>
         (F15.F (y17x2.1, y16.1)).bind fun y15x3 =>
         cond ((!y15x3) || (y17x2.2 != y16.2)) (
          some false) (
          (F20.F (y19.2.1, 1)).bind fun y20x2 =>
          cond (decide (y20x2 < 0)) (
           some false) (
           cond (y20x2 != y19.1) (
            some false) (
            some true))))))) (
      cond (((decide (y18.1 < 0)) || true) || (y17.2 != y16.2)) (
       some false) (
       (F19.F (y17.1, 1)).bind fun y19 =>
       (F20.F (y19.2.1, 1)).bind fun y20 =>
       cond (decide (y20 < 0)) (
        some false) (
        cond (y20 != y19.1) (
         some false) (
         x0.bind fun y10x3 =>
         (F11.F p1).bind fun y11x4 =>
         (F17.F ((y10x3.1, (y10x3.2.1, y10x3.2.2)), y11x4)).bind fun y17x2 =>
         (F15.F (y17x2.1, y16.1)).bind fun y15x2 =>
         cond ((!y15x2) || (y17x2.2 != y16.2)) (
          some false) (
          (F20.F (y19.2.1, 1)).bind fun y20x2 =>
          cond (decide (y20x2 < 0)) (
           some false) (
           cond (y20x2 != y19.1) (
            some false) (
            some true))))))))))
theorem F.eq : ∀ x, F x = runF (mkE tab es 104 [] []) code [.agg [.sc, .sc, .sc], .row 0 0] [.sc] [.tmp 4] (Coz.dec cr) (cp.enc x) := fun x => by kernel_rfl
theorem F.owed : owed (mkE (R := Bool) tab es 104 [] []) code = [] := by kernel_rfl
theorem con : ∀ x y, F x = some y → Con prog 4 [.agg [.sc, .sc, .sc], .row 0 0] [.sc] (cp.enc x) (cr.enc y).1 (cr.enc y).2 :=
  func_ok (c := code) (n := 104) (pf := [.agg [.sc, .sc, .sc], .row 0 0]) (res := [.tmp 4]) tabOk uniOk mixed get (by kernel_rfl) (by kernel_rfl) (by kernel_rfl) (by decide) F.eq fun w0 M h x hx => by rw [F.owed] at hx; exact absurd hx List.not_mem_nil
noncomputable def ent : Ent prog uni := Ent.of 4 [.agg [.sc, .sc, .sc], .row 0 0] [.sc] cp cr F con fun args w => enters_of get (by kernel_rfl) rfl args w
end Go.Proofs.YtchohkelpjfpcaaDoor.AX.F4

/- The function 27 of the program in the small machine. No conditions. -/
namespace Go.Proofs.YtchohkelpjfpcaaDoor.AX.F27
open Go Go.Proofs.Tryd
noncomputable def code : Code := bodyOf f27
abbrev Y : Type := ((Int × Int × Int × Int × (List Int)) × Int)
def cp : Cod uni ((Int × Int × Int) × (List S54) × (List S56)) := (codC (iAgg (codC (iInt .i64) (codC (iInt .i64) (cod1 (iInt .i64))))) (codC (iRow 2) (cod1 (iRow 3))))
def cr : Coz uni ((Int × Int × Int × Int × (List Int)) × Int) := (cozR (codC (iAgg (codC (iInt .i64) (codC (iInt .i64) (codC (iInt .i64) (codC (iInt .i64) (cod1 (iRow 5))))))) (cod1 (iInt .i64))) (codD (codD (codD cod0))))
noncomputable def es : List (Ent prog uni) := [F9.ent]
theorem get : prog.funcs[27]? = some f27 := by kernel_rfl

def l0.A : Ann := ⟨[(1, .slc 5000064 []), (2, .slc 5000128 []), (3, .box 5000192 0), (6, .box 5000384 0), (10, .box 5000640 0), (11, .slc 5000704 []), (12, .sc)], [(5000192, 30, [.sc, .sc, .sc]), (5000384, 49, [.sc, .sc, .sc, .sc, .nil]), (5000640, 49, [.sc, .sc, .sc, .sc, .slc 5000654 []])], [(5000064, false, 2), (5000128, false, 3), (5000704, true, 5), (5000654, true, 5)], []⟩
def l0.c : Cod uni (Int × Int × Int × Int × Int × Int × Int × Int × Int × Int × Int × Int × (List S54) × (List S56) × (List Int) × (List Int)) := (codC (iInt .i64) (codC (iInt .i64) (codC (iInt .i64) (codC (iInt .i64) (codC (iInt .i64) (codC (iInt .i64) (codC (iInt .i64) (codC (iInt .i64) (codC (iInt .i64) (codC (iInt .i64) (codC (iInt .i64) (codC (iInt .i64) (codC (iRow 2) (codC (iRow 3) (codC (iRow 5) (cod1 (iRow 5)))))))))))))))))
def l0.xs : List (AExit × Ann) := [((.exit 0), ⟨[(1, .slc 5000064 []), (3, .box 5000192 0), (6, .box 5000384 0), (10, .box 5000640 0), (11, .slc 5000704 [])], [(5000192, 30, [.sc, .sc, .sc]), (5000384, 49, [.sc, .sc, .sc, .sc, .nil]), (5000640, 49, [.sc, .sc, .sc, .sc, .slc 5000654 []])], [(5000064, false, 2), (5000704, true, 5), (5000654, true, 5)], []⟩)]
def l0.y : Coy uni ((Int × Int × Int × Int × Int × Int × Int × Int × Int × Int × Int × (List S54) × (List Int) × (List Int))) := (coy1 (codC (iInt .i64) (codC (iInt .i64) (codC (iInt .i64) (codC (iInt .i64) (codC (iInt .i64) (codC (iInt .i64) (codC (iInt .i64) (codC (iInt .i64) (codC (iInt .i64) (codC (iInt .i64) (codC (iInt .i64) (codC (iRow 2) (codC (iRow 5) (cod1 (iRow 5))))))))))))))))
noncomputable def l0.b : Int × Int × Int × Int × Int × Int × Int × Int × Int × Int × Int × Int × (List S54) × (List S56) × (List Int) × (List Int) → Option ((Int × Int × Int × Int × Int × Int × Int × Int × Int × Int × Int × Int × (List S54) × (List S56) × (List Int) × (List Int)) ⊕ ((Int × Int × Int × Int × Int × Int × Int × Int × Int × Int × Int × (List S54) × (List Int) × (List Int))))
  | (v12, b192_0, b192_1, b192_2, b384_0, b384_1, b384_2, b384_3, b640_0, b640_1, b640_2, b640_3, r64, r128, r704, r654) =>
  let x9 := (decide (v12 < ((List.length r128) : Int)))
  cond x9 (
   cond ((decide (0 ≤ v12)) && x9) (
    let x10 := (List.getD r128 (Int.toNat v12) z56)
    let x2 := ((decide (0 ≤ x10.f2)) && (decide (x10.f2 < ((List.length r654) : Int))))
    cond x2 (
     cond x2 (
      let x3 := ((decide (0 ≤ x10.f0)) && (decide (x10.f0 < ((List.length r704) : Int))))
      cond x3 (
       cond x3 (
        let x6 := (Int.toNat x10.f0)
        let x5 := (List.getD r704 x6 0)
        let x0 := (List.set r704 x6 (if (x10.f4 > x5) then x10.f4 else x5))
        let x7 := (Int.toNat x10.f2)
        let x1 := (List.set r654 x7 (Go.IntKind.wrap (Go.IntKind.i64 ) ((List.getD r654 x7 0) + (Go.IntKind.wrap (Go.IntKind.i64 ) (x10.f4 - x10.f3)))))
        let x4 := (if (x10.f4 > b640_0) then x10.f4 else b640_0)
        let x8 := (Go.IntKind.wrap (Go.IntKind.i64 ) (v12 + 1))
        cond x10.f5 (
         some (.inl (x8, b192_0, b192_1, b192_2, b384_0, b384_1, b384_2, b384_3, x4, b640_1, b640_2, (Go.IntKind.wrap (Go.IntKind.i64 ) (b640_3 + 1)), r64, r128, x0, x1))) (
         some (.inl (x8, b192_0, b192_1, b192_2, b384_0, b384_1, b384_2, b384_3, x4, b640_1, b640_2, b640_3, r64, r128, x0, x1)))) none) none) none) none) none) (
   some (.inr (b192_0, b192_1, b192_2, b384_0, b384_1, b384_2, b384_3, b640_0, b640_1, b640_2, b640_3, r64, r704, r654)))
noncomputable def l0 (x : Int × Int × Int × Int × Int × Int × Int × Int × Int × Int × Int × Int × (List S54) × (List S56) × (List Int) × (List Int)) : Option ((Int × Int × Int × Int × Int × Int × Int × Int × Int × Int × Int × (List S54) × (List Int) × (List Int))) := lim l0.b x
theorem l0.eq : ∀ x, l0.b x = roundX (mkE tab es 108 [] []) (loopAt 0 code) (cutOf l0.A l0.c) (cutsOf l0.xs l0.y) x := fun x => by kernel_rfl
theorem l0.owed {R : Type} : owed (mkE (R := R) tab es 108 [] []) (loopAt 0 code) = [] := by kernel_rfl
theorem l0.ok (w0 : World) (M : Own) (h : Pinned M []) {R : Type} : SoundO prog w0 M 108 (.block 0 (.loop (loopAt 0 code))) (loopO (R := R) 0 (cutOf l0.A l0.c) (cutsOf l0.xs l0.y) l0) :=
  loop_ok tabOk uniOk mixed l0.eq (h.sub rfl) (h.sub rfl) fun x hx => by rw [l0.owed] at hx; exact absurd hx List.not_mem_nil

def l2.A : Ann := ⟨[(1, .slc 5000064 []), (6, .box 5000384 0), (10, .box 5000640 0), (11, .slc 5000704 []), (14, .sc)], [(5000384, 49, [.sc, .sc, .sc, .sc, .nil]), (5000640, 49, [.sc, .sc, .sc, .sc, .slc 5000654 []])], [(5000064, false, 2), (5000704, true, 5), (5000654, true, 5)], []⟩
def l2.c : Cod uni (Int × Int × Int × Int × Int × Int × Int × Int × Int × (List S54) × (List Int) × (List Int)) := (codC (iInt .i64) (codC (iInt .i64) (codC (iInt .i64) (codC (iInt .i64) (codC (iInt .i64) (codC (iInt .i64) (codC (iInt .i64) (codC (iInt .i64) (codC (iInt .i64) (codC (iRow 2) (codC (iRow 5) (cod1 (iRow 5)))))))))))))
def l2.xs : List (AExit × Ann) := [((.exit 2), ⟨[(6, .box 5000384 0), (10, .box 5000640 0)], [(5000384, 49, [.sc, .sc, .sc, .sc, .nil]), (5000640, 49, [.sc, .sc, .sc, .sc, .slc 5000654 []])], [(5000654, true, 5)], []⟩)]
def l2.y : Coy uni ((Int × Int × Int × Int × Int × Int × Int × Int × (List Int))) := (coy1 (codC (iInt .i64) (codC (iInt .i64) (codC (iInt .i64) (codC (iInt .i64) (codC (iInt .i64) (codC (iInt .i64) (codC (iInt .i64) (codC (iInt .i64) (cod1 (iRow 5)))))))))))
noncomputable def l2.b : Int × Int × Int × Int × Int × Int × Int × Int × Int × (List S54) × (List Int) × (List Int) → Option ((Int × Int × Int × Int × Int × Int × Int × Int × Int × (List S54) × (List Int) × (List Int)) ⊕ ((Int × Int × Int × Int × Int × Int × Int × Int × (List Int))))
  | (v14, b384_0, b384_1, b384_2, b384_3, b640_0, b640_1, b640_2, b640_3, r64, r704, r654) =>
  let x1 := (decide (v14 < ((List.length r64) : Int)))
  cond x1 (
   cond ((decide (0 ≤ v14)) && (decide (v14 < ((List.length r704) : Int)))) (
    cond ((decide (0 ≤ v14)) && x1) (
     let x0 := (Go.IntKind.wrap (Go.IntKind.i64 ) ((List.getD r704 (Int.toNat v14) 0) - (List.getD r64 (Int.toNat v14) z54).f1))
     some (.inl ((Go.IntKind.wrap (Go.IntKind.i64 ) (v14 + 1)), b384_0, b384_1, b384_2, b384_3, b640_0, (Go.IntKind.wrap (Go.IntKind.i64 ) (b640_1 + (if (0 > x0) then 0 else x0))), b640_2, b640_3, r64, r704, r654))) none) none) (
   some (.inr (b384_0, b384_1, b384_2, b384_3, b640_0, b640_1, b640_2, b640_3, r654)))
noncomputable def l2 (x : Int × Int × Int × Int × Int × Int × Int × Int × Int × (List S54) × (List Int) × (List Int)) : Option ((Int × Int × Int × Int × Int × Int × Int × Int × (List Int))) := lim l2.b x
theorem l2.eq : ∀ x, l2.b x = roundX (mkE tab es 108 [] []) (loopAt 2 code) (cutOf l2.A l2.c) (cutsOf l2.xs l2.y) x := fun x => by kernel_rfl
theorem l2.owed {R : Type} : owed (mkE (R := R) tab es 108 [] []) (loopAt 2 code) = [] := by kernel_rfl
theorem l2.ok (w0 : World) (M : Own) (h : Pinned M []) {R : Type} : SoundO prog w0 M 108 (.block 2 (.loop (loopAt 2 code))) (loopO (R := R) 2 (cutOf l2.A l2.c) (cutsOf l2.xs l2.y) l2) :=
  loop_ok tabOk uniOk mixed l2.eq (h.sub rfl) (h.sub rfl) fun x hx => by rw [l2.owed] at hx; exact absurd hx List.not_mem_nil

noncomputable def F : ((Int × Int × Int) × (List S54) × (List S56)) → Option (((Int × Int × Int × Int × (List Int)) × Int))
  | ((p0_0, p0_1, p0_2), p1, p2) =>
  (F9.F ((p0_0, (p0_1, p0_2)), (p1, p2))).bind fun y9 =>
  cond (y9.1 != 0) (
   some ((0, (0, (0, (0, ([] : List Int))))), y9.1)) (
   cond (((decide (0 ≤ p0_0)) && (decide (p0_0 ≤ p0_0))) && (decide (p0_0 ≤ 274877906944))) (
    let x0 := ((List.length p1) : Int)
    cond (((decide (0 ≤ x0)) && (decide (x0 ≤ x0))) && (decide (x0 ≤ 274877906944))) (
     (l0 (0, p0_0, p0_1, p0_2, 0, 0, 0, 0, 0, 0, 0, 0, p1, p2, (List.replicate (Int.toNat x0) 0), (List.replicate (Int.toNat p0_0) 0))).bind fun yl0 =>
     (l2 (0, yl0.2.2.2.1, yl0.2.2.2.2.1, yl0.2.2.2.2.2.1, yl0.2.2.2.2.2.2.1, yl0.2.2.2.2.2.2.2.1, yl0.2.2.2.2.2.2.2.2.1, (Go.IntKind.wrap (Go.IntKind.i64 ) (yl0.2.2.2.2.2.2.2.2.2.2.1 * yl0.2.1)), yl0.2.2.2.2.2.2.2.2.2.2.1, yl0.2.2.2.2.2.2.2.2.2.2.2.1, yl0.2.2.2.2.2.2.2.2.2.2.2.2.1, yl0.2.2.2.2.2.2.2.2.2.2.2.2.2)).bind fun yl2 =>
     some ((yl2.2.2.2.2.1, (yl2.2.2.2.2.2.1, (yl2.2.2.2.2.2.2.1, (yl2.2.2.2.2.2.2.2.1, yl2.2.2.2.2.2.2.2.2)))), 0)) none) none)
theorem F.eq : ∀ x, F x = runF (mkE tab es 108 [(0, some (loopO 0 (cutOf l0.A l0.c) (cutsOf l0.xs l0.y) l0)), (2, some (loopO 2 (cutOf l2.A l2.c) (cutsOf l2.xs l2.y) l2))] []) code [.agg [.sc, .sc, .sc], .row 2 0, .row 3 0] [.agg [.sc, .sc, .sc, .sc, .row 5], .sc] [.cell 6 49, .tmp 7] (Coz.dec cr) (cp.enc x) := fun x => by kernel_rfl
theorem F.owed : owed (mkE (R := ((Int × Int × Int × Int × (List Int)) × Int)) tab es 108 [(0, some (loopO 0 (cutOf l0.A l0.c) (cutsOf l0.xs l0.y) l0)), (2, some (loopO 2 (cutOf l2.A l2.c) (cutsOf l2.xs l2.y) l2))] []) code = [((.block 0 (.loop (loopAt 0 code))), (loopO (R := _) 0 (cutOf l0.A l0.c) (cutsOf l0.xs l0.y) l0)), ((.block 2 (.loop (loopAt 2 code))), (loopO (R := _) 2 (cutOf l2.A l2.c) (cutsOf l2.xs l2.y) l2))] := by kernel_rfl
theorem con : ∀ x y, F x = some y → Con prog 27 [.agg [.sc, .sc, .sc], .row 2 0, .row 3 0] [.agg [.sc, .sc, .sc, .sc, .row 5], .sc] (cp.enc x) (cr.enc y).1 (cr.enc y).2 :=
  func_ok (c := code) (n := 108) (pf := [.agg [.sc, .sc, .sc], .row 2 0, .row 3 0]) (res := [.cell 6 49, .tmp 7]) tabOk uniOk mixed get (by kernel_rfl) (by kernel_rfl) (by kernel_rfl) (by decide) F.eq fun w0 M h x hx => by rw [F.owed] at hx; rcases List.mem_cons.1 hx with rfl | hx; exact l0.ok w0 M h; rcases List.mem_cons.1 hx with rfl | hx; exact l2.ok w0 M h; exact absurd hx List.not_mem_nil
noncomputable def ent : Ent prog uni := Ent.of 27 [.agg [.sc, .sc, .sc], .row 2 0, .row 3 0] [.agg [.sc, .sc, .sc, .sc, .row 5], .sc] cp cr F con fun args w => enters_of get (by kernel_rfl) rfl args w
end Go.Proofs.YtchohkelpjfpcaaDoor.AX.F27

/- The function 47 of the program in the small machine. No conditions. -/
namespace Go.Proofs.YtchohkelpjfpcaaDoor.AX.F47
open Go Go.Proofs.Tryd
noncomputable def code : Code := bodyOf f47
abbrev Y : Type := Bool
def cp : Cod uni ((List Int) × (List Int)) := (codC (iRow 5) (cod1 (iRow 5)))
def cr : Coz uni Bool := (cozR (cod1 iBool) (codD (codD cod0)))
noncomputable def es : List (Ent prog uni) := []
theorem get : prog.funcs[47]? = some f47 := by kernel_rfl

def l0.A : Ann := ⟨[(0, .slc 5000000 []), (1, .slc 5000064 []), (5, .sc)], [], [(5000000, false, 5), (5000064, false, 5)], []⟩
def l0.c : Cod uni (Int × (List Int) × (List Int)) := (codC (iInt .i64) (codC (iRow 5) (cod1 (iRow 5))))
def l0.xs : List (AExit × Ann) := [(.ret, ⟨[(4, .sc)], [], [], []⟩), ((.exit 0), ⟨[], [], [], []⟩)]
def l0.y : Coy uni (Bool ⊕ Unit) := (coyS (cod1 iBool) (coy1 cod0))
noncomputable def l0.b : Int × (List Int) × (List Int) → Option ((Int × (List Int) × (List Int)) ⊕ (Bool ⊕ Unit))
  | (v5, r0, r64) =>
  let x0 := (decide (v5 < ((List.length r0) : Int)))
  cond x0 (
   cond ((decide (0 ≤ v5)) && x0) (
    cond ((decide (0 ≤ v5)) && (decide (v5 < ((List.length r64) : Int)))) (
     cond ((List.getD r0 (Int.toNat v5) 0) != (List.getD r64 (Int.toNat v5) 0)) (
      some (.inr (.inl false))) (
      some (.inl ((Go.IntKind.wrap (Go.IntKind.i64 ) (v5 + 1)), r0, r64)))) none) none) (
   some (.inr (.inr ())))
noncomputable def l0 (x : Int × (List Int) × (List Int)) : Option (Bool ⊕ Unit) := lim l0.b x
theorem l0.eq : ∀ x, l0.b x = roundX (mkE tab es 26 [] []) (loopAt 0 code) (cutOf l0.A l0.c) (cutsOf l0.xs l0.y) x := fun x => by kernel_rfl
theorem l0.owed {R : Type} : owed (mkE (R := R) tab es 26 [] []) (loopAt 0 code) = [] := by kernel_rfl
theorem l0.ok (w0 : World) (M : Own) (h : Pinned M []) {R : Type} : SoundO prog w0 M 26 (.block 0 (.loop (loopAt 0 code))) (loopO (R := R) 0 (cutOf l0.A l0.c) (cutsOf l0.xs l0.y) l0) :=
  loop_ok tabOk uniOk mixed l0.eq (h.sub rfl) (h.sub rfl) fun x hx => by rw [l0.owed] at hx; exact absurd hx List.not_mem_nil

noncomputable def F : ((List Int) × (List Int)) → Option (Bool)
  | (p0, p1) =>
  cond (((List.length p0) : Int) != ((List.length p1) : Int)) (
   some false) (
   (l0 (0, p0, p1)).bind fun q => match q with
   | (.inl yl0) =>
    some yl0
   | (.inr yl0) =>
    some true)
theorem F.eq : ∀ x, F x = runF (mkE tab es 26 [(0, some (loopO 0 (cutOf l0.A l0.c) (cutsOf l0.xs l0.y) l0))] []) code [.row 5 0, .row 5 0] [.sc] [.tmp 4] (Coz.dec cr) (cp.enc x) := fun x => by kernel_rfl
theorem F.owed : owed (mkE (R := Bool) tab es 26 [(0, some (loopO 0 (cutOf l0.A l0.c) (cutsOf l0.xs l0.y) l0))] []) code = [((.block 0 (.loop (loopAt 0 code))), (loopO (R := _) 0 (cutOf l0.A l0.c) (cutsOf l0.xs l0.y) l0))] := by kernel_rfl
theorem con : ∀ x y, F x = some y → Con prog 47 [.row 5 0, .row 5 0] [.sc] (cp.enc x) (cr.enc y).1 (cr.enc y).2 :=
  func_ok (c := code) (n := 26) (pf := [.row 5 0, .row 5 0]) (res := [.tmp 4]) tabOk uniOk mixed get (by kernel_rfl) (by kernel_rfl) (by kernel_rfl) (by decide) F.eq fun w0 M h x hx => by rw [F.owed] at hx; rcases List.mem_cons.1 hx with rfl | hx; exact l0.ok w0 M h; exact absurd hx List.not_mem_nil
noncomputable def ent : Ent prog uni := Ent.of 47 [.row 5 0, .row 5 0] [.sc] cp cr F con fun args w => enters_of get (by kernel_rfl) rfl args w
end Go.Proofs.YtchohkelpjfpcaaDoor.AX.F47

/- The function 28 of the program in the small machine. No conditions. -/
namespace Go.Proofs.YtchohkelpjfpcaaDoor.AX.F28
open Go Go.Proofs.Tryd
noncomputable def code : Code := bodyOf f28
abbrev Y : Type := Bool
def cp : Cod uni ((Int × Int × Int × Int × (List Int)) × (Int × Int × Int × Int × (List Int))) := (codC (iAgg (codC (iInt .i64) (codC (iInt .i64) (codC (iInt .i64) (codC (iInt .i64) (cod1 (iRow 5))))))) (cod1 (iAgg (codC (iInt .i64) (codC (iInt .i64) (codC (iInt .i64) (codC (iInt .i64) (cod1 (iRow 5)))))))))
def cr : Coz uni Bool := (cozR (cod1 iBool) (codD (codD cod0)))
noncomputable def es : List (Ent prog uni) := [F47.ent]
theorem get : prog.funcs[28]? = some f28 := by kernel_rfl

noncomputable def F : ((Int × Int × Int × Int × (List Int)) × (Int × Int × Int × Int × (List Int))) → Option (Bool)
  | ((p0_0, p0_1, p0_2, p0_3, p0_4), (p1_0, p1_1, p1_2, p1_3, p1_4)) =>
  cond (p0_0 != p1_0) (
   some false) (
   cond (p0_1 != p1_1) (
    some false) (
    cond (p0_2 != p1_2) (
     some false) (
     cond (p0_3 != p1_3) (
      some false) (
      (F47.F (p0_4, p1_4)).bind fun y47 =>
      cond (!y47) (
       some false) (
       some true)))))
theorem F.eq : ∀ x, F x = runF (mkE tab es 31 [] []) code [.agg [.sc, .sc, .sc, .sc, .row 5 0], .agg [.sc, .sc, .sc, .sc, .row 5 0]] [.sc] [.tmp 4] (Coz.dec cr) (cp.enc x) := fun x => by kernel_rfl
theorem F.owed : owed (mkE (R := Bool) tab es 31 [] []) code = [] := by kernel_rfl
theorem con : ∀ x y, F x = some y → Con prog 28 [.agg [.sc, .sc, .sc, .sc, .row 5 0], .agg [.sc, .sc, .sc, .sc, .row 5 0]] [.sc] (cp.enc x) (cr.enc y).1 (cr.enc y).2 :=
  func_ok (c := code) (n := 31) (pf := [.agg [.sc, .sc, .sc, .sc, .row 5 0], .agg [.sc, .sc, .sc, .sc, .row 5 0]]) (res := [.tmp 4]) tabOk uniOk mixed get (by kernel_rfl) (by kernel_rfl) (by kernel_rfl) (by decide) F.eq fun w0 M h x hx => by rw [F.owed] at hx; exact absurd hx List.not_mem_nil
noncomputable def ent : Ent prog uni := Ent.of 28 [.agg [.sc, .sc, .sc, .sc, .row 5 0], .agg [.sc, .sc, .sc, .sc, .row 5 0]] [.sc] cp cr F con fun args w => enters_of get (by kernel_rfl) rfl args w
end Go.Proofs.YtchohkelpjfpcaaDoor.AX.F28

/- The function 48 of the program in the small machine. No conditions. -/
namespace Go.Proofs.YtchohkelpjfpcaaDoor.AX.F48
open Go Go.Proofs.Tryd
noncomputable def code : Code := bodyOf f48
abbrev Y : Type := (Int × ((List Int) × Unit))
def cp : Cod uni ((List Int) × Int) := (codC (iRow 5) (cod1 (iInt .i64)))
def cr : Coz uni (Int × ((List Int) × Unit)) := (cozRM (cod1 (iInt .i64)) (codC (iRow 5) (codD cod0)))
noncomputable def es : List (Ent prog uni) := []
theorem get : prog.funcs[48]? = some f48 := by kernel_rfl

def l0.A : Ann := ⟨[(0, .slc 4194304 []), (1, .sc), (5, .sc)], [], [(4194304, true, 5)], [4194304]⟩
def l0.c : Cod uni (Int × Int × (List Int)) := (codC (iInt .i64) (codC (iInt .i64) (cod1 (iRow 5))))
def l0.xs : List (AExit × Ann) := [((.exit 0), ⟨[(0, .slc 4194304 []), (1, .sc)], [], [(4194304, true, 5)], [4194304]⟩)]
def l0.y : Coy uni ((Int × (List Int))) := (coy1 (codC (iInt .i64) (cod1 (iRow 5))))
noncomputable def l0.b : Int × Int × (List Int) → Option ((Int × Int × (List Int)) ⊕ ((Int × (List Int))))
  | (v1, v5, r94304) =>
  let x0 := (decide (v5 < ((List.length r94304) : Int)))
  cond x0 (
   cond ((decide (0 ≤ v5)) && x0) (
    some (.inl ((Go.IntKind.wrap (Go.IntKind.i64 ) (v1 + 1)), (Go.IntKind.wrap (Go.IntKind.i64 ) (v5 + 1)), (List.set r94304 (Int.toNat v5) v1)))) none) (
   some (.inr (v1, r94304)))
noncomputable def l0 (x : Int × Int × (List Int)) : Option ((Int × (List Int))) := lim l0.b x
theorem l0.eq : ∀ x, l0.b x = roundX (mkE tab es 19 [] []) (loopAt 0 code) (cutOf l0.A l0.c) (cutsOf l0.xs l0.y) x := fun x => by kernel_rfl
theorem l0.owed {R : Type} : owed (mkE (R := R) tab es 19 [] []) (loopAt 0 code) = [] := by kernel_rfl
theorem l0.ok (w0 : World) (M : Own) (h : Pinned M [4194304]) {R : Type} : SoundO prog w0 M 19 (.block 0 (.loop (loopAt 0 code))) (loopO (R := R) 0 (cutOf l0.A l0.c) (cutsOf l0.xs l0.y) l0) :=
  loop_ok tabOk uniOk mixed l0.eq (h.sub rfl) (h.sub rfl) fun x hx => by rw [l0.owed] at hx; exact absurd hx List.not_mem_nil

noncomputable def F : ((List Int) × Int) → Option ((Int × ((List Int) × Unit)))
  | (p0, p1) =>
  (l0 (p1, 0, p0)).bind fun yl0 =>
  some (yl0.1, (yl0.2, ()))
theorem F.eq : ∀ x, F x = runF (mkE tab es 19 [(0, some (loopO 0 (cutOf l0.A l0.c) (cutsOf l0.xs l0.y) l0))] []) code [.row 5 1, .sc] [.sc] [.tmp 4] (Coz.dec cr) (cp.enc x) := fun x => by kernel_rfl
theorem F.owed : owed (mkE (R := (Int × ((List Int) × Unit))) tab es 19 [(0, some (loopO 0 (cutOf l0.A l0.c) (cutsOf l0.xs l0.y) l0))] []) code = [((.block 0 (.loop (loopAt 0 code))), (loopO (R := _) 0 (cutOf l0.A l0.c) (cutsOf l0.xs l0.y) l0))] := by kernel_rfl
theorem con : ∀ x y, F x = some y → Con prog 48 [.row 5 1, .sc] [.sc] (cp.enc x) (cr.enc y).1 (cr.enc y).2 :=
  func_ok (c := code) (n := 19) (pf := [.row 5 1, .sc]) (res := [.tmp 4]) tabOk uniOk mixed get (by kernel_rfl) (by kernel_rfl) (by kernel_rfl) (by decide) F.eq fun w0 M h x hx => by rw [F.owed] at hx; rcases List.mem_cons.1 hx with rfl | hx; exact l0.ok w0 M h; exact absurd hx List.not_mem_nil
noncomputable def ent : Ent prog uni := Ent.of 48 [.row 5 1, .sc] [.sc] cp cr F con fun args w => enters_of get (by kernel_rfl) rfl args w
end Go.Proofs.YtchohkelpjfpcaaDoor.AX.F48

/- The function 29 of the program in the small machine. No conditions. -/
namespace Go.Proofs.YtchohkelpjfpcaaDoor.AX.F29
open Go Go.Proofs.Tryd
noncomputable def code : Code := bodyOf f29
abbrev Y : Type := (Int × ((List Int) × Unit))
def cp : Cod uni ((Int × Int × Int × Int × (List Int)) × Int) := (codC (iAgg (codC (iInt .i64) (codC (iInt .i64) (codC (iInt .i64) (codC (iInt .i64) (cod1 (iRow 5))))))) (cod1 (iInt .i64)))
def cr : Coz uni (Int × ((List Int) × Unit)) := (cozRM (cod1 (iInt .i64)) (codC (iAgg (codD (codD (codD (codD (cod1 (iRow 5))))))) (codD cod0)))
noncomputable def es : List (Ent prog uni) := [F48.ent]
theorem get : prog.funcs[29]? = some f29 := by kernel_rfl

noncomputable def F : ((Int × Int × Int × Int × (List Int)) × Int) → Option ((Int × ((List Int) × Unit)))
  | ((p0_0, p0_1, p0_2, p0_3, p0_4), p1) =>
  (F48.F (p0_4, p1)).bind fun y48 =>
  some (y48.1, (y48.2.1, ()))
theorem F.eq : ∀ x, F x = runF (mkE tab es 10 [] []) code [.agg [.sc, .sc, .sc, .sc, .row 5 1], .sc] [.sc] [.tmp 4] (Coz.dec cr) (cp.enc x) := fun x => by kernel_rfl
theorem F.owed : owed (mkE (R := (Int × ((List Int) × Unit))) tab es 10 [] []) code = [] := by kernel_rfl
theorem con : ∀ x y, F x = some y → Con prog 29 [.agg [.sc, .sc, .sc, .sc, .row 5 1], .sc] [.sc] (cp.enc x) (cr.enc y).1 (cr.enc y).2 :=
  func_ok (c := code) (n := 10) (pf := [.agg [.sc, .sc, .sc, .sc, .row 5 1], .sc]) (res := [.tmp 4]) tabOk uniOk mixed get (by kernel_rfl) (by kernel_rfl) (by kernel_rfl) (by decide) F.eq fun w0 M h x hx => by rw [F.owed] at hx; exact absurd hx List.not_mem_nil
noncomputable def ent : Ent prog uni := Ent.of 29 [.agg [.sc, .sc, .sc, .sc, .row 5 1], .sc] [.sc] cp cr F con fun args w => enters_of get (by kernel_rfl) rfl args w
end Go.Proofs.YtchohkelpjfpcaaDoor.AX.F29

/- The function 49 of the program in the small machine. No conditions. -/
namespace Go.Proofs.YtchohkelpjfpcaaDoor.AX.F49
open Go Go.Proofs.Tryd
noncomputable def code : Code := bodyOf f49
abbrev Y : Type := Int
def cp : Cod uni ((List Int) × Int) := (codC (iRow 5) (cod1 (iInt .i64)))
def cr : Coz uni Int := (cozR (cod1 (iInt .i64)) (codD (codD cod0)))
noncomputable def es : List (Ent prog uni) := []
theorem get : prog.funcs[49]? = some f49 := by kernel_rfl

def l0.A : Ann := ⟨[(0, .slc 5000000 []), (1, .sc), (5, .sc)], [], [(5000000, false, 5)], []⟩
def l0.c : Cod uni (Int × Int × (List Int)) := (codC (iInt .i64) (codC (iInt .i64) (cod1 (iRow 5))))
def l0.xs : List (AExit × Ann) := [(.ret, ⟨[(4, .sc)], [], [], []⟩), ((.exit 0), ⟨[(1, .sc)], [], [], []⟩)]
def l0.y : Coy uni (Int ⊕ Int) := (coyS (cod1 (iInt .i64)) (coy1 (cod1 (iInt .i64))))
noncomputable def l0.b : Int × Int × (List Int) → Option ((Int × Int × (List Int)) ⊕ (Int ⊕ Int))
  | (v1, v5, r0) =>
  let x0 := (decide (v5 < ((List.length r0) : Int)))
  cond x0 (
   cond ((decide (0 ≤ v5)) && x0) (
    cond ((List.getD r0 (Int.toNat v5) 0) != v1) (
     some (.inr (.inl (-1)))) (
     some (.inl ((Go.IntKind.wrap (Go.IntKind.i64 ) (v1 + 1)), (Go.IntKind.wrap (Go.IntKind.i64 ) (v5 + 1)), r0)))) none) (
   some (.inr (.inr v1)))
noncomputable def l0 (x : Int × Int × (List Int)) : Option (Int ⊕ Int) := lim l0.b x
theorem l0.eq : ∀ x, l0.b x = roundX (mkE tab es 21 [] []) (loopAt 0 code) (cutOf l0.A l0.c) (cutsOf l0.xs l0.y) x := fun x => by kernel_rfl
theorem l0.owed {R : Type} : owed (mkE (R := R) tab es 21 [] []) (loopAt 0 code) = [] := by kernel_rfl
theorem l0.ok (w0 : World) (M : Own) (h : Pinned M []) {R : Type} : SoundO prog w0 M 21 (.block 0 (.loop (loopAt 0 code))) (loopO (R := R) 0 (cutOf l0.A l0.c) (cutsOf l0.xs l0.y) l0) :=
  loop_ok tabOk uniOk mixed l0.eq (h.sub rfl) (h.sub rfl) fun x hx => by rw [l0.owed] at hx; exact absurd hx List.not_mem_nil

noncomputable def F : ((List Int) × Int) → Option (Int)
  | (p0, p1) =>
  (l0 (p1, 0, p0)).bind fun q => match q with
  | (.inl yl0) =>
   some yl0
  | (.inr yl0) =>
   some yl0
theorem F.eq : ∀ x, F x = runF (mkE tab es 21 [(0, some (loopO 0 (cutOf l0.A l0.c) (cutsOf l0.xs l0.y) l0))] []) code [.row 5 0, .sc] [.sc] [.tmp 4] (Coz.dec cr) (cp.enc x) := fun x => by kernel_rfl
theorem F.owed : owed (mkE (R := Int) tab es 21 [(0, some (loopO 0 (cutOf l0.A l0.c) (cutsOf l0.xs l0.y) l0))] []) code = [((.block 0 (.loop (loopAt 0 code))), (loopO (R := _) 0 (cutOf l0.A l0.c) (cutsOf l0.xs l0.y) l0))] := by kernel_rfl
theorem con : ∀ x y, F x = some y → Con prog 49 [.row 5 0, .sc] [.sc] (cp.enc x) (cr.enc y).1 (cr.enc y).2 :=
  func_ok (c := code) (n := 21) (pf := [.row 5 0, .sc]) (res := [.tmp 4]) tabOk uniOk mixed get (by kernel_rfl) (by kernel_rfl) (by kernel_rfl) (by decide) F.eq fun w0 M h x hx => by rw [F.owed] at hx; rcases List.mem_cons.1 hx with rfl | hx; exact l0.ok w0 M h; exact absurd hx List.not_mem_nil
noncomputable def ent : Ent prog uni := Ent.of 49 [.row 5 0, .sc] [.sc] cp cr F con fun args w => enters_of get (by kernel_rfl) rfl args w
end Go.Proofs.YtchohkelpjfpcaaDoor.AX.F49

/- The function 30 of the program in the small machine. No conditions. -/
namespace Go.Proofs.YtchohkelpjfpcaaDoor.AX.F30
open Go Go.Proofs.Tryd
noncomputable def code : Code := bodyOf f30
abbrev Y : Type := Int
def cp : Cod uni ((Int × Int × Int × Int × (List Int)) × Int) := (codC (iAgg (codC (iInt .i64) (codC (iInt .i64) (codC (iInt .i64) (codC (iInt .i64) (cod1 (iRow 5))))))) (cod1 (iInt .i64)))
def cr : Coz uni Int := (cozR (cod1 (iInt .i64)) (codD (codD cod0)))
noncomputable def es : List (Ent prog uni) := [F49.ent]
theorem get : prog.funcs[30]? = some f30 := by kernel_rfl

noncomputable def F : ((Int × Int × Int × Int × (List Int)) × Int) → Option (Int)
  | ((p0_0, p0_1, p0_2, p0_3, p0_4), p1) =>
  (F49.F (p0_4, p1)).bind fun y49 =>
  cond (decide (y49 < 0)) (
   some (-1)) (
   some y49)
theorem F.eq : ∀ x, F x = runF (mkE tab es 12 [] []) code [.agg [.sc, .sc, .sc, .sc, .row 5 0], .sc] [.sc] [.tmp 4] (Coz.dec cr) (cp.enc x) := fun x => by kernel_rfl
theorem F.owed : owed (mkE (R := Int) tab es 12 [] []) code = [] := by kernel_rfl
theorem con : ∀ x y, F x = some y → Con prog 30 [.agg [.sc, .sc, .sc, .sc, .row 5 0], .sc] [.sc] (cp.enc x) (cr.enc y).1 (cr.enc y).2 :=
  func_ok (c := code) (n := 12) (pf := [.agg [.sc, .sc, .sc, .sc, .row 5 0], .sc]) (res := [.tmp 4]) tabOk uniOk mixed get (by kernel_rfl) (by kernel_rfl) (by kernel_rfl) (by decide) F.eq fun w0 M h x hx => by rw [F.owed] at hx; exact absurd hx List.not_mem_nil
noncomputable def ent : Ent prog uni := Ent.of 30 [.agg [.sc, .sc, .sc, .sc, .row 5 0], .sc] [.sc] cp cr F con fun args w => enters_of get (by kernel_rfl) rfl args w
end Go.Proofs.YtchohkelpjfpcaaDoor.AX.F30

/- The function 6 of the program in the small machine. No conditions. -/
namespace Go.Proofs.YtchohkelpjfpcaaDoor.AX.F6
open Go Go.Proofs.Tryd
noncomputable def code : Code := bodyOf f6
abbrev Y : Type := Bool
def cp : Cod uni ((Int × Int × Int) × (List S64) × (List S56)) := (codC (iAgg (codC (iInt .i64) (codC (iInt .i64) (cod1 (iInt .i64))))) (codC (iRow 0) (cod1 (iRow 1))))
def cr : Coz uni Bool := (cozR (cod1 iBool) (codD (codD (codD cod0))))
noncomputable def es : List (Ent prog uni) := [F7.ent, F8.ent, F10.ent, F11.ent, F12.ent, F27.ent, F23.ent, F28.ent, F14.ent, F15.ent, F18.ent, F19.ent, F29.ent, F30.ent]
theorem get : prog.funcs[6]? = some f6 := by kernel_rfl

noncomputable def F : ((Int × Int × Int) × (List S64) × (List S56)) → Option (Bool)
  | ((p0_0, p0_1, p0_2), p1, p2) =>
  (F7.F (p1, 1048576)).bind fun y7 =>
  cond (decide (y7 < 0)) (
   some true) (
   (F8.F (p2, y7)).bind fun y8 =>
   cond (decide (y8 < 0)) (
    some true) (
    let x3 := (F10.F (p0_0, (p0_1, p0_2)))
    x3.bind fun y10 =>
    (F11.F p1).bind fun y11 =>
    (F12.F p2).bind fun y12 =>
    (F27.F ((y10.1, (y10.2.1, y10.2.2)), (y11, y12))).bind fun y27 =>
    (F11.F p1).bind fun y11x2 =>
    (F12.F p2).bind fun y12x2 =>
    x3.bind fun y10x2 =>
    (F23.F ((y10x2.1, (y10x2.2.1, y10x2.2.2)), (y11x2, y12x2))).bind fun y23 =>
    let x0 := (F28.F ((y23.1.1, (y23.1.2.1, (y23.1.2.2.1, (y23.1.2.2.2.1, y23.1.2.2.2.2)))), (y27.1.1, (y27.1.2.1, (y27.1.2.2.1, (y27.1.2.2.2.1, y27.1.2.2.2.2))))))
    x0.bind fun y28 =>
    cond ((!y28) || (y23.2 != y27.2)) (
     some false) (
     (F11.F p1).bind fun y11x3 =>
     (F14.F (y11x2, y11x3)).bind fun y14 =>
     cond (!y14) (
      some false) (
      (F12.F p2).bind fun y12x3 =>
      (F15.F (y12x2, y12x3)).bind fun y15 =>
      cond (!y15) (
       some false) (
       (F18.F (y11x2, 1)).bind fun y18 =>
       (F19.F (y12x2, y18.1)).bind fun y19 =>
       let x1 := (F29.F ((y23.1.1, (y23.1.2.1, (y23.1.2.2.1, (y23.1.2.2.2.1, y23.1.2.2.2.2)))), 1))
       cond (!(decide (y19.1 < 0))) (
        x0.bind fun y28x2 =>
        cond (((decide (y19.1 < 0)) || (!y28x2)) || (y23.2 != y27.2)) (
         some false) (
         x1.bind fun y29 =>
         let x2 := (F30.F ((y23.1.1, (y23.1.2.1, (y23.1.2.2.1, (y23.1.2.2.2.1, y29.2.1)))), 1))
         x2.bind fun y30 =>
         cond (decide (y30 < 0)) (
          some false) (
          cond (y30 != y29.1) (
           some false) (
           x3.bind fun y10x3 =>
           (F11.F p1).bind fun y11x4 =>
           (F12.F p2).bind fun y12x4 =>
           (F23.F ((y10x3.1, (y10x3.2.1, y10x3.2.2)), (y11x4, y12x4))).bind fun y23x2 =>
           (F28.F ((y23x2.1.1, (y23x2.1.2.1, (y23x2.1.2.2.1, (y23x2.1.2.2.2.1, y23x2.1.2.2.2.2)))), (y27.1.1, (y27.1.2.1, (y27.1.2.2.1, (y27.1.2.2.2.1, y27.1.2.2.2.2)))))).bind fun y28x3 =>
           cond ((!y28x3) || (y23x2.2 != y27.2)) (
            some false) (
            x2.bind fun y30x2 =>
            cond (decide (y30x2 < 0)) (
             some false) (
             cond (y30x2 != y29.1) (
              some false) (
              some true))))))) (
        cond (((decide (y19.1 < 0)) || true) || (y23.2 != y27.2)) (
         some false) (
         x1.bind fun y29 =>
         let x2 := (F30.F ((y23.1.1, (y23.1.2.1, (y23.1.2.2.1, (y23.1.2.2.2.1, y29.2.1)))), 1))
         x2.bind fun y30 =>
         cond (decide (y30 < 0)) (
          some false) (
          cond (y30 != y29.1) (
           some false) (
           x3.bind fun y10x3 =>
           (F11.F p1).bind fun y11x4 =>
           (F12.F p2).bind fun y12x4 =>
           (F23.F ((y10x3.1, (y10x3.2.1, y10x3.2.2)), (y11x4, y12x4))).bind fun y23x2 =>
           (F28.F ((y23x2.1.1, (y23x2.1.2.1, (y23x2.1.2.2.1, (y23x2.1.2.2.2.1, y23x2.1.2.2.2.2)))), (y27.1.1, (y27.1.2.1, (y27.1.2.2.1, (y27.1.2.2.2.1, y27.1.2.2.2.2)))))).bind fun y28x2 =>
           cond ((!y28x2) || (y23x2.2 != y27.2)) (
            some false) (
            x2.bind fun y30x2 =>
            cond (decide (y30x2 < 0)) (
             some false) (
             cond (y30x2 != y29.1) (
              some false) (
              some true))))))))))))
theorem F.eq : ∀ x, F x = runF (mkE tab es 127 [] []) code [.agg [.sc, .sc, .sc], .row 0 0, .row 1 0] [.sc] [.tmp 6] (Coz.dec cr) (cp.enc x) := fun x => by kernel_rfl
theorem F.owed : owed (mkE (R := Bool) tab es 127 [] []) code = [] := by kernel_rfl
theorem con : ∀ x y, F x = some y → Con prog 6 [.agg [.sc, .sc, .sc], .row 0 0, .row 1 0] [.sc] (cp.enc x) (cr.enc y).1 (cr.enc y).2 :=
  func_ok (c := code) (n := 127) (pf := [.agg [.sc, .sc, .sc], .row 0 0, .row 1 0]) (res := [.tmp 6]) tabOk uniOk mixed get (by kernel_rfl) (by kernel_rfl) (by kernel_rfl) (by decide) F.eq fun w0 M h x hx => by rw [F.owed] at hx; exact absurd hx List.not_mem_nil
noncomputable def ent : Ent prog uni := Ent.of 6 [.agg [.sc, .sc, .sc], .row 0 0, .row 1 0] [.sc] cp cr F con fun args w => enters_of get (by kernel_rfl) rfl args w
end Go.Proofs.YtchohkelpjfpcaaDoor.AX.F6

/- What the functions of the laws of plans answer. No conditions. -/
namespace Go.Proofs.YtchohkelpjfpcaaDoor.AX
open Go

theorem F53.ok (l : List S69) (h : l.length ≤ 1048576) : F53.F l = some (l) := by
  have := lim_run (f := F53.l0.b) (fun i => ((i : Int), l, upTo id z69 l i)) l.length (y := l) (fun i hi => by
    have e := upTo_set (c := id) (z := z69) (d := z69) hi
    have d1 : decide ((i : Int) < (l.length : Int)) = true := dT (by omega)
    have d2 : decide ((0 : Int) ≤ (i : Int)) = true := dT (by omega)
    have d3 : decide ((i : Int) < ((upTo id z69 l i).length : Int)) = true := dT (by rw [upTo_len (by omega)]; omega)
    have w : Go.IntKind.wrap .i64 ((i : Int) + 1) = ((i + 1 : Nat) : Int) := by rw [w64 (by omega) (by omega)]; rfl
    
    simp only [F53.l0.b, F62.F, d1, d2, d3, w, Bool.and_self, cT, bS, Int.toNat_natCast]
    exact congrArg (fun q => some (Sum.inl (((i + 1 : Nat) : Int), l, q))) e)
    (by
      have d1 : decide ((l.length : Int) < (l.length : Int)) = false := dF (by omega)
      simp only [F53.l0.b, d1, cF, upTo_all, List.map_id])
  have d0 : (((decide (0 ≤ (l.length : Int))) && (decide ((l.length : Int) ≤ (l.length : Int)))) && (decide ((l.length : Int) ≤ 274877906944))) = true := by simp; omega
  simp only [F53.F, d0, cT, Int.toNat_natCast, ← upTo_zero (c := id) (z := z69) (l := l)]
  exact congrArg (fun q => Option.bind q fun y => some y) this

theorem F12.ok (l : List S56) (h : l.length ≤ 1048576) : F12.F l = some (l) := by
  have := lim_run (f := F12.l0.b) (fun i => ((i : Int), l, upTo id z56 l i)) l.length (y := l) (fun i hi => by
    have e := upTo_set (c := id) (z := z56) (d := z56) hi
    have d1 : decide ((i : Int) < (l.length : Int)) = true := dT (by omega)
    have d2 : decide ((0 : Int) ≤ (i : Int)) = true := dT (by omega)
    have d3 : decide ((i : Int) < ((upTo id z56 l i).length : Int)) = true := dT (by rw [upTo_len (by omega)]; omega)
    have w : Go.IntKind.wrap .i64 ((i : Int) + 1) = ((i + 1 : Nat) : Int) := by rw [w64 (by omega) (by omega)]; rfl
    
    simp only [F12.l0.b, F37.F, d1, d2, d3, w, Bool.and_self, cT, bS, Int.toNat_natCast]
    exact congrArg (fun q => some (Sum.inl (((i + 1 : Nat) : Int), l, q))) e)
    (by
      have d1 : decide ((l.length : Int) < (l.length : Int)) = false := dF (by omega)
      simp only [F12.l0.b, d1, cF, upTo_all, List.map_id])
  have d0 : (((decide (0 ≤ (l.length : Int))) && (decide ((l.length : Int) ≤ (l.length : Int)))) && (decide ((l.length : Int) ≤ 274877906944))) = true := by simp; omega
  simp only [F12.F, d0, cT, Int.toNat_natCast, ← upTo_zero (c := id) (z := z56) (l := l)]
  exact congrArg (fun q => Option.bind q fun y => some y) this

def c64 (x : S64) : S54 := ⟨x.f0, x.f1, x.f2⟩
theorem F11.ok (l : List S64) (h : l.length ≤ 1048576) (h2 : ∀ x ∈ l, x.f2.length ≤ 1048576) : F11.F l = some (l.map c64) := by
  have := lim_run (f := F11.l0.b) (fun i => ((i : Int), l, upTo c64 z54 l i)) l.length (y := l.map c64) (fun i hi => by
    have e := upTo_set (c := c64) (z := z54) (d := z64) hi
    have d1 : decide ((i : Int) < (l.length : Int)) = true := dT (by omega)
    have d2 : decide ((0 : Int) ≤ (i : Int)) = true := dT (by omega)
    have d3 : decide ((i : Int) < ((upTo c64 z54 l i).length : Int)) = true := dT (by rw [upTo_len (by omega)]; omega)
    have w : Go.IntKind.wrap .i64 ((i : Int) + 1) = ((i + 1 : Nat) : Int) := by rw [w64 (by omega) (by omega)]; rfl
    have e53 := F53.ok (l.getD i z64).f2 (h2 _ (by rw [getD_lt hi]; exact List.getElem_mem hi))
    simp only [F11.l0.b, F36.F, e53, d1, d2, d3, w, Bool.and_self, cT, bS, Int.toNat_natCast]
    exact congrArg (fun q => some (Sum.inl (((i + 1 : Nat) : Int), l, q))) e)
    (by
      have d1 : decide ((l.length : Int) < (l.length : Int)) = false := dF (by omega)
      simp only [F11.l0.b, d1, cF, upTo_all])
  have d0 : (((decide (0 ≤ (l.length : Int))) && (decide ((l.length : Int) ≤ (l.length : Int)))) && (decide ((l.length : Int) ≤ 274877906944))) = true := by simp; omega
  simp only [F11.F, d0, cT, Int.toNat_natCast, ← upTo_zero (c := c64) (z := z54) (l := l)]
  exact congrArg (fun q => Option.bind q fun y => some y) this

theorem F64.ok (a b c d : Int) : F64.F ((a, b, c, d), (a, b, c, d)) = some true := by simp (disch := rfl) only [F64.F, nF, cF]
theorem F42.ok (a b c d e : Int) (g : Bool) : F42.F ((a, b, c, d, e, g), (a, b, c, d, e, g)) = some true := by simp (disch := rfl) only [F42.F, nF, cF, qT, Bool.not_true]
theorem F55.ok (p : List S69) (h : p.length ≤ 1048576) : F55.F (p, p) = some true := by
  have := lim_run (f := F55.l0.b) (fun i => ((i : Int), p, p)) p.length (y := .inr ()) (fun i hi => by
    have d1 : decide ((i : Int) < (p.length : Int)) = true := dT (by omega)
    have d2 : decide ((0 : Int) ≤ (i : Int)) = true := dT (by omega)
    have w : Go.IntKind.wrap .i64 ((i : Int) + 1) = ((i + 1 : Nat) : Int) := by rw [w64 (by omega) (by omega)]; rfl
    simp only [F55.l0.b, d1, d2, F64.ok, w, Bool.and_self, cT, cF, bS, Bool.not_true])
    (by
      have d1 : decide ((p.length : Int) < (p.length : Int)) = false := dF (by omega)
      simp only [F55.l0.b, d1, cF])
  have n0 : (((p.length : Int)) != (p.length : Int)) = false := nF rfl
  simp only [F55.F, n0, cF]
  exact congrArg (fun q : Option (Bool ⊕ Unit) => q.bind fun q => match q with | .inl y => some y | .inr y => some true) this

theorem F15.ok (p : List S56) (h : p.length ≤ 1048576) : F15.F (p, p) = some true := by
  have := lim_run (f := F15.l0.b) (fun i => ((i : Int), p, p)) p.length (y := .inr ()) (fun i hi => by
    have d1 : decide ((i : Int) < (p.length : Int)) = true := dT (by omega)
    have d2 : decide ((0 : Int) ≤ (i : Int)) = true := dT (by omega)
    have w : Go.IntKind.wrap .i64 ((i : Int) + 1) = ((i + 1 : Nat) : Int) := by rw [w64 (by omega) (by omega)]; rfl
    simp only [F15.l0.b, d1, d2, F42.ok, w, Bool.and_self, cT, cF, bS, Bool.not_true])
    (by
      have d1 : decide ((p.length : Int) < (p.length : Int)) = false := dF (by omega)
      simp only [F15.l0.b, d1, cF])
  have n0 : (((p.length : Int)) != (p.length : Int)) = false := nF rfl
  simp only [F15.F, n0, cF]
  exact congrArg (fun q : Option (Bool ⊕ Unit) => q.bind fun q => match q with | .inl y => some y | .inr y => some true) this

theorem F41.ok (x : S54) (h : x.f2.length ≤ 1048576) : F41.F ((x.f0, x.f1, x.f2), (x.f0, x.f1, x.f2)) = some true := by
  have e : (x.f0.toList == x.f0.toList) = true := by simp
  have n : (x.f1 != x.f1) = false := nF rfl
  simp only [F41.F, e, n, Bool.not_true, cF, F55.ok x.f2 h, bS]
theorem F14.ok (p : List S54) (h : p.length ≤ 1048576) (h2 : ∀ x ∈ p, x.f2.length ≤ 1048576) : F14.F (p, p) = some true := by
  have := lim_run (f := F14.l0.b) (fun i => ((i : Int), p, p)) p.length (y := .inr ()) (fun i hi => by
    have d1 : decide ((i : Int) < (p.length : Int)) = true := dT (by omega)
    have d2 : decide ((0 : Int) ≤ (i : Int)) = true := dT (by omega)
    have w : Go.IntKind.wrap .i64 ((i : Int) + 1) = ((i + 1 : Nat) : Int) := by rw [w64 (by omega) (by omega)]; rfl
    simp only [F14.l0.b, d1, d2, F41.ok _ (h2 _ (show p.getD i z54 ∈ p by rw [getD_lt hi]; exact List.getElem_mem hi)), Int.toNat_natCast, w, Bool.and_self, cT, cF, bS, Bool.not_true])
    (by
      have d1 : decide ((p.length : Int) < (p.length : Int)) = false := dF (by omega)
      simp only [F14.l0.b, d1, cF])
  have n0 : (((p.length : Int)) != (p.length : Int)) = false := nF rfl
  simp only [F14.F, n0, cF]
  exact congrArg (fun q : Option (Bool ⊕ Unit) => q.bind fun q => match q with | .inl y => some y | .inr y => some true) this

/- marks -/
def g56 (k : Int) (_ : S56) : S56 := ⟨k, k + 1, k + 1 + 1, k + 1 + 1 + 1, k + 1 + 1 + 1 + 1, Int.tmod (k + 1 + 1 + 1 + 1 + 1) 3 == 0⟩

theorem F19.ok (l : List S56) (k : Int) (h : l.length ≤ 1048576) (hk : 0 ≤ k) (hk2 : k ≤ 100000000) : F19.F (l, k) = some (k + 6 * (l.length : Int), mkL g56 (fun _ => 6) k l, ()) := by
  have := lim_run (f := F19.l0.b) (fun i => (mkK (fun _ => 6) k (l.take i), (i : Int), mkAt g56 (fun _ => 6) k l i)) l.length (y := (k + 6 * (l.length : Int), mkL g56 (fun _ => 6) k l)) (fun i hi => by
    have e := mkAt_set (g := g56) (c := fun _ => 6) (k := k) (d := z56) hi
    have e2 : mkK (fun _ => (6 : Int)) k (l.take i) = k + 6 * i := by rw [mkK_const]; simp; omega
    have e3 : mkK (fun _ => (6 : Int)) k (l.take (i + 1)) = k + 6 * (i + 1 : Nat) := by rw [mkK_const]; simp; omega
    have hl : (mkAt g56 (fun _ => 6) k l i).length = l.length := mkAt_len
    simp (disch := omega) only [F19.l0.b, dT, dF, w64, hl, e2, e3, List.length_set, Bool.and_self, cT, Int.toNat_natCast, getD_set, List.set_set, g56] at e ⊢
    rw [← e]
    simp only [Option.some.injEq, Sum.inl.injEq, Prod.mk.injEq]
    exact ⟨by omega, by omega, trivial⟩)
    (by simp (disch := omega) only [F19.l0.b, dT, dF, cF, mkAt_all, mkAt_len, List.take_length, mkK_const, mkL_len])
  simp (disch := omega) only [F19.F]
  exact congrArg (fun q : Option (Int × List S56) => q.bind fun y => some (y.1, y.2, ())) (by simpa [mkAt_zero, mkK] using this)

theorem F20.ok (l : List S56) (k : Int) (h : l.length ≤ 1048576) (hk : 0 ≤ k) (hk2 : k ≤ 100000000) : F20.F (mkL g56 (fun _ => 6) k l, k) = some (k + 6 * (l.length : Int)) := by
  have := lim_run (f := F20.l0.b) (fun i => (mkK (fun _ => 6) k (l.take i), (i : Int), mkL g56 (fun _ => 6) k l)) l.length (y := .inr (k + 6 * (l.length : Int))) (fun i hi => by
    have e := mkL_get (g := g56) (c := fun _ => 6) (k := k) (d := z56) hi
    have e2 : mkK (fun _ => (6 : Int)) k (l.take i) = k + 6 * i := by rw [mkK_const]; simp; omega
    have e3 : mkK (fun _ => (6 : Int)) k (l.take (i + 1)) = k + 6 * (i + 1 : Nat) := by rw [mkK_const]; simp; omega
    simp (disch := omega) only [F20.l0.b, dT, dF, w64, nT, nF, mkL_len, e, e2, e3, Bool.and_self, cT, cF, Int.toNat_natCast, g56, beq_self_eq_true, Bool.not_true]
    simp only [Option.some.injEq, Sum.inl.injEq, Prod.mk.injEq]
    exact ⟨by omega, by omega, trivial⟩)
    (by simp (disch := omega) only [F20.l0.b, dT, dF, cF, List.take_length, mkK_const, mkL_len])
  simp (disch := omega) only [F20.F]
  exact congrArg (fun q : Option (Int ⊕ Int) => q.bind fun q => match q with | .inl y => some y | .inr y => some y) (by simpa [mkK] using this)

def g69 (k : Int) (_ : S69) : S69 := ⟨k, k + 1, k + 1 + 1, k + 1 + 1 + 1⟩
theorem F44.ok (l : List S69) (k : Int) (h : l.length ≤ 1048576) (hk : 0 ≤ k) (hk2 : k ≤ 100000000) : F44.F (l, k) = some (k + 4 * (l.length : Int), mkL g69 (fun _ => 4) k l, ()) := by
  have := lim_run (f := F44.l0.b) (fun i => (mkK (fun _ => 4) k (l.take i), (i : Int), mkAt g69 (fun _ => 4) k l i)) l.length (y := (k + 4 * (l.length : Int), mkL g69 (fun _ => 4) k l)) (fun i hi => by
    have e := mkAt_set (g := g69) (c := fun _ => 4) (k := k) (d := z69) hi
    have e2 : mkK (fun _ => (4 : Int)) k (l.take i) = k + 4 * i := by rw [mkK_const]; simp; omega
    have e3 : mkK (fun _ => (4 : Int)) k (l.take (i + 1)) = k + 4 * (i + 1 : Nat) := by rw [mkK_const]; simp; omega
    have hl : (mkAt g69 (fun _ => 4) k l i).length = l.length := mkAt_len
    simp (disch := omega) only [F44.l0.b, dT, dF, w64, hl, e2, e3, List.length_set, Bool.and_self, cT, Int.toNat_natCast, getD_set, List.set_set, g69] at e ⊢
    rw [← e]
    simp only [Option.some.injEq, Sum.inl.injEq, Prod.mk.injEq]
    exact ⟨by omega, by omega, trivial⟩)
    (by simp (disch := omega) only [F44.l0.b, dT, dF, cF, mkAt_all, mkAt_len, List.take_length, mkK_const, mkL_len])
  simp (disch := omega) only [F44.F]
  exact congrArg (fun q : Option (Int × List S69) => q.bind fun y => some (y.1, y.2, ())) (by simpa [mkAt_zero, mkK] using this)

theorem F43.l0_ok : ∀ (n : Nat) (k : Int) (t : ByteArray), 0 ≤ k → k.toNat ≤ n → k ≤ 1000000000 → t.size + k.toNat ≤ 2000000000 → ∃ t', F43.l0 (k, t) = some t' ∧ t'.size ≤ 2000000000
  | n, k, t, hk, hn, hk2, ht => by
    by_cases h0 : k > 0
    · cases n with
      | zero => omega
      | succ n =>
        have hs : (strRow (U := uni) 4 ((Go.IntKind.wrap (Go.IntKind.u8 ) (Go.IntKind.wrap (Go.IntKind.i64 ) (48 + (Int.tmod k 10)))) :: [])).size = 1 := by
          unfold strRow; rw [strOfNums_size]; rfl
        have hd : 0 ≤ Int.tdiv k 10 ∧ Int.tdiv k 10 < k := by rw [Int.tdiv_eq_ediv_of_nonneg hk]; omega
        have w : Go.IntKind.wrap .i64 (Int.tdiv k 10) = Int.tdiv k 10 := w64 (by omega) (by omega)
        obtain ⟨t', h1, h2⟩ := F43.l0_ok n (Int.tdiv k 10) (strRow (U := uni) 4 ((Go.IntKind.wrap (Go.IntKind.u8 ) (Go.IntKind.wrap (Go.IntKind.i64 ) (48 + (Int.tmod k 10)))) :: []) ++ t) hd.1 (by omega) (by omega) (by rw [ByteArray.size_append, hs]; omega)
        refine ⟨t', ?_, h2⟩
        rw [← h1]
        have d : decide (((strRow (U := uni) 4 ((Go.IntKind.wrap (Go.IntKind.u8 ) (Go.IntKind.wrap (Go.IntKind.i64 ) (48 + (Int.tmod k 10)))) :: [])).size + t.size) ≤ 274877906944) = true := dT (by rw [hs]; omega)
        unfold F43.l0
        exact lim_in (by simp only [F43.l0.b, dT h0, cT, d, w])
    · exact ⟨t, by unfold F43.l0; exact lim_out (by simp only [F43.l0.b, dF h0, cF]), by omega⟩

theorem F43.ok (k : Int) (hk : 0 ≤ k) (hk2 : k ≤ 1000000000) : ∃ t, F43.F k = some t := by
  by_cases h0 : k ≤ 0
  · exact ⟨_, by simp only [F43.F, dT h0, cT]; rfl⟩
  · have hz : (ByteArray.mk (Array.mk ([] : List UInt8))).size = 0 := rfl
    obtain ⟨t, h1, h2⟩ := F43.l0_ok k.toNat k (ByteArray.mk (Array.mk ([] : List UInt8))) hk (Nat.le_refl _) hk2 (by rw [hz]; omega)
    have d : decide (((ByteArray.size (ByteArray.mk (Array.mk (109 :: [])))) + (ByteArray.size t)) ≤ 274877906944) = true := dT (by rw [show (ByteArray.mk (Array.mk ((109 : UInt8) :: []))).size = 1 from rfl]; omega)
    exact ⟨_, by simp only [F43.F, dF h0, cF, h1, bS, d, cT]; rfl⟩

def totM : List S54 → Int
  | [] => 0
  | x :: l => 2 + 4 * (x.f2.length : Int) + totM l
theorem totM_nn : ∀ l : List S54, 0 ≤ totM l
  | [] => by simp [totM]
  | x :: l => by have := totM_nn l; simp only [totM]; omega

theorem F18.l0_ok (l : List S54) (h : l.length ≤ 1048576) (h2 : ∀ x ∈ l, x.f2.length ≤ 1048576) : ∀ (n i : Nat) (k : Int) (row : List S54), i + n = l.length → row.length = l.length → (∀ j, i ≤ j → row.getD j z54 = l.getD j z54) → 0 ≤ k → k + totM (l.drop i) ≤ 100000000 →
    ∃ row', F18.l0 (k, (i : Int), row) = some (k + totM (l.drop i), row')
  | 0, i, k, row, hi, hr, hj, hk, hk2 => by
    rw [List.drop_eq_nil_of_le (by omega)]
    have d : decide ((i : Int) < (row.length : Int)) = false := dF (by omega)
    exact ⟨row, by unfold F18.l0; exact lim_out (by simp only [F18.l0.b, d, cF, totM, Int.add_zero])⟩
  | n + 1, i, k, row, hi, hr, hj, hk, hk2 => by
    have hlt : i < l.length := by omega
    rw [drop_cons hlt] at hk2 ⊢
    simp only [totM] at hk2 ⊢
    have hd := totM_nn (l.drop (i + 1))
    have hg : l.getD i z54 = l[i] := getD_lt hlt
    generalize hx : l[i] = x at hk2 hg ⊢
    have hxl : x.f2.length ≤ 1048576 := h2 x (by rw [← hx]; exact List.getElem_mem hlt)
    have hg2 : row.getD i z54 = x := by rw [hj i (Nat.le_refl _), hg]
    obtain ⟨t, ht⟩ := F43.ok k hk (by omega)
    have w1 : Go.IntKind.wrap .i64 (k + 1) = k + 1 := w64 (by omega) (by omega)
    have w2 : Go.IntKind.wrap .i64 (k + 1 + 1) = k + 1 + 1 := w64 (by omega) (by omega)
    have w : Go.IntKind.wrap .i64 ((i : Int) + 1) = ((i + 1 : Nat) : Int) := by rw [w64 (by omega) (by omega)]; rfl
    have e44 := F44.ok x.f2 (k + 1 + 1) hxl (by omega) (by omega)
    have d1 : ∀ r : List S54, r.length = l.length → decide ((i : Int) < (r.length : Int)) = true := fun r hr => dT (by omega)
    have d2 : decide ((0 : Int) ≤ (i : Int)) = true := dT (by omega)
    have hrl : i < row.length := by omega
    obtain ⟨row', h3⟩ := F18.l0_ok l h h2 n (i + 1) (k + (2 + 4 * (x.f2.length : Int))) (row.set i ⟨t, k + 1, mkL g69 (fun _ => 4) (k + 1 + 1) x.f2⟩) (by omega) (by simpa using hr) (fun j hj' => by rw [getD_set_ne (by omega)]; exact hj j (by omega)) (by omega) (by omega)
    refine ⟨row', ?_⟩
    rw [show k + (2 + 4 * (x.f2.length : Int) + totM (l.drop (i + 1))) = k + (2 + 4 * (x.f2.length : Int)) + totM (l.drop (i + 1)) by omega, ← h3]
    unfold F18.l0
    refine lim_in ?_
    simp only [F18.l0.b, d1 row hr, ht, bS, d2, Bool.and_self, cT, Int.toNat_natCast, hg2]
    simp only [List.length_set, d1 row hr, d2, Bool.and_self, cT, getD_set hrl, List.set_set, w1]
    simp only [w2, e44, bS, w]
    rw [show k + 1 + 1 + 4 * (x.f2.length : Int) = k + (2 + 4 * (x.f2.length : Int)) by omega]

theorem F18.ok (l : List S54) (h : l.length ≤ 1048576) (h2 : ∀ x ∈ l, x.f2.length ≤ 1048576) (ht : totM l ≤ 99999999) : ∃ r, F18.F (l, 1) = some (1 + totM l, r, ()) := by
  obtain ⟨row', e⟩ := F18.l0_ok l h h2 l.length 0 1 l (by omega) rfl (fun _ _ => rfl) (by decide) (by rw [List.drop_zero]; omega)
  rw [List.drop_zero] at e
  have e : F18.l0 (1, 0, l) = some (1 + totM l, row') := e
  exact ⟨row', by simp only [F18.F, e, bS]⟩

/- sizes -/
def totJ : List S64 → Int
  | [] => 0
  | x :: l => (x.f0.size : Int) + (x.f2.length : Int) + totJ l
theorem totJ_nn : ∀ l : List S64, 0 ≤ totJ l
  | [] => by simp [totJ]
  | x :: l => by have := totJ_nn l; simp only [totJ]; omega

theorem F50.ok (l : List S69) (k : Int) (h : (l.length : Int) ≤ 9223372036854775807) (hk : 0 ≤ k) (hk2 : k ≤ 1048576) : F50.F (l, k) = some (if k - l.length < 0 then -1 else k - l.length) := by
  have w : Go.IntKind.wrap .i64 (k - (l.length : Int)) = k - l.length := w64 (by omega) (by omega)
  by_cases h0 : k - (l.length : Int) < 0
  · simp only [F50.F, w, dT h0, cT, if_pos h0]
  · simp only [F50.F, w, dF h0, cF, if_neg h0]

theorem F31.ok (x : S64) (k : Int) (h : (x.f0.size : Int) ≤ 9223372036854775807) (h2 : (x.f2.length : Int) ≤ 9223372036854775807) (hk : 0 ≤ k) (hk2 : k ≤ 1048576) : F31.F ((x.f0, x.f1, x.f2), k) = some (if k - x.f0.size - x.f2.length < 0 then -1 else k - x.f0.size - x.f2.length) := by
  have w : Go.IntKind.wrap .i64 (k - (x.f0.size : Int)) = k - x.f0.size := w64 (by omega) (by omega)
  have m1 : decide ((-1 : Int) < 0) = true := rfl
  by_cases h0 : k - (x.f0.size : Int) < 0
  · rw [if_pos (by omega)]; simp only [F31.F, w, dT h0, cT]
  · have e := F50.ok x.f2 (k - x.f0.size) h2 (by omega) (by omega)
    by_cases h1 : k - (x.f0.size : Int) - x.f2.length < 0
    · rw [if_pos h1] at e ⊢; simp only [F31.F, w, dF h0, cF, e, bS, m1, cT]
    · rw [if_neg h1] at e ⊢; simp only [F31.F, w, dF h0, cF, e, bS, dF h1]

theorem F7.l0_ok (l : List S64) (hl : l.length ≤ 1048576) (h : ∀ x ∈ l, (x.f0.size : Int) ≤ 9223372036854775807 ∧ (x.f2.length : Int) ≤ 9223372036854775807) : ∀ (n i : Nat) (k : Int), i + n = l.length → 0 ≤ k → k ≤ 1048576 →
    F7.l0 (k, (i : Int), l) = some (if k - totJ (l.drop i) < 0 then .inl (-1) else .inr (k - totJ (l.drop i)))
  | 0, i, k, hi, hk, hk2 => by
    rw [List.drop_eq_nil_of_le (by omega)]
    have d : decide ((i : Int) < (l.length : Int)) = false := dF (by omega)
    simp only [totJ, Int.sub_zero]
    rw [if_neg (by omega)]
    unfold F7.l0; exact lim_out (by simp only [F7.l0.b, d, cF])
  | n + 1, i, k, hi, hk, hk2 => by
    have hlt : i < l.length := by omega
    rw [drop_cons hlt]
    have hd := totJ_nn (l.drop (i + 1))
    have hg : l.getD i z64 = l[i] := getD_lt hlt
    have hx2 := h l[i] (List.getElem_mem hlt)
    generalize hx : l[i] = x at hg hx2 ⊢
    rw [show totJ (x :: l.drop (i + 1)) = (x.f0.size : Int) + (x.f2.length : Int) + totJ (l.drop (i + 1)) from rfl]
    have d : decide ((i : Int) < (l.length : Int)) = true := dT (by omega)
    have d2 : decide ((0 : Int) ≤ (i : Int)) = true := dT (by omega)
    have w : Go.IntKind.wrap .i64 ((i : Int) + 1) = ((i + 1 : Nat) : Int) := by rw [w64 (by omega) (by omega)]; rfl
    have e := F31.ok x k hx2.1 hx2.2 hk hk2
    by_cases h0 : k - (x.f0.size : Int) - x.f2.length < 0
    · rw [if_pos h0] at e
      rw [if_pos (by omega)]
      have m1 : decide ((-1 : Int) < 0) = true := rfl
      unfold F7.l0; exact lim_out (by simp only [F7.l0.b, d, d2, Bool.and_self, cT, Int.toNat_natCast, hg, e, bS, m1])
    · rw [if_neg h0] at e
      have rc := F7.l0_ok l hl h n (i + 1) (k - x.f0.size - x.f2.length) (by omega) (by omega) (by omega)
      rw [show k - ((x.f0.size : Int) + x.f2.length + totJ (l.drop (i + 1))) = k - x.f0.size - x.f2.length - totJ (l.drop (i + 1)) by omega, ← rc]
      unfold F7.l0; exact lim_in (by simp only [F7.l0.b, d, d2, Bool.and_self, cT, Int.toNat_natCast, hg, e, bS, dF h0, cF, w])

theorem F7.ok (l : List S64) (hl : (l.length : Int) ≤ 9223372036854775807) (h : ∀ x ∈ l, (x.f0.size : Int) ≤ 9223372036854775807 ∧ (x.f2.length : Int) ≤ 9223372036854775807) (k : Int) (hk : 0 ≤ k) (hk2 : k ≤ 1048576) :
    F7.F (l, k) = some (if k - l.length < 0 then -1 else if k - l.length - totJ l < 0 then -1 else k - l.length - totJ l) := by
  have w : Go.IntKind.wrap .i64 (k - (l.length : Int)) = k - l.length := w64 (by omega) (by omega)
  by_cases h0 : k - (l.length : Int) < 0
  · rw [if_pos h0]; simp only [F7.F, w, dT h0, cT]
  · rw [if_neg h0]
    have e := F7.l0_ok l (by omega) h l.length 0 (k - l.length) (by omega) (by omega) (by omega)
    rw [List.drop_zero] at e
    have e : F7.l0 (k - l.length, 0, l) = _ := e
    by_cases h1 : k - (l.length : Int) - totJ l < 0
    · rw [if_pos h1] at e ⊢; simp only [F7.F, w, dF h0, cF, e, bS]
    · rw [if_neg h1] at e ⊢; simp only [F7.F, w, dF h0, cF, e, bS]

theorem totJ_mem : ∀ {l : List S64} {x : S64}, x ∈ l → (x.f0.size : Int) + (x.f2.length : Int) ≤ totJ l
  | y :: l, x, h => by
    simp only [totJ]
    have := totJ_nn l
    rcases List.mem_cons.1 h with rfl | h
    · omega
    · have := totJ_mem h; omega
theorem totM_le : ∀ l : List S64, totM (l.map c64) ≤ 2 * (l.length : Int) + 4 * totJ l
  | [] => by simp [totM, totJ]
  | x :: l => by
    have := totM_le l
    simp only [List.map_cons, totM, totJ, c64, List.length_cons]
    omega

theorem planR_len (jobs : List S54) (S L : Int) : ∀ (f : Nat) (ms : List S71) (nx en : List Int) (out : List S56), (planR jobs S L f ms nx en out).length ≤ out.length + f
  | 0, ms, nx, en, out => by simp [planR]
  | f + 1, ms, nx, en, out => by
    simp only [planR]
    split
    · omega
    · refine Nat.le_trans (planR_len jobs S L f _ _ _ _) ?_
      simp; omega
theorem planA_len (M S L : Int) (jobs : List S54) : (planA M S L jobs).1.length ≤ 161 := by
  unfold planA
  split
  · simp
  · split
    · simp
    · exact Nat.le_trans (planR_len _ _ _ _ _ _ _ _) (by simp)

theorem F4.law_of (M S L : Int) (l : List S64) (hl : (l.length : Int) ≤ 9223372036854775807) (h : ∀ x ∈ l, (x.f0.size : Int) ≤ 9223372036854775807 ∧ (x.f2.length : Int) ≤ 9223372036854775807) : F4.F ((M, S, L), l) = some true := by
  have e7 := F7.ok l hl h 1048576 (by decide) (by decide)
  have m1 : decide ((-1 : Int) < 0) = true := rfl
  have e10 : F10.F (M, S, L) = some (M, S, L) := rfl
  by_cases h0 : 1048576 - (l.length : Int) < 0
  · rw [if_pos h0] at e7; simp only [F4.F, e7, bS, m1, cT]
  rw [if_neg h0] at e7
  by_cases h1 : 1048576 - (l.length : Int) - totJ l < 0
  · rw [if_pos h1] at e7; simp only [F4.F, e7, bS, m1, cT]
  rw [if_neg h1] at e7
  have hx : ∀ x ∈ l, x.f2.length ≤ 1048576 := fun x hx => by have := totJ_mem hx; omega
  have hx2 : ∀ x ∈ l.map c64, x.f2.length ≤ 1048576 := fun x hx' => by
    obtain ⟨y, hy, rfl⟩ := List.mem_map.1 hx'
    exact hx y hy
  have e11 := F11.ok l (by omega) hx
  have hp := F16.ok M S L (l.map c64)
  have hpl := planA_len M S L (l.map c64)
  generalize planA M S L (l.map c64) = q at hp hpl
  obtain ⟨q1, q2⟩ := q
  dsimp only at hpl
  have e15 := F15.ok q1 (by omega)
  have e14 := F14.ok (l.map c64) (by simp; omega) hx2
  have htm := totM_le l
  have hnn := totM_nn (l.map c64)
  obtain ⟨r, e18⟩ := F18.ok (l.map c64) (by simp; omega) hx2 (by omega)
  have e19 := F19.ok q1 1 (by omega) (by decide) (by decide)
  have e20 := F20.ok q1 1 (by omega) (by decide) (by decide)
  have d1 : decide (1 + totM (l.map c64) < 0) = false := dF (by omega)
  have d2 : decide (1 + 6 * (q1.length : Int) < 0) = false := dF (by omega)
  have n1 : (q2 != q2) = false := nF rfl
  have n2 : (1 + 6 * (q1.length : Int) != 1 + 6 * (q1.length : Int)) = false := nF rfl
  simp only [F4.F, e7, dF h1, cF, bS, e10, e11, hp.1, hp.2, e15, e14, e18, d1, Bool.not_true, Bool.not_false, cT, n1, Bool.or_self, e19, e20, d2, n2]

end Go.Proofs.YtchohkelpjfpcaaDoor.AX

/- Plans that are handed in: what is asked of a slot. No conditions. -/
namespace Go.Proofs.YtchohkelpjfpcaaDoor.AX
open Go

def tP (jobs : List S54) (x : S56) : S69 := (jobs.getD x.f0.toNat z54).f2.getD x.f1.toNat z69
def outP (jobs : List S54) (x : S56) : Bool := ((((decide (x.f0 < 0)) || (decide (x.f0 ≥ (jobs.length : Int)))) || (decide (x.f1 < 0))) || (decide (x.f1 ≥ ((jobs.getD x.f0.toNat z54).f2.length : Int))))
def badP (jobs : List S54) (x : S56) : Bool := outP jobs x || ((tP jobs x).f0 != x.f2)
def sameP (x : S56) (p : S56) : Bool := (x.f0 == p.f0) && (x.f1 == p.f1)
def prevP (x : S56) (p : S56) : Bool := (x.f0 == p.f0) && (x.f1 - 1 == p.f1)
def aheadP (pre : List S56) (x : S56) : Bool := if x.f1 > 0 then (match pre.find? (prevP x) with | none => false | some p => decide (p.f4 ≤ x.f3)) else true
def chkP (jobs : List S54) (S L : Int) (pre : List S56) (ms : List S71) (x : S56) : Int ⊕ List S71 :=
  if badP jobs x = true then .inl 8
  else if pre.any (sameP x) = true then .inl 7
  else if ((decide (x.f3 < 0)) || (decide (x.f3 > 1000000000))) = true then .inl 5
  else if (!aheadP pre x || decide (x.f3 < (ms.getD x.f2.toNat z71).f0)) = true then .inl 13
  else if freshR L (ms.getD x.f2.toNat z71) (tP jobs x) ≠ x.f5 then .inl 16
  else if x.f4 ≠ toR S x.f3 (tP jobs x) x.f5 then .inl 19
  else .inr (ms.set x.f2.toNat ⟨x.f4, (tP jobs x).f2, wearR (ms.getD x.f2.toNat z71) (tP jobs x) x.f5⟩)

/-- The slots so far, the machines. -/
structure PInv (M S L : Int) (jobs : List S54) (pre : List S56) (ms : List S71) : Prop where
  ok : ShopOk M S L jobs
  lm : ms.length = M.toNat
  bm : ∀ i, i < ms.length → 0 ≤ (ms.getD i z71).f0
  uq : pre.Pairwise (fun p q => ¬ (q.f0 = p.f0 ∧ q.f1 = p.f1))
  st : ∀ p ∈ pre, 0 ≤ p.f1

section
variable {M S L : Int} {jobs : List S54} {pre plan : List S56} {ms : List S71} {x : S56} {i : Nat}

theorem badP_no (hok : ShopOk M S L jobs) (h : badP jobs x = false) : 0 ≤ x.f0 ∧ x.f0 < jobs.length ∧ 0 ≤ x.f1 ∧ x.f1 < ((jobs.getD x.f0.toNat z54).f2.length : Int) ∧ x.f1 < 8 ∧ (tP jobs x).f0 = x.f2 ∧ 0 ≤ x.f2 ∧ x.f2 < M ∧ 1 ≤ (tP jobs x).f1 ∧ (tP jobs x).f1 ≤ 1000 := by
  unfold badP outP at h
  simp only [Bool.or_eq_false_iff, decide_eq_false_iff_not, bne_eq_false_iff_eq] at h
  obtain ⟨⟨⟨⟨h1, h2⟩, h3⟩, h4⟩, h5⟩ := h
  have hj : x.f0.toNat < jobs.length := by omega
  have hjm := hok.job (jobs.getD x.f0.toNat z54) (by rw [getD_lt hj]; exact List.getElem_mem hj)
  have e := getD_lt (l := (jobs.getD x.f0.toNat z54).f2) (d := z69) (i := x.f1.toNat) (by omega)
  have hx := hjm.2.2.2.2 (tP jobs x) (by unfold tP; rw [e]; exact List.getElem_mem _)
  have := hjm.2.1
  refine ⟨by omega, by omega, by omega, by omega, by omega, h5, by omega, by omega, by omega, by omega⟩

theorem toR_eq (hok : ShopOk M S L jobs) {t : S69} (h1 : 1 ≤ t.f1) (h2 : t.f1 ≤ 1000) {f : Int} (h3 : 0 ≤ f) (h4 : f ≤ 1000000000) (fr : Bool) :
    toR S f t fr = (bif fr then f + t.f1 + S else f + t.f1) ∧ Go.IntKind.wrap .i64 (f + (bif fr then Go.IntKind.wrap .i64 (t.f1 + S) else t.f1)) = toR S f t fr := by
  have := hok.s1
  have := hok.s2
  unfold toR
  rw [w64 (x := f + t.f1) (by omega) (by omega), w64 (x := f + t.f1 + S) (by omega) (by omega), w64 (x := t.f1 + S) (by omega) (by omega)]
  cases fr
  · simp only [cond_false]; exact ⟨trivial, w64 (by omega) (by omega)⟩
  · simp only [cond_true]; exact ⟨trivial, by rw [w64 (by omega) (by omega)]; omega⟩

theorem chk_next (h : PInv M S L jobs pre ms) {ms' : List S71} (hc : chkP jobs S L pre ms x = .inr ms') : PInv M S L jobs (pre ++ [x]) ms' := by
  unfold chkP at hc
  split at hc
  · cases hc
  · rename_i hb
    split at hc
    · cases hc
    · rename_i hs
      split at hc
      · cases hc
      · rename_i hr
        split at hc
        · cases hc
        · split at hc
          · cases hc
          · split at hc
            · cases hc
            · rename_i hto
              injection hc with hc
              subst hc
              have hb := badP_no h.ok (by simpa using hb)
              simp only [Bool.or_eq_true, decide_eq_true_eq, not_or] at hr
              have ht := (toR_eq h.ok hb.2.2.2.2.2.2.2.2.1 hb.2.2.2.2.2.2.2.2.2 (f := x.f3) (by omega) (by omega) x.f5).1
              have hto : x.f4 = toR S x.f3 (tP jobs x) x.f5 := by simpa using hto
              have hs1 := h.ok.s1
              refine ⟨h.ok, by simp [h.lm], fun i hi => ?_, ?_, fun p hp => ?_⟩
              · refine getD_set_cases (fun y : S71 => 0 ≤ y.f0) ?_ (h.bm i (by simpa using hi))
                show 0 ≤ x.f4
                rw [hto, ht]
                cases x.f5 <;> simp only [cond_true, cond_false] <;> omega
              · rw [List.pairwise_append]
                refine ⟨h.uq, List.pairwise_singleton _ _, fun p hp q hq => ?_⟩
                simp at hq; subst hq
                intro ⟨e1, e2⟩
                apply hs
                rw [List.any_eq_true]
                exact ⟨p, hp, by simp [sameP, e1, e2]⟩
              · rcases List.mem_append.1 hp with hp | hp
                · exact h.st p hp
                · simp at hp; subst hp; exact hb.2.2.1

/- the reference's look at the slots so far -/
def lookG (x : S56) (a : Bool) (p : S56) : Bool ⊕ Unit :=
  if p.f0 ≠ x.f0 then .inl a else if p.f1 = x.f1 then .inr () else if p.f1 = x.f1 - 1 then .inl (decide (p.f4 ≤ x.f3)) else .inl a

theorem look_same : ∀ (l : List S56) (a : Bool), l.any (sameP x) = true → goL (lookG x) l a = .inr ()
  | [], _, h => by simp at h
  | p :: l, a, h => by
    rw [goL]
    simp only [List.any_cons, Bool.or_eq_true] at h
    by_cases h1 : p.f0 = x.f0
    · by_cases h2 : p.f1 = x.f1
      · have : lookG x a p = .inr () := by unfold lookG; rw [if_neg (by simpa using h1), if_pos h2]
        rw [this]
      · have hn : sameP x p = false := by unfold sameP; simp [h1, Ne.symm h2]
        rw [hn] at h
        have hl := h.resolve_left (by decide)
        by_cases h3 : p.f1 = x.f1 - 1
        · have : lookG x a p = .inl (decide (p.f4 ≤ x.f3)) := by unfold lookG; rw [if_neg (by simpa using h1), if_neg h2, if_pos h3]
          rw [this]; exact look_same l _ hl
        · have : lookG x a p = .inl a := by unfold lookG; rw [if_neg (by simpa using h1), if_neg h2, if_neg h3]
          rw [this]; exact look_same l _ hl
    · have hn : sameP x p = false := by unfold sameP; simp [Ne.symm h1]
      rw [hn] at h
      have : lookG x a p = .inl a := by unfold lookG; rw [if_pos h1]
      rw [this]; exact look_same l _ (h.resolve_left (by decide))

theorem look_none : ∀ (l : List S56) (a : Bool), l.Pairwise (fun p q => ¬ (q.f0 = p.f0 ∧ q.f1 = p.f1)) → l.any (sameP x) = false → goL (lookG x) l a = .inl (match l.find? (prevP x) with | none => a | some p => decide (p.f4 ≤ x.f3))
  | [], _, _, _ => rfl
  | p :: l, a, hu, h => by
    rw [goL]
    simp only [List.any_cons, Bool.or_eq_false_iff] at h
    rw [List.pairwise_cons] at hu
    by_cases h1 : p.f0 = x.f0
    · have h2 : p.f1 ≠ x.f1 := fun h2 => by have := h.1; unfold sameP at this; simp [h1, h2] at this
      by_cases h3 : p.f1 = x.f1 - 1
      · have e : lookG x a p = .inl (decide (p.f4 ≤ x.f3)) := by unfold lookG; rw [if_neg (by simpa using h1), if_neg h2, if_pos h3]
        have ep : prevP x p = true := by unfold prevP; simp [h1, h3]
        have hr : l.find? (prevP x) = none := by
          rw [List.find?_eq_none]
          intro q hq hq2
          unfold prevP at hq2
          simp only [Bool.and_eq_true, beq_iff_eq] at hq2
          exact hu.1 q hq ⟨by omega, by omega⟩
        rw [e]
        simp only [List.find?_cons, ep]
        rw [look_none l _ hu.2 h.2, hr]
      · have e : lookG x a p = .inl a := by unfold lookG; rw [if_neg (by simpa using h1), if_neg h2, if_neg h3]
        have ep : prevP x p = false := by unfold prevP; simp [h1]; omega
        rw [e]
        simp only [List.find?_cons, ep]
        exact look_none l _ hu.2 h.2
    · have e : lookG x a p = .inl a := by unfold lookG; rw [if_pos h1]
      have ep : prevP x p = false := by unfold prevP; simp [Ne.symm h1]
      rw [e]
      simp only [List.find?_cons, ep]
      exact look_none l _ hu.2 h.2

theorem look_ahead (h : PInv M S L jobs pre ms) (hs : pre.any (sameP x) = false) (h1 : 0 ≤ x.f1) : goL (lookG x) pre (x.f1 == 0) = .inl (aheadP pre x) := by
  rw [look_none pre _ h.uq hs]
  unfold aheadP
  by_cases h0 : x.f1 > 0
  · rw [if_pos h0, qF (show ¬ x.f1 = 0 by omega)]
  · rw [if_neg h0, qT (show x.f1 = 0 by omega)]
    cases hf : pre.find? (prevP x) with
    | none => rfl
    | some p =>
      have hp := List.find?_some hf
      have hm := h.st p (List.mem_of_find?_eq_some hf)
      unfold prevP at hp
      simp only [Bool.and_eq_true, beq_iff_eq] at hp
      omega

theorem F9.l2_ok (plan : List S56) (i : Nat) (hi : i ≤ plan.length) (hl : plan.length ≤ 5000) (a late : Bool) (t : S69) (hx : 0 ≤ x.f1 ∧ x.f1 < 8) : F9.l2 ((i : Int), a, late, 0, M, S, L, x.f0, x.f1, x.f2, x.f3, x.f4, x.f5, t.f0, t.f1, t.f2, t.f3, jobs, plan, ms) =
    some (Sum.elim (fun a => .inr ((i : Int), a, late, M, S, L, x.f0, x.f1, x.f2, x.f3, x.f4, x.f5, t.f0, t.f1, t.f2, t.f3, jobs, plan, ms)) (fun _ => .inl (7, (i : Int))) (goL (lookG x) (plan.take i) a)) := by
  have hlt : (plan.take i).length = i := by simp; omega
  exact lim_go (f := F9.l2.b) (fun k a => ((i : Int), a, late, (k : Int), M, S, L, x.f0, x.f1, x.f2, x.f3, x.f4, x.f5, t.f0, t.f1, t.f2, t.f3, jobs, plan, ms)) (plan.take i) z56 (lookG x) (fun _ => True) (z := fun a => .inr ((i : Int), a, late, M, S, L, x.f0, x.f1, x.f2, x.f3, x.f4, x.f5, t.f0, t.f1, t.f2, t.f3, jobs, plan, ms)) (o := fun _ => .inl (7, (i : Int))) a trivial (fun _ _ _ _ _ _ => trivial) (fun k a hk _ => by
    rw [hlt] at hk
    rw [getD_take hk hi]
    have d1 : decide ((k : Int) < (i : Int)) = true := dT (by omega)
    have d2 : decide ((0 : Int) ≤ (k : Int)) = true := dT (by omega)
    have d3 : decide ((k : Int) < (plan.length : Int)) = true := dT (by omega)
    have w : Go.IntKind.wrap .i64 ((k : Int) + 1) = ((k + 1 : Nat) : Int) := by rw [w64 (by omega) (by omega)]; rfl
    have w2 : Go.IntKind.wrap .i64 (x.f1 - 1) = x.f1 - 1 := w64 (by omega) (by omega)
    generalize hp : plan.getD k z56 = p
    unfold lookG
    by_cases h1 : p.f0 = x.f0
    · rw [if_neg (by simpa using h1)]
      by_cases h2 : p.f1 = x.f1
      · rw [if_pos h2]
        simp only [F9.l2.b, d1, d2, d3, Bool.and_self, cT, Int.toNat_natCast, hp, nF h1, cF, qT h2]
      · rw [if_neg h2]
        by_cases h3 : p.f1 = x.f1 - 1
        · rw [if_pos h3]
          simp only [F9.l2.b, d1, d2, d3, Bool.and_self, cT, Int.toNat_natCast, hp, nF h1, cF, qF h2, w2, qT h3, w]
        · rw [if_neg h3]
          simp only [F9.l2.b, d1, d2, d3, Bool.and_self, cT, Int.toNat_natCast, hp, nF h1, cF, qF h2, w2, qF h3, w]
    · rw [if_pos h1]
      simp only [F9.l2.b, d1, d2, d3, Bool.and_self, cT, Int.toNat_natCast, hp, nT h1, w])
    (fun a _ => by
      rw [hlt]
      have d1 : decide ((i : Int) < (i : Int)) = false := dF (by omega)
      simp only [F9.l2.b, d1, cF])
/-- What comes of the slots: a code with a slot's number, or none. -/
def codeP (jobs : List S54) (S L : Int) : List S56 → List S71 → List S56 → Int → Option (Int × Int)
  | _, _, [], _ => none
  | pre, ms, x :: l, i => match chkP jobs S L pre ms x with
    | .inl c => some (c, i)
    | .inr ms' => codeP jobs S L (pre ++ [x]) ms' l (i + 1)

theorem mS (b : Bool) : (!b || b) = true := by cases b <;> rfl

/-- The reference's round. -/
theorem F9.round (h : PInv M S L jobs (plan.take i) ms) (hi : i < plan.length) (hl : plan.length ≤ 5000) : F9.l0.b ((i : Int), M, S, L, jobs, plan, ms) =
    some (match chkP jobs S L (plan.take i) ms (plan.getD i z56) with | .inl c => .inr (.inl (c, (i : Int))) | .inr ms' => .inl (((i + 1 : Nat) : Int), M, S, L, jobs, plan, ms')) := by
  have d : decide ((i : Int) < (plan.length : Int)) = true := dT (by omega)
  have d2 : decide ((0 : Int) ≤ (i : Int)) = true := dT (by omega)
  have w : Go.IntKind.wrap .i64 ((i : Int) + 1) = ((i + 1 : Nat) : Int) := by rw [w64 (by omega) (by omega)]; rfl
  have hok := h.ok
  have e2 := fun x a late t hx => F9.l2_ok (M := M) (S := S) (L := L) (jobs := jobs) (ms := ms) (x := x) plan i (by omega) hl a late t hx
  generalize hx : plan.getD i z56 = x
  unfold chkP
  cases hb : badP jobs x with
  | true =>
    rw [if_pos rfl]
    have hb' := hb
    unfold badP outP at hb'
    cases h3 : (((decide (x.f0 < 0)) || (decide (x.f0 ≥ (jobs.length : Int)))) || (decide (x.f1 < 0))) with
    | true => simp only [F9.l0.b, d, d2, Bool.and_self, cT, Int.toNat_natCast, hx, h3, Bool.not_true, Bool.not_false, Bool.true_or]
    | false =>
      have h3' := h3
      simp only [Bool.or_eq_false_iff, decide_eq_false_iff_not] at h3'
      have d3 : decide (0 ≤ x.f0) = true := dT (by omega)
      have d4 : decide (x.f0 < (jobs.length : Int)) = true := dT (by omega)
      cases h4 : decide (x.f1 ≥ ((jobs.getD x.f0.toNat z54).f2.length : Int)) with
      | true => simp only [F9.l0.b, d, d2, Bool.and_self, cT, Int.toNat_natCast, hx, h3, h4, d3, d4, Bool.not_true, Bool.not_false, Bool.true_or, Bool.false_or, Bool.or_true]
      | false =>
        have h4' := of_decide_eq_false h4
        have d5 : decide (0 ≤ x.f1) = true := dT (by omega)
        have d6 : decide (x.f1 < ((jobs.getD x.f0.toNat z54).f2.length : Int)) = true := dT (by omega)
        rw [h3, h4] at hb'
        simp only [Bool.or_self, Bool.false_or] at hb'
        unfold tP at hb'
        simp only [F9.l0.b, d, d2, Bool.and_self, cT, Int.toNat_natCast, hx, h3, h4, d3, d4, d5, d6, Bool.not_true, Bool.not_false, Bool.true_or, Bool.false_or, Bool.or_true, Bool.or_self, hb']
  | false =>
    rw [if_neg (by decide)]
    obtain ⟨b1, b2, b3, b4, b5, b6, b7, b8, b9, b10⟩ := badP_no hok hb
    have hb' := hb
    unfold badP outP at hb'
    simp only [Bool.or_eq_false_iff] at hb'
    obtain ⟨⟨hb1, hb2⟩, hb3⟩ := hb'
    have hb1 : (((decide (x.f0 < 0)) || (decide (x.f0 ≥ (jobs.length : Int)))) || (decide (x.f1 < 0))) = false := by simp only [Bool.or_eq_false_iff]; exact hb1
    have d3 : decide (0 ≤ x.f0) = true := dT b1
    have d4 : decide (x.f0 < (jobs.length : Int)) = true := dT b2
    have d5 : decide (0 ≤ x.f1) = true := dT b3
    have d6 : decide (x.f1 < ((jobs.getD x.f0.toNat z54).f2.length : Int)) = true := dT b4
    have hlm := h.lm
    have d7 : decide (0 ≤ x.f2) = true := dT b7
    have d8 : decide (x.f2 < (ms.length : Int)) = true := dT (by omega)
    have ht : (jobs.getD x.f0.toNat z54).f2.getD x.f1.toNat z69 = tP jobs x := rfl
    have e2 := e2 x (x.f1 == 0) (decide (x.f3 ≥ (ms.getD x.f2.toNat z71).f0)) (tP jobs x) ⟨b3, b5⟩
    have e34 := F34.ok (ms.getD x.f2.toNat z71) (tP jobs x) L
    have e35 := fun fr to => F35.ok (ms.getD x.f2.toNat z71) (tP jobs x) fr to
    cases hs : (plan.take i).any (sameP x) with
    | true =>
      rw [if_pos rfl]
      rw [look_same _ _ hs, Sum.elim_inr] at e2
      simp only [F9.l0.b, d, d2, Bool.and_self, cT, cF, Int.toNat_natCast, hx, hb1, hb2, ht, hb3, d3, d4, d5, d6, d7, d8, Bool.not_true, Bool.not_false, Bool.or_true, Bool.or_self, e2, bS]
    | false =>
      rw [if_neg (by decide)]
      rw [look_ahead h hs b3, Sum.elim_inl] at e2
      cases hr : ((decide (x.f3 < 0)) || (decide (x.f3 > 1000000000))) with
      | true =>
        rw [if_pos rfl]
        simp only [F9.l0.b, d, d2, Bool.and_self, cT, cF, Int.toNat_natCast, hx, hb1, hb2, ht, hb3, d3, d4, d5, d6, d7, d8, Bool.not_true, Bool.not_false, Bool.or_true, Bool.or_self, e2, bS, hr]
      | false =>
        rw [if_neg (by decide)]
        have hr' := hr
        simp only [Bool.or_eq_false_iff, decide_eq_false_iff_not] at hr'
        have hlate : (!decide (x.f3 ≥ (ms.getD x.f2.toNat z71).f0)) = decide (x.f3 < (ms.getD x.f2.toNat z71).f0) := by
          by_cases hc : x.f3 ≥ (ms.getD x.f2.toNat z71).f0
          · rw [dT hc, dF (by omega)]; rfl
          · rw [dF hc, dT (by omega)]; rfl
        cases ha : (!aheadP (plan.take i) x || decide (x.f3 < (ms.getD x.f2.toNat z71).f0)) with
        | true =>
          rw [if_pos rfl]
          simp only [F9.l0.b, d, d2, Bool.and_self, cT, cF, Int.toNat_natCast, hx, hb1, hb2, ht, hb3, d3, d4, d5, d6, d7, d8, Bool.not_true, Bool.not_false, Bool.or_true, Bool.or_self, e2, bS, hr, hlate, ha]
        | false =>
          rw [if_neg (by decide)]
          have hge : (ms.getD x.f2.toNat z71).f0 ≤ x.f3 := by
            simp only [Bool.or_eq_false_iff, decide_eq_false_iff_not] at ha; omega
          by_cases hf : freshR L (ms.getD x.f2.toNat z71) (tP jobs x) = x.f5
          · rw [if_neg (by simpa using hf)]
            have hfe : (!(freshR L (ms.getD x.f2.toNat z71) (tP jobs x) == x.f5)) = false := by rw [hf]; simp
            obtain ⟨t1, t2⟩ := toR_eq hok b9 b10 (f := x.f3) (by omega) (by omega) x.f5
            by_cases hto : x.f4 = toR S x.f3 (tP jobs x) x.f5
            · rw [if_neg (by simpa using hto)]
              have hs1 := hok.s1
              have hmax : (if x.f4 > (ms.getD x.f2.toNat z71).f0 then x.f4 else (ms.getD x.f2.toNat z71).f0) = x.f4 := by
                rw [if_pos]
                rw [hto, t1]
                cases x.f5 <;> simp only [cond_true, cond_false] <;> omega
              have e35 := e35 x.f5 x.f4
              rw [hmax] at e35
              have hcond : ∀ v : Int, v = (bif x.f5 then Go.IntKind.wrap .i64 ((tP jobs x).f1 + S) else (tP jobs x).f1) → (x.f4 != Go.IntKind.wrap .i64 (x.f3 + v)) = false := fun v hv => by
                subst hv; rw [t2]; exact nF hto
              cases h5 : x.f5 with
              | true =>
                have hn := hcond _ rfl
                rw [h5, cond_true] at hn
                rw [h5] at hf e35 hfe e2
                rw [hf] at e34
                simp only [F9.l0.b, F9.t33, d, d2, Bool.and_self, cT, cF, Int.toNat_natCast, hx, hb1, hb2, ht, hb3, d3, d4, d5, d6, d7, d8, Bool.not_true, Bool.not_false, Bool.or_true, Bool.or_self, e2, bS, hr, hlate, ha, e34, h5, beq_self_eq_true, hn, e35, w]
              | false =>
                have hn := hcond _ rfl
                rw [h5, cond_false] at hn
                rw [h5] at hf e35 hfe e2
                rw [hf] at e34
                simp only [F9.l0.b, F9.t33, d, d2, Bool.and_self, cT, cF, Int.toNat_natCast, hx, hb1, hb2, ht, hb3, d3, d4, d5, d6, d7, d8, Bool.not_true, Bool.not_false, Bool.or_true, Bool.or_self, e2, bS, hr, hlate, ha, e34, h5, beq_self_eq_true, hn, e35, w]
            · rw [if_pos hto]
              have hcond : ∀ v : Int, v = (bif x.f5 then Go.IntKind.wrap .i64 ((tP jobs x).f1 + S) else (tP jobs x).f1) → (x.f4 != Go.IntKind.wrap .i64 (x.f3 + v)) = true := fun v hv => by
                subst hv; rw [t2]; exact nT hto
              cases h5 : x.f5 with
              | true =>
                have hn := hcond _ rfl
                rw [h5, cond_true] at hn
                rw [h5] at hf e2
                rw [hf] at e34
                simp only [F9.l0.b, F9.t33, d, d2, Bool.and_self, cT, cF, Int.toNat_natCast, hx, hb1, hb2, ht, hb3, d3, d4, d5, d6, d7, d8, Bool.not_true, Bool.not_false, Bool.or_true, Bool.or_self, e2, bS, hr, hlate, ha, e34, h5, beq_self_eq_true, hn]
              | false =>
                have hn := hcond _ rfl
                rw [h5, cond_false] at hn
                rw [h5] at hf e2
                rw [hf] at e34
                simp only [F9.l0.b, F9.t33, d, d2, Bool.and_self, cT, cF, Int.toNat_natCast, hx, hb1, hb2, ht, hb3, d3, d4, d5, d6, d7, d8, Bool.not_true, Bool.not_false, Bool.or_true, Bool.or_self, e2, bS, hr, hlate, ha, e34, h5, beq_self_eq_true, hn]
          · rw [if_pos hf]
            have hfe : (!(freshR L (ms.getD x.f2.toNat z71) (tP jobs x) == x.f5)) = true := by simpa using hf
            simp only [F9.l0.b, d, d2, Bool.and_self, cT, cF, Int.toNat_natCast, hx, hb1, hb2, ht, hb3, d3, d4, d5, d6, d7, d8, Bool.not_true, Bool.not_false, Bool.or_true, Bool.or_self, e2, bS, hr, hlate, ha, e34, hfe]
end

end Go.Proofs.YtchohkelpjfpcaaDoor.AX

/- Plans that are handed in: the program answers as the reference. No conditions. -/
namespace Go.Proofs.YtchohkelpjfpcaaDoor.AX
open Go

def c78 (p : S56) : S78 := ⟨p.f0, p.f1, p.f4⟩
theorem mhas_T (p : S78 → Bool) (l : List S78) : mhas (U := uni) 12 p l = l.any p := rfl
theorem mfind_U (p : S78 → Bool) (l : List S78) : (mfind (U := uni) 12 p l : S78) = mfT z78 p l := rfl
theorem mput_U (p : S78 → Bool) (x : S78) : ∀ l : List S78, (mput (U := uni) 12 p x l : List S78) = mpT p x l
  | [] => rfl
  | y :: r => congrArg (fun t => bif p y then x :: r else y :: t) (mput_U p x r)
theorem mpT_new {E : Type} (p : E → Bool) (x : E) : ∀ l : List E, l.any p = false → mpT p x l = l ++ [x]
  | [], _ => rfl
  | y :: r, h => by
    simp only [List.any_cons, Bool.or_eq_false_iff] at h
    simp only [mpT, h.1, cond_false, List.cons_append, mpT_new p x r h.2]

theorem any78 (x : S56) (pre : List S56) : (pre.map c78).any (fun (e : S78) => ((x.f0 == e.f0) && (x.f1 == e.f1))) = pre.any (sameP x) := by
  rw [List.any_map]; rfl
theorem any78p (x : S56) (pre : List S56) : (pre.map c78).any (fun (e : S78) => ((x.f0 == e.f0) && (x.f1 - 1 == e.f1))) = (pre.find? (prevP x)).isSome := by
  rw [List.any_map, List.isSome_find?]; rfl
theorem find78p (x : S56) (pre : List S56) {p : S56} (h : pre.find? (prevP x) = some p) : (mfT z78 (fun (e : S78) => ((x.f0 == e.f0) && (x.f1 - 1 == e.f1))) (pre.map c78)).f2 = p.f4 := by
  unfold mfT
  rw [List.find?_map]
  rw [show ((fun (e : S78) => ((x.f0 == e.f0) && (x.f1 - 1 == e.f1))) ∘ c78) = prevP x from rfl, h]
  rfl

section
variable {M S L : Int} {jobs : List S54} {plan : List S56} {ms : List S71} {i : Nat}

/-- What stands behind the test of the step ahead. -/
theorem F13.t22_ok (h : PInv M S L jobs (plan.take i) ms) {x : S56} (hb : badP jobs x = false) (hs : (plan.take i).any (sameP x) = false) (hr : 0 ≤ x.f3 ∧ x.f3 ≤ 1000000000) (n : Int) :
    F13.t22 ((i : Int), n, (i : Int), M, S, L, x.f0, x.f1, x.f2, x.f3, x.f4, x.f5, x.f0, x.f1, jobs, plan, (plan.take i).map c78, ms.map m85) = some (
      if x.f3 < (ms.getD x.f2.toNat z71).f0 then .inl (13, (i : Int))
      else if freshR L (ms.getD x.f2.toNat z71) (tP jobs x) ≠ x.f5 then .inl (16, (i : Int))
      else if x.f4 ≠ toR S x.f3 (tP jobs x) x.f5 then .inl (19, (i : Int))
      else .inr (n, (i : Int), M, S, L, jobs, plan, (plan.take i ++ [x]).map c78, (ms.set x.f2.toNat ⟨x.f4, (tP jobs x).f2, wearR (ms.getD x.f2.toNat z71) (tP jobs x) x.f5⟩).map m85)) := by
  have hok := h.ok
  obtain ⟨b1, b2, b3, b4, b5, b6, b7, b8, b9, b10⟩ := badP_no hok hb
  have hlm := h.lm
  have hx2 : x.f2.toNat < ms.length := by omega
  have d3 : decide (0 ≤ x.f0) = true := dT b1
  have d4 : decide (x.f0 < (jobs.length : Int)) = true := dT b2
  have d5 : decide (0 ≤ x.f1) = true := dT b3
  have d6 : decide (x.f1 < ((jobs.getD x.f0.toNat z54).f2.length : Int)) = true := dT b4
  have d7 : decide (0 ≤ x.f2) = true := dT b7
  have d8 : decide (x.f2 < ((ms.map m85).length : Int)) = true := dT (by rw [List.length_map]; omega)
  have ht : (jobs.getD x.f0.toNat z54).f2.getD x.f1.toNat z69 = tP jobs x := rfl
  have g : (ms.map m85).getD x.f2.toNat z85 = m85 (ms.getD x.f2.toNat z71) := at85 hx2
  have hm0 : (m85 (ms.getD x.f2.toNat z71)).f0 = (ms.getD x.f2.toNat z71).f0 := rfl
  have e40 := F40.ok ms x.f2 M S L (tP jobs x) hx2
  have hmp : mpT (fun (e : S78) => ((x.f0 == e.f0) && (x.f1 == e.f1))) (⟨x.f0, x.f1, x.f4⟩ : S78) ((plan.take i).map c78) = (plan.take i ++ [x]).map c78 := by
    rw [mpT_new _ _ _ (by rw [any78]; exact hs), List.map_append]; rfl
  have hset : ∀ (t : Int) (y : S71), (((ms.set x.f2.toNat y).map m85).set x.f2.toNat (⟨t, (((ms.set x.f2.toNat y).map m85).getD x.f2.toNat z85).f1, (((ms.set x.f2.toNat y).map m85).getD x.f2.toNat z85).f2⟩ : S85)) = (ms.set x.f2.toNat ⟨t, y.f1, y.f2⟩).map m85 := fun t y => by
    rw [at85 (by simpa using hx2), getD_set hx2]
    rw [show (⟨t, (m85 y).f1, (m85 y).f2⟩ : S85) = m85 ⟨t, y.f1, y.f2⟩ from rfl, ← List.map_set, List.set_set]
  by_cases hl : x.f3 < (ms.getD x.f2.toNat z71).f0
  · rw [if_pos hl]
    simp only [F13.t22, d7, d8, Bool.and_self, cT, g, hm0, dT hl]
  · rw [if_neg hl]
    by_cases hf : freshR L (ms.getD x.f2.toNat z71) (tP jobs x) = x.f5
    · rw [if_neg (by simpa using hf)]
      rw [hf] at e40
      have hto : ∀ b, x.f5 = b → toR S x.f3 (tP jobs x) b = (bif b then Go.IntKind.wrap .i64 (Go.IntKind.wrap .i64 (x.f3 + (tP jobs x).f1) + S) else Go.IntKind.wrap .i64 (x.f3 + (tP jobs x).f1)) := fun b _ => rfl
      by_cases h4 : x.f4 = toR S x.f3 (tP jobs x) x.f5
      · rw [if_neg (by simpa using h4)]
        cases h5 : x.f5 with
        | true =>
          rw [h5] at h4 e40
          have h4' : Go.IntKind.wrap .i64 (Go.IntKind.wrap .i64 (x.f3 + (tP jobs x).f1) + S) = x.f4 := h4.symm
          have n0 : (x.f4 != x.f4) = false := nF rfl
          simp only [F13.t22, F13.t31, d3, d4, d5, d6, d7, d8, Bool.and_self, cT, cF, g, hm0, dF hl, ht, e40, bS, h5, beq_self_eq_true, Bool.not_true, h4', n0, mput_U, hmp, hset]
        | false =>
          rw [h5] at h4 e40
          have h4' : Go.IntKind.wrap .i64 (x.f3 + (tP jobs x).f1) = x.f4 := h4.symm
          have n0 : (x.f4 != x.f4) = false := nF rfl
          simp only [F13.t22, F13.t31, d3, d4, d5, d6, d7, d8, Bool.and_self, cT, cF, g, hm0, dF hl, ht, e40, bS, h5, beq_self_eq_true, Bool.not_true, h4', n0, mput_U, hmp, hset]
      · rw [if_pos h4]
        cases h5 : x.f5 with
        | true =>
          rw [h5] at h4 e40
          have n0 : (x.f4 != Go.IntKind.wrap .i64 (Go.IntKind.wrap .i64 (x.f3 + (tP jobs x).f1) + S)) = true := nT h4
          simp only [F13.t22, F13.t31, d3, d4, d5, d6, d7, d8, Bool.and_self, cT, cF, g, hm0, dF hl, ht, e40, bS, h5, beq_self_eq_true, Bool.not_true, n0]
        | false =>
          rw [h5] at h4 e40
          have n0 : (x.f4 != Go.IntKind.wrap .i64 (x.f3 + (tP jobs x).f1)) = true := nT h4
          simp only [F13.t22, F13.t31, d3, d4, d5, d6, d7, d8, Bool.and_self, cT, cF, g, hm0, dF hl, ht, e40, bS, h5, beq_self_eq_true, Bool.not_true, n0]
    · rw [if_pos hf]
      have hfe : (!(freshR L (ms.getD x.f2.toNat z71) (tP jobs x) == x.f5)) = true := by simpa using hf
      simp only [F13.t22, F13.t31, d3, d4, d5, d6, d7, d8, Bool.and_self, cT, cF, g, hm0, dF hl, ht, e40, bS, hfe]

/-- The program's round. -/
theorem F13.round (h : PInv M S L jobs (plan.take i) ms) (hi : i < plan.length) (hl : plan.length ≤ 5000) : F13.l0.b ((plan.length : Int), (i : Int), M, S, L, jobs, plan, (plan.take i).map c78, ms.map m85) =
    some (match chkP jobs S L (plan.take i) ms (plan.getD i z56) with | .inl c => .inr (.inl (c, (i : Int))) | .inr ms' => .inl ((plan.length : Int), ((i + 1 : Nat) : Int), M, S, L, jobs, plan, (plan.take i ++ [plan.getD i z56]).map c78, ms'.map m85)) := by
  have d : decide ((i : Int) < (plan.length : Int)) = true := dT (by omega)
  have d2 : decide ((0 : Int) ≤ (i : Int)) = true := dT (by omega)
  have w : Go.IntKind.wrap .i64 ((i : Int) + 1) = ((i + 1 : Nat) : Int) := by rw [w64 (by omega) (by omega)]; rfl
  have hok := h.ok
  generalize hx : plan.getD i z56 = x
  unfold chkP
  cases hb : badP jobs x with
  | true =>
    rw [if_pos rfl]
    have hb' := hb
    unfold badP outP at hb'
    cases h3 : (((decide (x.f0 < 0)) || (decide (x.f0 ≥ (jobs.length : Int)))) || (decide (x.f1 < 0))) with
    | true => simp only [F13.l0.b, d, d2, Bool.and_self, cT, Int.toNat_natCast, hx, h3, Bool.not_true, Bool.not_false, Bool.true_or]
    | false =>
      have h3' := h3
      simp only [Bool.or_eq_false_iff, decide_eq_false_iff_not] at h3'
      have d3 : decide (0 ≤ x.f0) = true := dT (by omega)
      have d4 : decide (x.f0 < (jobs.length : Int)) = true := dT (by omega)
      cases h4 : decide (x.f1 ≥ ((jobs.getD x.f0.toNat z54).f2.length : Int)) with
      | true => simp only [F13.l0.b, d, d2, Bool.and_self, cT, Int.toNat_natCast, hx, h3, h4, d3, d4, Bool.not_true, Bool.not_false, Bool.true_or, Bool.false_or, Bool.or_true]
      | false =>
        have h4' := of_decide_eq_false h4
        have d5 : decide (0 ≤ x.f1) = true := dT (by omega)
        have d6 : decide (x.f1 < ((jobs.getD x.f0.toNat z54).f2.length : Int)) = true := dT (by omega)
        rw [h3, h4] at hb'
        simp only [Bool.or_self, Bool.false_or] at hb'
        unfold tP at hb'
        simp only [F13.l0.b, d, d2, Bool.and_self, cT, Int.toNat_natCast, hx, h3, h4, d3, d4, d5, d6, Bool.not_true, Bool.not_false, Bool.true_or, Bool.false_or, Bool.or_true, Bool.or_self, hb']
  | false =>
    rw [if_neg (by decide)]
    obtain ⟨b1, b2, b3, b4, b5, b6, b7, b8, b9, b10⟩ := badP_no hok hb
    have hb' := hb
    unfold badP outP at hb'
    simp only [Bool.or_eq_false_iff] at hb'
    obtain ⟨⟨hb1, hb2⟩, hb3⟩ := hb'
    have hb1 : (((decide (x.f0 < 0)) || (decide (x.f0 ≥ (jobs.length : Int)))) || (decide (x.f1 < 0))) = false := by simp only [Bool.or_eq_false_iff]; exact hb1
    have d3 : decide (0 ≤ x.f0) = true := dT b1
    have d4 : decide (x.f0 < (jobs.length : Int)) = true := dT b2
    have d5 : decide (0 ≤ x.f1) = true := dT b3
    have d6 : decide (x.f1 < ((jobs.getD x.f0.toNat z54).f2.length : Int)) = true := dT b4
    have ht : (jobs.getD x.f0.toNat z54).f2.getD x.f1.toNat z69 = tP jobs x := rfl
    have w1 : Go.IntKind.wrap .i64 (x.f1 - 1) = x.f1 - 1 := w64 (by omega) (by omega)
    cases hs : (plan.take i).any (sameP x) with
    | true =>
      rw [if_pos rfl]
      simp only [F13.l0.b, d, d2, Bool.and_self, cT, cF, Int.toNat_natCast, hx, hb1, hb2, ht, hb3, d3, d4, d5, d6, Bool.not_true, Bool.not_false, Bool.or_true, Bool.or_self, mhas_T, any78, hs]
    | false =>
      rw [if_neg (by decide)]
      cases hr : ((decide (x.f3 < 0)) || (decide (x.f3 > 1000000000))) with
      | true =>
        rw [if_pos rfl]
        simp only [F13.l0.b, d, d2, Bool.and_self, cT, cF, Int.toNat_natCast, hx, hb1, hb2, ht, hb3, d3, d4, d5, d6, Bool.not_true, Bool.not_false, Bool.or_true, Bool.or_self, mhas_T, any78, hs, hr]
      | false =>
        rw [if_neg (by decide)]
        have hr' := hr
        simp only [Bool.or_eq_false_iff, decide_eq_false_iff_not] at hr'
        have e22 := F13.t22_ok h hb hs ⟨by omega, by omega⟩ (plan.length : Int)
        have rest : aheadP (plan.take i) x = true → ((F13.t22 ((i : Int), (plan.length : Int), (i : Int), M, S, L, x.f0, x.f1, x.f2, x.f3, x.f4, x.f5, x.f0, x.f1, jobs, plan, (plan.take i).map c78, ms.map m85)).bind fun q => match q with
            | (.inl yt22) => (some (.inr (.inl (yt22.1, yt22.2))) : Option ((Int × Int × Int × Int × Int × (List S54) × (List S56) × (List S78) × (List S85)) ⊕ ((Int × Int) ⊕ ((List S54) × (List S56) × (List S78)))))
            | (.inr yt22) => some (.inl (yt22.1, (Go.IntKind.wrap .i64 (yt22.2.1 + 1)), yt22.2.2.1, yt22.2.2.2.1, yt22.2.2.2.2.1, yt22.2.2.2.2.2.1, yt22.2.2.2.2.2.2.1, yt22.2.2.2.2.2.2.2.1, yt22.2.2.2.2.2.2.2.2))) =
            some (match (if (!aheadP (plan.take i) x || decide (x.f3 < (ms.getD x.f2.toNat z71).f0)) = true then (.inl 13 : Int ⊕ List S71)
              else if freshR L (ms.getD x.f2.toNat z71) (tP jobs x) ≠ x.f5 then .inl 16
              else if x.f4 ≠ toR S x.f3 (tP jobs x) x.f5 then .inl 19
              else .inr (ms.set x.f2.toNat ⟨x.f4, (tP jobs x).f2, wearR (ms.getD x.f2.toNat z71) (tP jobs x) x.f5⟩)) with
              | .inl c => .inr (.inl (c, (i : Int))) | .inr ms' => .inl ((plan.length : Int), ((i + 1 : Nat) : Int), M, S, L, jobs, plan, (plan.take i ++ [x]).map c78, ms'.map m85)) := fun ha => by
          rw [e22, ha, bS]
          by_cases q1 : x.f3 < (ms.getD x.f2.toNat z71).f0
          · rw [if_pos q1, if_pos (show (!true || decide (x.f3 < (ms.getD x.f2.toNat z71).f0)) = true by rw [dT q1]; rfl)]
          · rw [if_neg q1, if_neg (show ¬ (!true || decide (x.f3 < (ms.getD x.f2.toNat z71).f0)) = true by rw [dF q1]; decide)]
            by_cases q2 : freshR L (ms.getD x.f2.toNat z71) (tP jobs x) ≠ x.f5
            · rw [if_pos q2, if_pos q2]
            · rw [if_neg q2, if_neg q2]
              by_cases q3 : x.f4 ≠ toR S x.f3 (tP jobs x) x.f5
              · rw [if_pos q3, if_pos q3]
              · rw [if_neg q3, if_neg q3]
                simp only [w]
        by_cases h1 : x.f1 > 0
        · cases hf : (plan.take i).find? (prevP x) with
          | none =>
            have ha : aheadP (plan.take i) x = false := by unfold aheadP; rw [if_pos h1, hf]
            rw [if_pos (show (!aheadP (plan.take i) x || decide (x.f3 < (ms.getD x.f2.toNat z71).f0)) = true by rw [ha]; rfl)]
            simp only [F13.l0.b, d, d2, Bool.and_self, cT, cF, Int.toNat_natCast, hx, hb1, hb2, ht, hb3, d3, d4, d5, d6, Bool.not_true, Bool.not_false, Bool.or_true, Bool.or_self, mhas_T, any78, hs, hr, dT h1, w1, any78p, hf, Option.isSome_none, Bool.true_or]
          | some p =>
            have ha : aheadP (plan.take i) x = decide (p.f4 ≤ x.f3) := by unfold aheadP; rw [if_pos h1, hf]
            have hfp := find78p x (plan.take i) hf
            by_cases hp : p.f4 ≤ x.f3
            · rw [dT hp] at ha
              have dp : decide (x.f3 < p.f4) = false := dF (by omega)
              rw [← rest ha]
              simp only [F13.l0.b, d, d2, Bool.and_self, cT, cF, Int.toNat_natCast, hx, hb1, hb2, ht, hb3, d3, d4, d5, d6, Bool.not_true, Bool.not_false, Bool.or_true, Bool.or_self, mhas_T, any78, hs, hr, dT h1, w1, any78p, hf, Option.isSome_some, mfind_U, hfp, dp]
              rfl
            · rw [dF hp] at ha
              have dp : decide (x.f3 < p.f4) = true := dT (by omega)
              rw [if_pos (show (!aheadP (plan.take i) x || decide (x.f3 < (ms.getD x.f2.toNat z71).f0)) = true by rw [ha]; rfl)]
              simp only [F13.l0.b, d, d2, Bool.and_self, cT, cF, Int.toNat_natCast, hx, hb1, hb2, ht, hb3, d3, d4, d5, d6, Bool.not_true, Bool.not_false, Bool.or_true, Bool.or_self, mhas_T, any78, hs, hr, dT h1, w1, any78p, hf, Option.isSome_some, mfind_U, hfp, dp]
        · have ha : aheadP (plan.take i) x = true := by unfold aheadP; rw [if_neg h1]
          rw [← rest ha]
          simp only [F13.l0.b, d, d2, Bool.and_self, cT, cF, Int.toNat_natCast, hx, hb1, hb2, ht, hb3, d3, d4, d5, d6, Bool.not_true, Bool.not_false, Bool.or_true, Bool.or_self, mhas_T, any78, hs, hr, dF h1]
          rfl
end

end Go.Proofs.YtchohkelpjfpcaaDoor.AX

/- Plans that are handed in: both answer the same. No conditions. -/
namespace Go.Proofs.YtchohkelpjfpcaaDoor.AX
open Go

section
variable {M S L : Int} {jobs : List S54} {plan : List S56}

theorem code_loops (hl : plan.length ≤ 5000) : ∀ (n i : Nat) (ms : List S71), i + n = plan.length → PInv M S L jobs (plan.take i) ms →
    F9.l0 ((i : Int), M, S, L, jobs, plan, ms) = some (match codeP jobs S L (plan.take i) ms (plan.drop i) i with | none => .inr (jobs, plan) | some c => .inl c) ∧
    F13.l0 ((plan.length : Int), (i : Int), M, S, L, jobs, plan, (plan.take i).map c78, ms.map m85) = some (match codeP jobs S L (plan.take i) ms (plan.drop i) i with | none => .inr (jobs, plan, plan.map c78) | some c => .inl c)
  | 0, i, ms, hi, h => by
    have d : decide ((i : Int) < (plan.length : Int)) = false := dF (by omega)
    have ht : plan.take i = plan := List.take_of_length_le (by omega)
    rw [List.drop_eq_nil_of_le (by omega), ht]
    constructor
    · unfold F9.l0; exact lim_out (by simp only [F9.l0.b, d, cF, codeP])
    · unfold F13.l0; exact lim_out (by simp only [F13.l0.b, d, cF, codeP])
  | n + 1, i, ms, hi, h => by
    have hlt : i < plan.length := by omega
    have r9 := F9.round h hlt hl
    have r13 := F13.round h hlt hl
    have hnx := fun ms' hc => chk_next (x := plan.getD i z56) (ms' := ms') h hc
    rw [drop_cons hlt]
    have hg : plan.getD i z56 = plan[i] := getD_lt hlt
    have htk : plan.take i ++ [plan[i]] = plan.take (i + 1) := by simp
    rw [hg] at r9 r13 hnx
    rw [htk] at r13 hnx
    simp only [codeP]
    rw [htk]
    generalize chkP jobs S L (plan.take i) ms plan[i] = q at r9 r13 hnx ⊢
    cases q with
    | inl c =>
      constructor
      · unfold F9.l0; exact lim_out r9
      · unfold F13.l0; exact lim_out r13
    | inr ms' =>
      obtain ⟨a, b⟩ := code_loops hl n (i + 1) ms' (by omega) (hnx ms' rfl)
      constructor
      · refine Eq.trans ?_ a
        unfold F9.l0; exact lim_in r9
      · refine Eq.trans ?_ b
        unfold F13.l0; exact lim_in r13

def sumL (jobs : List S54) : Int := jobs.foldl (fun a j => Go.IntKind.wrap .i64 (a + (j.f2.length : Int))) 0

theorem F9.l4_ok (h : jobs.length ≤ 5000) : F9.l4 (0, 0, jobs, plan) = some (sumL jobs, plan) :=
  lim_fold (f := F9.l4.b) (fun i (a : Int) => (a, (i : Int), jobs, plan)) jobs z54 (fun a j => Go.IntKind.wrap .i64 (a + (j.f2.length : Int))) (fun _ => True) (z := fun a => (a, plan)) 0 trivial (fun _ _ _ _ => trivial) (fun i a hi _ => by
    have d1 : decide ((i : Int) < (jobs.length : Int)) = true := dT (by omega)
    have d2 : decide ((0 : Int) ≤ (i : Int)) = true := dT (by omega)
    have w : Go.IntKind.wrap .i64 ((i : Int) + 1) = ((i + 1 : Nat) : Int) := by rw [w64 (by omega) (by omega)]; rfl
    simp only [F9.l4.b, d1, d2, Bool.and_self, cT, Int.toNat_natCast, w])
    (fun a _ => by
      have d1 : decide ((jobs.length : Int) < (jobs.length : Int)) = false := dF (by omega)
      simp only [F9.l4.b, d1, cF])

theorem F13.l2_ok (h : jobs.length ≤ 5000) (mp : List S78) : F13.l2 (0, (jobs.length : Int), 0, plan, mp, jobs) = some (sumL jobs, plan, mp) :=
  lim_fold (f := F13.l2.b) (fun i (a : Int) => (a, (jobs.length : Int), (i : Int), plan, mp, jobs)) jobs z54 (fun a j => Go.IntKind.wrap .i64 (a + (j.f2.length : Int))) (fun _ => True) (z := fun a => (a, plan, mp)) 0 trivial (fun _ _ _ _ => trivial) (fun i a hi _ => by
    have d1 : decide ((i : Int) < (jobs.length : Int)) = true := dT (by omega)
    have d2 : decide ((0 : Int) ≤ (i : Int)) = true := dT (by omega)
    have w : Go.IntKind.wrap .i64 ((i : Int) + 1) = ((i + 1 : Nat) : Int) := by rw [w64 (by omega) (by omega)]; rfl
    simp only [F13.l2.b, d1, d2, Bool.and_self, cT, Int.toNat_natCast, w])
    (fun a _ => by
      have d1 : decide ((jobs.length : Int) < (jobs.length : Int)) = false := dF (by omega)
      simp only [F13.l2.b, d1, cF])

/-- What is answered about a plan. -/
def planC (M S L : Int) (jobs : List S54) (plan : List S56) : Int × Int :=
  if ((decide ((jobs.length : Int) > 4096)) || (decide ((plan.length : Int) > 4096))) = true then (2, 0)
  else if shopR M S L jobs = false then (1, 0)
  else match codeP jobs S L [] (List.replicate M.toNat m0) plan 0 with
    | some c => c
    | none => if (plan.length : Int) < sumL jobs then (18, (plan.length : Int)) else (0, 0)

theorem F9.ok (M S L : Int) (jobs : List S54) (plan : List S56) : F9.F ((M, S, L), jobs, plan) = some (planC M S L jobs plan) ∧ F13.F ((M, S, L), jobs, plan) = some (planC M S L jobs plan) := by
  unfold planC
  cases h0 : ((decide ((jobs.length : Int) > 4096)) || (decide ((plan.length : Int) > 4096))) with
  | true =>
    rw [if_pos rfl]
    exact ⟨by simp only [F9.F, h0, cT], by simp only [F13.F, h0, cT]⟩
  | false =>
    rw [if_neg (by decide)]
    have h0' := h0
    simp only [Bool.or_eq_false_iff, decide_eq_false_iff_not] at h0'
    cases hk : shopR M S L jobs with
    | false =>
      rw [if_pos rfl]
      exact ⟨by simp only [F9.F, h0, cF, F32.ok, bS, hk, Bool.not_false, cT], by simp only [F13.F, h0, cF, F38.ok, bS, hk, Bool.not_false, cT]⟩
    | true =>
      rw [if_neg (by decide)]
      have hs := shop_ok hk
      have := hs.m1
      have := hs.m2
      have := hs.n
      have hinv : PInv M S L jobs (plan.take 0) (List.replicate M.toNat m0) := ⟨hs, by simp, fun i hi => by rw [getD_lt hi]; simp, List.Pairwise.nil, fun p hp => by simp at hp⟩
      obtain ⟨a, b⟩ := code_loops (by omega) plan.length 0 _ (by omega) hinv
      simp only [List.take_zero, List.drop_zero, List.map_nil] at a b
      have a : F9.l0 (0, M, S, L, jobs, plan, List.replicate M.toNat m0) = _ := a
      have b : F13.l0 ((plan.length : Int), 0, M, S, L, jobs, plan, [], (List.replicate M.toNat m0).map m85) = _ := b
      have e4 := F9.l4_ok (jobs := jobs) (plan := plan) (by omega)
      have e2 := F13.l2_ok (jobs := jobs) (plan := plan) (by omega) (plan.map c78)
      rw [show ((0 : Nat) : Int) = 0 from rfl] at a b
      cases hc : codeP jobs S L [] (List.replicate M.toNat m0) plan 0 with
      | some c =>
        rw [hc] at a b
        constructor
        · simp only [F9.F, h0, cF, F32.ok, bS, hk, Bool.not_true, F33.ok (show 0 ≤ M by omega) (show M ≤ 100 by omega), a]
        · simp only [F13.F, h0, cF, F38.ok, bS, hk, Bool.not_true, F39.ok (show 0 ≤ M by omega) (show M ≤ 100 by omega), b]
      | none =>
        rw [hc] at a b
        by_cases hq : (plan.length : Int) < sumL jobs
        · constructor
          · simp only [F9.F, h0, cF, F32.ok, bS, hk, Bool.not_true, F33.ok (show 0 ≤ M by omega) (show M ≤ 100 by omega), a, e4, dT hq, cT, if_pos hq]
          · simp only [F13.F, h0, cF, F38.ok, bS, hk, Bool.not_true, F39.ok (show 0 ≤ M by omega) (show M ≤ 100 by omega), b, e2, List.length_map, dT hq, cT, if_pos hq]
        · constructor
          · simp only [F9.F, h0, cF, F32.ok, bS, hk, Bool.not_true, F33.ok (show 0 ≤ M by omega) (show M ≤ 100 by omega), a, e4, dF hq, if_neg hq]
          · simp only [F13.F, h0, cF, F38.ok, bS, hk, Bool.not_true, F39.ok (show 0 ≤ M by omega) (show M ≤ 100 by omega), b, e2, List.length_map, dF hq, if_neg hq]
end

end Go.Proofs.YtchohkelpjfpcaaDoor.AX

/- Ledgers: the program and its reference agree. No conditions. -/
namespace Go.Proofs.YtchohkelpjfpcaaDoor.AX
open Go

theorem chk_code {jobs : List S54} {S L : Int} {pre : List S56} {ms : List S71} {x : S56} {c : Int} (h : chkP jobs S L pre ms x = .inl c) : c ≠ 0 := by
  unfold chkP at h
  repeat' split at h
  all_goals first | (injection h with h; subst h; decide) | cases h
theorem chk_bad {jobs : List S54} {S L : Int} {pre : List S56} {ms ms' : List S71} {x : S56} (h : chkP jobs S L pre ms x = .inr ms') : badP jobs x = false := by
  unfold chkP at h
  split at h
  · cases h
  · rename_i hb; simpa using hb
theorem code_nz {jobs : List S54} {S L : Int} : ∀ {l pre : List S56} {ms : List S71} {i : Int} {c : Int × Int}, codeP jobs S L pre ms l i = some c → c.1 ≠ 0
  | [], _, _, _, _, h => by simp [codeP] at h
  | x :: l, pre, ms, i, c, h => by
    simp only [codeP] at h
    cases hq : chkP jobs S L pre ms x with
    | inl c' => rw [hq] at h; simp at h; subst h; exact chk_code hq
    | inr ms' => rw [hq] at h; exact code_nz h
theorem code_all {jobs : List S54} {S L : Int} : ∀ {l pre : List S56} {ms : List S71} {i : Int}, codeP jobs S L pre ms l i = none → ∀ x ∈ l, badP jobs x = false
  | [], _, _, _, _, x, hx => by simp at hx
  | y :: l, pre, ms, i, h, x, hx => by
    simp only [codeP] at h
    cases hq : chkP jobs S L pre ms y with
    | inl c' => rw [hq] at h; cases h
    | inr ms' =>
      rw [hq] at h
      rcases List.mem_cons.1 hx with rfl | hx
      · exact chk_bad hq
      · exact code_all h x hx

theorem planC_ok {M S L : Int} {jobs : List S54} {plan : List S56} (h : (planC M S L jobs plan).1 = 0) : ShopOk M S L jobs ∧ plan.length ≤ 4096 ∧ ∀ x ∈ plan, badP jobs x = false := by
  unfold planC at h
  split at h
  · cases h
  · rename_i h0
    simp only [Bool.or_eq_true, decide_eq_true_eq, not_or] at h0
    split at h
    · cases h
    · rename_i hk
      have hk : shopR M S L jobs = true := by simpa using hk
      refine ⟨shop_ok hk, by omega, ?_⟩
      cases hc : codeP jobs S L [] (List.replicate M.toNat m0) plan 0 with
      | some c => rw [hc] at h; exact absurd h (code_nz hc)
      | none => exact code_all hc

abbrev Led := Int × Int × List Int × List Int
def ledG (a : Led) (x : S56) : Led :=
  ((if x.f4 > a.1 then x.f4 else a.1), (bif x.f5 then Go.IntKind.wrap .i64 (a.2.1 + 1) else a.2.1), a.2.2.1.set x.f0.toNat (if x.f4 > a.2.2.1.getD x.f0.toNat 0 then x.f4 else a.2.2.1.getD x.f0.toNat 0), a.2.2.2.set x.f2.toNat (Go.IntKind.wrap .i64 (a.2.2.2.getD x.f2.toNat 0 + Go.IntKind.wrap .i64 (x.f4 - x.f3))))

section
variable {M S L : Int} {jobs : List S54} {plan : List S56}

theorem led_step (hok : ShopOk M S L jobs) {x : S56} (hb : badP jobs x = false) {a : Led} (h : a.2.2.1.length = jobs.length ∧ a.2.2.2.length = M.toNat) : (ledG a x).2.2.1.length = jobs.length ∧ (ledG a x).2.2.2.length = M.toNat := by
  unfold ledG; simpa using h

theorem F27.l0_ok (hok : ShopOk M S L jobs) (hl : plan.length ≤ 4096) (hb : ∀ x ∈ plan, badP jobs x = false) : F27.l0 (0, M, S, L, 0, 0, 0, 0, 0, 0, 0, 0, jobs, plan, List.replicate jobs.length 0, List.replicate M.toNat 0) =
    some (let q := plan.foldl ledG (0, 0, List.replicate jobs.length 0, List.replicate M.toNat 0); (M, S, L, 0, 0, 0, 0, q.1, 0, 0, q.2.1, jobs, q.2.2.1, q.2.2.2)) :=
  lim_fold (f := F27.l0.b) (fun i (a : Led) => ((i : Int), M, S, L, 0, 0, 0, 0, a.1, 0, 0, a.2.1, jobs, plan, a.2.2.1, a.2.2.2)) plan z56 ledG (fun a => a.2.2.1.length = jobs.length ∧ a.2.2.2.length = M.toNat) (z := fun q => (M, S, L, 0, 0, 0, 0, q.1, 0, 0, q.2.1, jobs, q.2.2.1, q.2.2.2)) (0, 0, List.replicate jobs.length 0, List.replicate M.toNat 0) (by simp)
    (fun a i hi h => led_step hok (hb _ (by rw [getD_lt hi]; exact List.getElem_mem hi)) h) (fun i a hi h => by
    obtain ⟨a1, a2, a3, a4⟩ := a
    obtain ⟨h3, h4⟩ := h
    dsimp only at h3 h4 ⊢
    have d1 : decide ((i : Int) < (plan.length : Int)) = true := dT (by omega)
    have d2 : decide ((0 : Int) ≤ (i : Int)) = true := dT (by omega)
    have w : Go.IntKind.wrap .i64 ((i : Int) + 1) = ((i + 1 : Nat) : Int) := by rw [w64 (by omega) (by omega)]; rfl
    have hbx := hb (plan.getD i z56) (by rw [getD_lt hi]; exact List.getElem_mem hi)
    generalize hx : plan.getD i z56 = x at hbx
    obtain ⟨b1, b2, b3, b4, b5, b6, b7, b8, b9, b10⟩ := badP_no hok hbx
    have d3 : decide (0 ≤ x.f0) = true := dT b1
    have d4 : decide (x.f0 < (a3.length : Int)) = true := dT (by omega)
    have d7 : decide (0 ≤ x.f2) = true := dT b7
    have d8 : decide (x.f2 < (a4.length : Int)) = true := dT (by omega)
    unfold ledG
    cases h5 : x.f5 with
    | true => simp only [F27.l0.b, d1, d2, d3, d4, d7, d8, Bool.and_self, cT, Int.toNat_natCast, hx, h5, w, cond_true]
    | false => simp only [F27.l0.b, d1, d2, d3, d4, d7, d8, Bool.and_self, cT, cF, Int.toNat_natCast, hx, h5, w, cond_false])
    (fun a h => by
      have d1 : decide ((plan.length : Int) < (plan.length : Int)) = false := dF (by omega)
      simp only [F27.l0.b, d1, cF])

theorem F23.l0_ok (hok : ShopOk M S L jobs) (hl : plan.length ≤ 4096) (hb : ∀ x ∈ plan, badP jobs x = false) : F23.l0 ((plan.length : Int), 0, M, S, L, 0, 0, 0, 0, 0, 0, 0, 0, jobs, List.replicate jobs.length 0, plan, List.replicate M.toNat 0) =
    some (let q := plan.foldl ledG (0, 0, List.replicate jobs.length 0, List.replicate M.toNat 0); (M, S, L, 0, 0, 0, 0, q.1, 0, 0, q.2.1, jobs, q.2.2.1, q.2.2.2)) :=
  lim_fold (f := F23.l0.b) (fun i (a : Led) => ((plan.length : Int), (i : Int), M, S, L, 0, 0, 0, 0, a.1, 0, 0, a.2.1, jobs, a.2.2.1, plan, a.2.2.2)) plan z56 ledG (fun a => a.2.2.1.length = jobs.length ∧ a.2.2.2.length = M.toNat) (z := fun q => (M, S, L, 0, 0, 0, 0, q.1, 0, 0, q.2.1, jobs, q.2.2.1, q.2.2.2)) (0, 0, List.replicate jobs.length 0, List.replicate M.toNat 0) (by simp)
    (fun a i hi h => led_step hok (hb _ (by rw [getD_lt hi]; exact List.getElem_mem hi)) h) (fun i a hi h => by
    obtain ⟨a1, a2, a3, a4⟩ := a
    obtain ⟨h3, h4⟩ := h
    dsimp only at h3 h4 ⊢
    have d1 : decide ((i : Int) < (plan.length : Int)) = true := dT (by omega)
    have d2 : decide ((0 : Int) ≤ (i : Int)) = true := dT (by omega)
    have w : Go.IntKind.wrap .i64 ((i : Int) + 1) = ((i + 1 : Nat) : Int) := by rw [w64 (by omega) (by omega)]; rfl
    have hbx := hb (plan.getD i z56) (by rw [getD_lt hi]; exact List.getElem_mem hi)
    generalize hx : plan.getD i z56 = x at hbx
    obtain ⟨b1, b2, b3, b4, b5, b6, b7, b8, b9, b10⟩ := badP_no hok hbx
    have d3 : decide (0 ≤ x.f0) = true := dT b1
    have d4 : decide (x.f0 < (a3.length : Int)) = true := dT (by omega)
    have d7 : decide (0 ≤ x.f2) = true := dT b7
    have d8 : decide (x.f2 < (a4.length : Int)) = true := dT (by omega)
    unfold ledG
    cases h5 : x.f5 with
    | true => simp only [F23.l0.b, d1, d2, d3, d4, d7, d8, Bool.and_self, cT, Int.toNat_natCast, hx, h5, w, cond_true]
    | false => simp only [F23.l0.b, d1, d2, d3, d4, d7, d8, Bool.and_self, cT, cF, Int.toNat_natCast, hx, h5, w, cond_false])
    (fun a h => by
      have d1 : decide ((plan.length : Int) < (plan.length : Int)) = false := dF (by omega)
      simp only [F23.l0.b, d1, cF])

def lateG (jobs : List S54) (en : List Int) (a : Int) (i : Nat) : Int := Go.IntKind.wrap .i64 (a + (if Go.IntKind.wrap .i64 (en.getD i 0 - (jobs.getD i z54).f1) > 0 then Go.IntKind.wrap .i64 (en.getD i 0 - (jobs.getD i z54).f1) else 0))
def lateR (jobs : List S54) (en : List Int) : Int := (List.range jobs.length).foldl (lateG jobs en) 0

theorem F27.l2_ok {b0 b1 b2 b3 e su tl : Int} {en bu : List Int} (hn : jobs.length ≤ 20) (he : en.length = jobs.length) : F27.l2 (0, b0, b1, b2, b3, e, 0, su, tl, jobs, en, bu) = some (b0, b1, b2, b3, e, lateR jobs en, su, tl, bu) :=
  lim_fold (f := F27.l2.b) (fun i (a : Int) => ((i : Int), b0, b1, b2, b3, e, a, su, tl, jobs, en, bu)) (List.range jobs.length) 0 (lateG jobs en) (fun _ => True) (z := fun a => (b0, b1, b2, b3, e, a, su, tl, bu)) 0 trivial (fun _ _ _ _ => trivial) (fun i a hi _ => by
    rw [List.length_range] at hi
    rw [range_at hi]
    have d1 : decide ((i : Int) < (jobs.length : Int)) = true := dT (by omega)
    have d2 : decide ((0 : Int) ≤ (i : Int)) = true := dT (by omega)
    have d3 : decide ((i : Int) < (en.length : Int)) = true := dT (by omega)
    have w : Go.IntKind.wrap .i64 ((i : Int) + 1) = ((i + 1 : Nat) : Int) := by rw [w64 (by omega) (by omega)]; rfl
    have hm : ∀ x : Int, (if 0 > x then (0 : Int) else x) = if x > 0 then x else 0 := fun x => by split <;> split <;> omega
    unfold lateG
    simp only [F27.l2.b, d1, d2, d3, Bool.and_self, cT, Int.toNat_natCast, w, hm])
    (fun a _ => by
      rw [List.length_range]
      have d1 : decide ((jobs.length : Int) < (jobs.length : Int)) = false := dF (by omega)
      simp only [F27.l2.b, d1, cF])

theorem F23.l2_ok {b0 b1 b2 b3 e su tl : Int} {en bu : List Int} (hn : jobs.length ≤ 20) (he : en.length = jobs.length) : F23.l2 ((jobs.length : Int), 0, b0, b1, b2, b3, e, 0, su, tl, en, jobs, bu) = some (b0, b1, b2, b3, e, lateR jobs en, su, tl, bu) :=
  lim_fold (f := F23.l2.b) (fun i (a : Int) => ((jobs.length : Int), (i : Int), b0, b1, b2, b3, e, a, su, tl, en, jobs, bu)) (List.range jobs.length) 0 (lateG jobs en) (fun _ => True) (z := fun a => (b0, b1, b2, b3, e, a, su, tl, bu)) 0 trivial (fun _ _ _ _ => trivial) (fun i a hi _ => by
    rw [List.length_range] at hi
    rw [range_at hi]
    have d1 : decide ((i : Int) < (jobs.length : Int)) = true := dT (by omega)
    have d2 : decide ((0 : Int) ≤ (i : Int)) = true := dT (by omega)
    have d3 : decide ((i : Int) < (en.length : Int)) = true := dT (by omega)
    have w : Go.IntKind.wrap .i64 ((i : Int) + 1) = ((i + 1 : Nat) : Int) := by rw [w64 (by omega) (by omega)]; rfl
    unfold lateG
    simp only [F23.l2.b, d1, d2, d3, Bool.and_self, cT, Int.toNat_natCast, w])
    (fun a _ => by
      rw [List.length_range]
      have d1 : decide ((jobs.length : Int) < (jobs.length : Int)) = false := dF (by omega)
      simp only [F23.l2.b, d1, cF])

def ledR (M S L : Int) (jobs : List S54) (plan : List S56) : (Int × Int × Int × Int × List Int) × Int :=
  if (planC M S L jobs plan).1 ≠ 0 then ((0, 0, 0, 0, []), (planC M S L jobs plan).1)
  else let q := plan.foldl ledG (0, 0, List.replicate jobs.length 0, List.replicate M.toNat 0); ((q.1, lateR jobs q.2.2.1, Go.IntKind.wrap .i64 (q.2.1 * S), q.2.1, q.2.2.2), 0)

theorem led_len : ∀ (l : List S56) (a : Led), (l.foldl ledG a).2.2.1.length = a.2.2.1.length ∧ (l.foldl ledG a).2.2.2.length = a.2.2.2.length
  | [], a => ⟨rfl, rfl⟩
  | x :: l, a => by
    have := led_len l (ledG a x)
    simp only [List.foldl_cons]
    rw [this.1, this.2]
    unfold ledG; simp

theorem F27.ok (M S L : Int) (jobs : List S54) (plan : List S56) : F27.F ((M, S, L), jobs, plan) = some (ledR M S L jobs plan) ∧ F23.F ((M, S, L), jobs, plan) = some (ledR M S L jobs plan) := by
  have h9 := F9.ok M S L jobs plan
  unfold ledR
  by_cases h0 : (planC M S L jobs plan).1 = 0
  · rw [if_neg (by simpa using h0)]
    obtain ⟨hok, hl, hb⟩ := planC_ok h0
    have := hok.m1
    have := hok.m2
    have hn := hok.n
    have d1 : (((decide (0 ≤ M)) && (decide (M ≤ M))) && (decide (M ≤ 274877906944))) = true := by simp; omega
    have d2 : (((decide (0 ≤ (jobs.length : Int))) && (decide ((jobs.length : Int) ≤ (jobs.length : Int)))) && (decide ((jobs.length : Int) ≤ 274877906944))) = true := by simp; omega
    have e0 := F27.l0_ok hok hl hb
    have e1 := F23.l0_ok hok hl hb
    have hlen := led_len plan (0, 0, List.replicate jobs.length 0, List.replicate M.toNat 0)
    dsimp only at e0 e1 hlen ⊢
    generalize plan.foldl ledG (0, 0, List.replicate jobs.length 0, List.replicate M.toNat 0) = q at e0 e1 hlen ⊢
    obtain ⟨q1, q2, q3, q4⟩ := q
    dsimp only at e0 e1 hlen ⊢
    have hq3 : q3.length = jobs.length := by rw [hlen.1]; simp
    have n0 : ((planC M S L jobs plan).1 != 0) = false := nF h0
    constructor
    · simp only [F27.F, h9.1, bS, n0, cF, d1, d2, cT, Int.toNat_natCast, e0, F27.l2_ok hn hq3]
    · simp only [F23.F, h9.2, bS, n0, cF, d1, d2, cT, Int.toNat_natCast, e1, F23.l2_ok hn hq3]
  · rw [if_pos h0]
    have n0 : ((planC M S L jobs plan).1 != 0) = true := nT h0
    constructor
    · simp only [F27.F, h9.1, bS, n0, cT]
    · simp only [F23.F, h9.2, bS, n0, cT]

theorem ledR_len : (ledR M S L jobs plan).1.2.2.2.2.length ≤ 6 := by
  unfold ledR
  split
  · simp
  · rename_i h0
    obtain ⟨hok, _, _⟩ := planC_ok (show (planC M S L jobs plan).1 = 0 by simpa using h0)
    have hlen := led_len plan (0, 0, List.replicate jobs.length 0, List.replicate M.toNat 0)
    have := hok.m2
    dsimp only at hlen ⊢
    rw [hlen.2]; simp; omega
end

theorem F47.ok (p : List Int) (h : p.length ≤ 1048576) : F47.F (p, p) = some true := by
  have := lim_run (f := F47.l0.b) (fun i => ((i : Int), p, p)) p.length (y := .inr ()) (fun i hi => by
    have d1 : decide ((i : Int) < (p.length : Int)) = true := dT (by omega)
    have d2 : decide ((0 : Int) ≤ (i : Int)) = true := dT (by omega)
    have w : Go.IntKind.wrap .i64 ((i : Int) + 1) = ((i + 1 : Nat) : Int) := by rw [w64 (by omega) (by omega)]; rfl
    have n : ∀ x : Int, (x != x) = false := fun x => nF rfl
    simp only [F47.l0.b, d1, d2, n, w, Bool.and_self, cT, cF])
    (by
      have d1 : decide ((p.length : Int) < (p.length : Int)) = false := dF (by omega)
      simp only [F47.l0.b, d1, cF])
  have n0 : (((p.length : Int)) != (p.length : Int)) = false := nF rfl
  simp only [F47.F, n0, cF]
  exact congrArg (fun q : Option (Bool ⊕ Unit) => q.bind fun q => match q with | .inl y => some y | .inr y => some true) this

def g48 (k : Int) (_ : Int) : Int := k
theorem F48.ok (l : List Int) (k : Int) (h : l.length ≤ 1048576) (hk : 0 ≤ k) (hk2 : k ≤ 100000000) : F48.F (l, k) = some (k + (l.length : Int), mkL g48 (fun _ => 1) k l, ()) := by
  have := lim_run (f := F48.l0.b) (fun i => (mkK (fun _ => 1) k (l.take i), (i : Int), mkAt g48 (fun _ => 1) k l i)) l.length (y := (k + (l.length : Int), mkL g48 (fun _ => 1) k l)) (fun i hi => by
    have e := mkAt_set (g := g48) (c := fun _ => 1) (k := k) (d := 0) hi
    have e2 : mkK (fun _ => (1 : Int)) k (l.take i) = k + i := by rw [mkK_const]; simp; omega
    have e3 : mkK (fun _ => (1 : Int)) k (l.take (i + 1)) = k + (i + 1 : Nat) := by rw [mkK_const]; simp; omega
    have hl : (mkAt g48 (fun _ => 1) k l i).length = l.length := mkAt_len
    simp (disch := omega) only [F48.l0.b, dT, dF, w64, hl, e2, e3, List.length_set, Bool.and_self, cT, Int.toNat_natCast, getD_set, List.set_set, g48] at e ⊢
    rw [← e]
    simp only [Option.some.injEq, Sum.inl.injEq, Prod.mk.injEq]
    exact ⟨by omega, by omega, trivial⟩)
    (by simp (disch := omega) only [F48.l0.b, dT, dF, cF, mkAt_all, mkAt_len, List.take_length, mkK_const, mkL_len]; simp)
  simp (disch := omega) only [F48.F]
  exact congrArg (fun q : Option (Int × List Int) => q.bind fun y => some (y.1, y.2, ())) (by simpa [mkAt_zero, mkK] using this)

theorem F49.ok (l : List Int) (k : Int) (h : l.length ≤ 1048576) (hk : 0 ≤ k) (hk2 : k ≤ 100000000) : F49.F (mkL g48 (fun _ => 1) k l, k) = some (k + (l.length : Int)) := by
  have := lim_run (f := F49.l0.b) (fun i => (mkK (fun _ => 1) k (l.take i), (i : Int), mkL g48 (fun _ => 1) k l)) l.length (y := .inr (k + (l.length : Int))) (fun i hi => by
    have e := mkL_get (g := g48) (c := fun _ => 1) (k := k) (d := 0) hi
    have e2 : mkK (fun _ => (1 : Int)) k (l.take i) = k + i := by rw [mkK_const]; simp; omega
    have e3 : mkK (fun _ => (1 : Int)) k (l.take (i + 1)) = k + (i + 1 : Nat) := by rw [mkK_const]; simp; omega
    simp (disch := omega) only [F49.l0.b, dT, dF, w64, nT, nF, mkL_len, e, e2, e3, Bool.and_self, cT, cF, Int.toNat_natCast, g48]
    simp only [Option.some.injEq, Sum.inl.injEq, Prod.mk.injEq]
    exact ⟨by omega, by omega, trivial⟩)
    (by simp (disch := omega) only [F49.l0.b, dT, dF, cF, List.take_length, mkK_const, mkL_len]; simp)
  simp (disch := omega) only [F49.F]
  exact congrArg (fun q : Option (Int ⊕ Int) => q.bind fun q => match q with | .inl y => some y | .inr y => some y) (by simpa [mkK] using this)

theorem F28.ok (a b c d : Int) (l : List Int) (h : l.length ≤ 1048576) : F28.F ((a, b, c, d, l), (a, b, c, d, l)) = some true := by
  simp (disch := rfl) only [F28.F, nF, cF, F47.ok l h, bS, Bool.not_true]

theorem F8.okL (l : List S56) (k : Int) (h : (l.length : Int) ≤ 9223372036854775807) (hk : 0 ≤ k) (hk2 : k ≤ 1048576) : F8.F (l, k) = some (if k - l.length < 0 then -1 else k - l.length) := by
  have w : Go.IntKind.wrap .i64 (k - (l.length : Int)) = k - l.length := w64 (by omega) (by omega)
  by_cases h0 : k - (l.length : Int) < 0
  · simp only [F8.F, w, dT h0, cT, if_pos h0]
  · simp only [F8.F, w, dF h0, cF, if_neg h0]

theorem F6.law_of (M S L : Int) (l : List S64) (pl : List S56) (hl : (l.length : Int) ≤ 9223372036854775807) (h : ∀ x ∈ l, (x.f0.size : Int) ≤ 9223372036854775807 ∧ (x.f2.length : Int) ≤ 9223372036854775807) (hp : (pl.length : Int) ≤ 9223372036854775807) : F6.F ((M, S, L), l, pl) = some true := by
  have e7 := F7.ok l hl h 1048576 (by decide) (by decide)
  have m1 : decide ((-1 : Int) < 0) = true := rfl
  have e10 : F10.F (M, S, L) = some (M, S, L) := rfl
  have hnj := totJ_nn l
  by_cases h0 : 1048576 - (l.length : Int) < 0
  · rw [if_pos h0] at e7; simp only [F6.F, e7, bS, m1, cT]
  rw [if_neg h0] at e7
  by_cases h1 : 1048576 - (l.length : Int) - totJ l < 0
  · rw [if_pos h1] at e7; simp only [F6.F, e7, bS, m1, cT]
  rw [if_neg h1] at e7
  have e8 := F8.okL pl (1048576 - (l.length : Int) - totJ l) hp (by omega) (by omega)
  by_cases h2 : 1048576 - (l.length : Int) - totJ l - pl.length < 0
  · rw [if_pos h2] at e8; simp only [F6.F, e7, dF h1, cF, e8, bS, m1, cT]
  rw [if_neg h2] at e8
  have hx : ∀ x ∈ l, x.f2.length ≤ 1048576 := fun x hx => by have := totJ_mem hx; omega
  have hx2 : ∀ x ∈ l.map c64, x.f2.length ≤ 1048576 := fun x hx' => by
    obtain ⟨y, hy, rfl⟩ := List.mem_map.1 hx'
    exact hx y hy
  have e11 := F11.ok l (by omega) hx
  have e12 := F12.ok pl (by omega)
  have hc := F27.ok M S L (l.map c64) pl
  have hlen := ledR_len (M := M) (S := S) (L := L) (jobs := l.map c64) (plan := pl)
  generalize ledR M S L (l.map c64) pl = q at hc hlen
  obtain ⟨⟨q1, q2, q3, q4, q5⟩, q6⟩ := q
  dsimp only at hlen
  have e15 := F15.ok pl (by omega)
  have e14 := F14.ok (l.map c64) (by simp; omega) hx2
  have e28 := F28.ok q1 q2 q3 q4 q5 (by omega)
  have htm := totM_le l
  have hnn := totM_nn (l.map c64)
  obtain ⟨r, e18⟩ := F18.ok (l.map c64) (by simp; omega) hx2 (by omega)
  have e19 := F19.ok pl (1 + totM (l.map c64)) (by omega) (by omega) (by omega)
  have e48 := F48.ok q5 1 (by omega) (by decide) (by decide)
  have e49 := F49.ok q5 1 (by omega) (by decide) (by decide)
  have d1 : decide (1 + totM (l.map c64) + 6 * (pl.length : Int) < 0) = false := dF (by omega)
  have d2 : decide (1 + (q5.length : Int) < 0) = false := dF (by omega)
  have n1 : (q6 != q6) = false := nF rfl
  have n2 : (1 + (q5.length : Int) != 1 + (q5.length : Int)) = false := nF rfl
  simp only [F6.F, e7, dF h1, cF, e8, dF h2, bS, e10, e11, e12, hc.1, hc.2, e28, n1, Bool.or_self, e15, e14, e18, e19, d1, Bool.not_true, Bool.not_false, cT, F29.F, F30.F, e48, e49, d2, n2]

end Go.Proofs.YtchohkelpjfpcaaDoor.AX

/- Plans: a run of planning, step by step. No conditions. -/
namespace Go.Proofs.YtchohkelpjfpcaaDoor.AX
open Go

/-- Slots that are right one after the other. -/
inductive Reach (S L : Int) (jobs : List S54) (ms0 : List S71) : List S56 → List S71 → Prop
  | nil : Reach S L jobs ms0 [] ms0
  | snoc {pre : List S56} {ms ms' : List S71} {x : S56} : Reach S L jobs ms0 pre ms → chkP jobs S L pre ms x = .inr ms' → Reach S L jobs ms0 (pre ++ [x]) ms'

section
variable {M S L : Int} {jobs : List S54} {ms0 : List S71}

theorem Reach.code {pre : List S56} {ms : List S71} (h : Reach S L jobs ms0 pre ms) : ∀ (l : List S56) (i : Int), codeP jobs S L [] ms0 (pre ++ l) i = codeP jobs S L pre ms l (i + pre.length) := by
  induction h with
  | nil => intro l i; simp
  | snoc h hc ih =>
    intro l i
    rename_i pre ms ms' x
    rw [List.append_assoc, ih]
    show codeP jobs S L pre ms (x :: l) _ = _
    simp only [codeP, hc]
    congr 1
    simp; omega
theorem Reach.none {pre : List S56} {ms : List S71} (h : Reach S L jobs ms0 pre ms) (i : Int) : codeP jobs S L [] ms0 pre i = .none := by
  have := h.code [] i
  rw [List.append_nil] at this
  rw [this]; rfl
theorem Reach.back {l : List S56} {ms : List S71} (h : Reach S L jobs ms0 l ms) : ∃ ms', Reach S L jobs ms0 l.dropLast ms' := by
  cases h with
  | nil => exact ⟨_, .nil⟩
  | snoc h hc => rw [List.dropLast_concat]; exact ⟨_, h⟩

/-- Steps that are done. -/
def doneL : List S54 → List Int → List S69
  | j :: js, n :: ns => j.f2.take n.toNat ++ doneL js ns
  | _, _ => []
theorem doneL_set : ∀ {jobs : List S54} {nx : List Int} {i : Nat}, i < jobs.length → i < nx.length → 0 ≤ nx.getD i 0 → nx.getD i 0 < lenJ jobs i →
    ∃ l1 l2, doneL jobs nx = l1 ++ l2 ∧ doneL jobs (nx.set i (nx.getD i 0 + 1)) = l1 ++ stepJ jobs nx i :: l2
  | [], _, _, h, _, _, _ => by simp at h
  | _, [], _, _, h, _, _ => by simp at h
  | j :: js, n :: ns, 0, _, _, h0, hl => by
    have e : (n :: ns).getD 0 0 = n := rfl
    rw [e] at h0 hl
    have hl : n < (j.f2.length : Int) := hl
    refine ⟨j.f2.take n.toNat, doneL js ns, rfl, ?_⟩
    show j.f2.take (n + 1).toNat ++ doneL js ns = _
    rw [show (n + 1).toNat = n.toNat + 1 by omega, List.take_add_one]
    have hx : j.f2[n.toNat]? = some (stepJ (j :: js) (n :: ns) 0) := by
      show _ = some (j.f2.getD n.toNat z69)
      rw [getD_lt (by omega), List.getElem?_eq_getElem (by omega)]
    rw [hx]; simp
  | j :: js, n :: ns, i + 1, hi, hn, h0, hl => by
    have e : (n :: ns).getD (i + 1) 0 = ns.getD i 0 := rfl
    rw [e] at h0 hl
    obtain ⟨l1, l2, e1, e2⟩ := doneL_set (jobs := js) (nx := ns) (i := i) (by simpa using hi) (by simpa using hn) h0 hl
    refine ⟨j.f2.take n.toNat ++ l1, l2, by show j.f2.take n.toNat ++ doneL js ns = _; rw [e1, List.append_assoc], ?_⟩
    show j.f2.take n.toNat ++ doneL js (ns.set i (ns.getD i 0 + 1)) = _
    rw [e2, List.append_assoc]; rfl
theorem doneL_full : ∀ {jobs : List S54} {nx : List Int}, nx.length = jobs.length → (∀ i, i < jobs.length → nx.getD i 0 = lenJ jobs i) → doneL jobs nx = jobs.flatMap (·.f2)
  | [], nx, _, _ => by cases nx <;> rfl
  | j :: js, [], h, _ => by simp at h
  | j :: js, n :: ns, h, hf => by
    have h0 : n = (j.f2.length : Int) := hf 0 (by simp)
    have ih := doneL_full (jobs := js) (nx := ns) (by simpa using h) (fun i hi => hf (i + 1) (by simpa using hi))
    show j.f2.take n.toNat ++ doneL js ns = _
    rw [ih, h0, Int.toNat_natCast, List.take_length]; rfl
theorem doneL_zero : ∀ (jobs : List S54) (n : Nat), doneL jobs (List.replicate n 0) = []
  | [], n => by cases n <;> rfl
  | j :: js, 0 => rfl
  | j :: js, n + 1 => by
    show j.f2.take (0 : Int).toNat ++ doneL js (List.replicate n 0) = []
    rw [doneL_zero]; rfl

/-- How long steps take on a machine. -/
def tmS (m : Int) : List S69 → Int
  | [] => 0
  | x :: l => (if x.f0 = m then x.f1 else 0) + tmS m l
theorem tmS_app (m : Int) : ∀ a b : List S69, tmS m (a ++ b) = tmS m a + tmS m b
  | [], b => by simp [tmS]
  | x :: a, b => by simp only [List.cons_append, tmS]; rw [tmS_app]; omega
def usedT (m t : Int) (l : List S69) : Bool := l.any fun x => decide (x.f0 = m) && decide (x.f2 = t)
def uT (m t : Int) (l : List S69) : Int := if usedT m t l = true then 1 else 0
theorem usedT_mid (m t : Int) (a b : List S69) (x : S69) : usedT m t (a ++ x :: b) = ((decide (x.f0 = m) && decide (x.f2 = t)) || usedT m t (a ++ b)) := by
  simp only [usedT, List.any_append, List.any_cons]
  cases a.any (fun x => decide (x.f0 = m) && decide (x.f2 = t)) <;> cases (decide (x.f0 = m) && decide (x.f2 = t)) <;> rfl
def tlN (m : Int) (l : List S69) : Int := uT m 0 l + uT m 1 l + uT m 2 l + uT m 3 l + uT m 4 l + uT m 5 l + uT m 6 l + uT m 7 l + uT m 8 l + uT m 9 l
theorem uT_mid (m t : Int) (a b : List S69) (x : S69) : uT m t (a ++ x :: b) = if x.f0 = m ∧ x.f2 = t then 1 else uT m t (a ++ b) := by
  unfold uT
  rw [usedT_mid]
  by_cases h : x.f0 = m ∧ x.f2 = t
  · rw [if_pos h, h.1, h.2]; simp
  · rw [if_neg h]
    have : (decide (x.f0 = m) && decide (x.f2 = t)) = false := by
      by_cases h1 : x.f0 = m
      · have h2 : ¬ x.f2 = t := fun e => h ⟨h1, e⟩
        simp [h2]
      · simp [h1]
    rw [this, Bool.false_or]
theorem tlN_mid {m : Int} {a b : List S69} {x : S69} (h0 : 0 ≤ x.f2) (h9 : x.f2 ≤ 9) : tlN m (a ++ x :: b) = tlN m (a ++ b) + if x.f0 = m ∧ usedT m x.f2 (a ++ b) = false then 1 else 0 := by
  unfold tlN
  simp only [uT_mid]
  by_cases hm : x.f0 = m
  · have hc : x.f2 = 0 ∨ x.f2 = 1 ∨ x.f2 = 2 ∨ x.f2 = 3 ∨ x.f2 = 4 ∨ x.f2 = 5 ∨ x.f2 = 6 ∨ x.f2 = 7 ∨ x.f2 = 8 ∨ x.f2 = 9 := by omega
    rcases hc with e | e | e | e | e | e | e | e | e | e
    all_goals
      rw [e]
      have hu : ∀ t, uT m t (a ++ b) = if usedT m t (a ++ b) = true then 1 else 0 := fun _ => rfl
      have hq := hu x.f2
      rw [e] at hq
      clear hu
      simp only [hm, true_and]
      cases hx : usedT m _ (a ++ b) <;> rw [hx] at hq <;> simp at hq ⊢ <;> omega
  · simp only [hm, false_and, if_false]; omega
/-- What a machine has to bear. -/
def potM (S m : Int) (l : List S69) : Int := tmS m l + S * tlN m l
theorem potM_mid {S m : Int} {a b : List S69} {x : S69} (h0 : 0 ≤ x.f2) (h9 : x.f2 ≤ 9) : potM S m (a ++ x :: b) = potM S m (a ++ b) + (if x.f0 = m then x.f1 + (if usedT m x.f2 (a ++ b) = false then S else 0) else 0) := by
  unfold potM
  rw [tlN_mid h0 h9, Int.mul_add, tmS_app, tmS_app]
  simp only [tmS]
  by_cases hm : x.f0 = m
  · simp only [hm, true_and, if_true]
    by_cases hu : usedT m x.f2 (a ++ b) = false
    · simp only [hu, if_true]; omega
    · rw [if_neg hu, if_neg hu]; simp; omega
  · simp only [hm, false_and, if_false]; simp

/-- How long a job takes. -/
def tmJ : List S69 → Int
  | [] => 0
  | x :: l => x.f1 + tmJ l
theorem tmJ_app : ∀ a b : List S69, tmJ (a ++ b) = tmJ a + tmJ b
  | [], b => by simp [tmJ]
  | x :: a, b => by simp only [List.cons_append, tmJ]; rw [tmJ_app]; omega

/-- What the law counts of a plan: busy, fresh, end, ends. -/
abbrev LawT := Int × Int × Int × List Int
def lawG (a : LawT) (x : S56) : LawT :=
  (Go.IntKind.wrap .i64 (a.1 + Go.IntKind.wrap .i64 (x.f4 - x.f3)), (bif x.f5 then Go.IntKind.wrap .i64 (a.2.1 + 1) else a.2.1), (if x.f4 > a.2.2.1 then x.f4 else a.2.2.1), a.2.2.2.set x.f0.toNat x.f4)

structure Run (M S L : Int) (jobs : List S54) (ms : List S71) (nx en : List Int) (out : List S56) (E T : Int) (bu : List Int) : Prop where
  inv : SInv M S L jobs (sumI nx * 2000) ms nx en
  rch : Reach S L jobs (List.replicate M.toNat m0) out ms
  pin : PInv M S L jobs out ms
  don : ∀ p ∈ out, 0 ≤ p.f0 ∧ p.f0 < jobs.length ∧ 0 ≤ p.f1 ∧ p.f1 < nx.getD p.f0.toNat 0 ∧ p.f4 ≤ en.getD p.f0.toNat 0 ∧ 0 ≤ p.f3 ∧ p.f3 ≤ p.f4 ∧ p.f4 ≤ sumI nx * 2000
  all : ∀ i, i < jobs.length → ∀ k : Int, 0 ≤ k → k < nx.getD i 0 → ∃ p ∈ out, p.f0 = (i : Int) ∧ p.f1 = k
  len : (out.length : Int) = sumI nx
  led : out.foldl ledG (0, 0, List.replicate jobs.length 0, List.replicate M.toNat 0) = (E, T, en, bu)
  law : out.foldl lawG (0, 0, 0, List.replicate jobs.length 0) = (sumI bu, T, E, en)
  lb : bu.length = M.toNat
  bb : ∀ i, i < bu.length → 0 ≤ bu.getD i 0 ∧ bu.getD i 0 ≤ sumI nx * 2000
  bs : 0 ≤ sumI bu ∧ sumI bu ≤ sumI nx * 2000
  tt : 0 ≤ T ∧ T ≤ sumI nx
  em : ∀ i, i < ms.length → (ms.getD i z71).f0 ≤ E
  ee : ∀ i, i < jobs.length → en.getD i 0 ≤ E
  eb : 0 ≤ E ∧ E ≤ sumI nx * 2000
  chn : ∀ i, i < jobs.length → tmJ ((jobs.getD i z54).f2.take (nx.getD i 0).toNat) ≤ en.getD i 0
  mac : ∀ m, m < ms.length → potM S (m : Int) (doneL jobs nx) ≤ (ms.getD m z71).f0
  tol : ∀ m, m < ms.length → (ms.getD m z71).f1 = -1 ∨ usedT (m : Int) (ms.getD m z71).f1 (doneL jobs nx) = true

theorem pick_neg {ms : List S71} {nx en : List Int} (h : (pickJ jobs ms nx en).1 < 0) : ∀ i, i < jobs.length → nx.getD i 0 = lenJ jobs i := by
  have key : ∀ (l : List Nat) (a : Int × Int), (l.foldl (fun a i => pickStep jobs ms nx en i a) a).1 < 0 → a.1 < 0 ∧ ∀ i ∈ l, nx.getD i 0 = lenJ jobs i := by
    intro l
    induction l with
    | nil => intro a h; exact ⟨h, by simp⟩
    | cons i l ih =>
      intro a h
      obtain ⟨h1, h2⟩ := ih _ h
      dsimp only at h1
      unfold pickStep at h1
      split at h1
      · rename_i hn
        exact ⟨h1, fun j hj => by
          rcases List.mem_cons.1 hj with rfl | hj
          · exact hn
          · exact h2 j hj⟩
      · split at h1
        · exact absurd h1 (by show ¬ (i : Int) < 0; omega)
        · rename_i hc
          exact absurd (by simp [h1]) hc
  unfold pickJ at h
  exact fun i hi => (key _ _ h).2 i (List.mem_range.2 hi)

theorem getD_set_eq {α : Type} {l : List α} {i : Nat} {v d : α} (h : i < l.length) : (l.set i v).getD i d = v := getD_set h

theorem Run.small {B : Int} {ms : List S71} {nx en : List Int} (h : SInv M S L jobs B ms nx en) : 0 ≤ sumI nx ∧ sumI nx ≤ 160 := by
  have hn20 := h.ok.n
  have hln := h.ln
  have := sumI_le (l := nx) (c := 8) (fun i hi => by
    rw [h.ln] at hi
    have h1 := h.nx i hi
    have h2 := h.ok.job (jobs.getD i z54) (by rw [getD_lt hi]; exact List.getElem_mem hi)
    unfold lenJ at h1
    omega)
  omega

theorem Run.step {ms : List S71} {nx en : List Int} {out : List S56} {E T : Int} {bu : List Int} (h : Run M S L jobs ms nx en out E T bu) {a : Int × Int} (ha : pickJ jobs ms nx en = a) (h0 : ¬ a.1 < 0) {i : Nat} (hia : a.1 = (i : Int)) {x : S69} (hx : stepJ jobs nx i = x) {m : S71} (hm : ms.getD x.f0.toNat z71 = m) {to : Int} (hto : toR S a.2 x (freshR L m x) = to) :
    i < jobs.length ∧ ∃ E' T' bu', Run M S L jobs (ms.set x.f0.toNat ⟨to, x.f2, wearR m x (freshR L m x)⟩) (nx.set i (nx.getD i 0 + 1)) (en.set i to) (out ++ [⟨a.1, nx.getD i 0, x.f0, a.2, to, freshR L m x⟩]) E' T' bu' := by
  have hp := pick_fin jobs ms nx en
  rw [ha] at hp
  obtain ⟨_, p2, p3⟩ := hp
  obtain ⟨p3, p4⟩ := p3 (by omega)
  have hti : a.1.toNat = i := by omega
  rw [hti] at p3 p4
  have hi : i < jobs.length := by omega
  refine ⟨hi, ?_⟩
  obtain ⟨s1, s2, s3, s4, s5, s6, s7⟩ := h.inv.step hi p3
  have htm := time_ge h.inv hi p3
  have hen : en.getD i 0 ≤ a.2 := by rw [p4]; unfold timeJ; split <;> omega
  rw [← p4] at htm
  rw [hx] at s3 s4 s5 s6 s7 htm
  rw [hm] at htm
  have hsm := Run.small h.inv
  have hok := h.inv.ok
  have hS1 := hok.s1
  have hS2 := hok.s2
  have hln := h.inv.ln
  have hle := h.inv.le
  have hlm := h.inv.lm
  have hlb := h.lb
  have hjm := hok.job (jobs.getD i z54) (by rw [getD_lt hi]; exact List.getElem_mem hi)
  have hxm : x ∈ (jobs.getD i z54).f2 := by
    rw [← hx]; unfold stepJ lenJ at *
    rw [getD_lt (l := (jobs.getD i z54).f2) (by omega)]; exact List.getElem_mem _
  obtain ⟨-, -, -, -, xt0, xt9, -, -⟩ := hjm.2.2.2.2 x hxm
  have hB : 0 ≤ sumI nx * 2000 ∧ sumI nx * 2000 ≤ 320000 := by omega
  have htr := (toR_eq hok s6 s7 (f := a.2) htm.2.1 (by omega) (freshR L m x)).1
  rw [hto] at htr
  have ht1 : a.2 + x.f1 ≤ to := by rw [htr]; cases freshR L m x <;> simp only [cond_true, cond_false] <;> omega
  have ht2 : to ≤ a.2 + x.f1 + S := by rw [htr]; cases freshR L m x <;> simp only [cond_true, cond_false] <;> omega
  have ht3 : freshR L m x = true → to = a.2 + x.f1 + S := fun e => by rw [htr, e]; rfl
  have hs' : sumI (nx.set i (nx.getD i 0 + 1)) = sumI nx + 1 := by rw [sumI_set (by omega)]; omega
  have hB' : (sumI nx + 1) * 2000 = sumI nx * 2000 + 2000 := by omega
  have hin := inv_next (from' := a.2) (m := ⟨to, x.f2, wearR m x (freshR L m x)⟩) h.inv hi p3 hB.1 (by omega) htm.2.1 htm.2.2 (by rw [hx, hm, hto])
  rw [hx] at hin
  obtain ⟨-, -, hin⟩ := hin
  have hin : SInv M S L jobs (sumI nx * 2000 + 2000) (ms.set x.f0.toNat ⟨to, x.f2, wearR m x (freshR L m x)⟩) (nx.set i (nx.getD i 0 + 1)) (en.set i to) := hin
  generalize hp' : (⟨a.1, nx.getD i 0, x.f0, a.2, to, freshR L m x⟩ : S56) = p
  have q0 : p.f0 = a.1 := by rw [← hp']
  have q1 : p.f1 = nx.getD i 0 := by rw [← hp']
  have q2 : p.f2 = x.f0 := by rw [← hp']
  have q3 : p.f3 = a.2 := by rw [← hp']
  have q4 : p.f4 = to := by rw [← hp']
  have q5 : p.f5 = freshR L m x := by rw [← hp']
  have htp : tP jobs p = x := by unfold tP; rw [q0, q1, hti]; exact hx
  have hchk : chkP jobs S L out ms p = .inr (ms.set x.f0.toNat ⟨to, x.f2, wearR m x (freshR L m x)⟩) := by
    have b1 : badP jobs p = false := by
      unfold badP outP
      rw [htp, q0, q1, q2, hti]
      unfold lenJ at s2
      simp only [Bool.or_eq_false_iff, decide_eq_false_iff_not, bne_self_eq_false, and_true]
      refine ⟨⟨⟨by omega, by omega⟩, by omega⟩, by omega⟩
    have b2 : out.any (sameP p) = false := by
      rw [List.any_eq_false]
      intro q hq hs
      unfold sameP at hs
      rw [q0, q1] at hs
      simp only [Bool.and_eq_true, beq_iff_eq] at hs
      have := h.don q hq
      rw [← hs.1, hti] at this
      omega
    have b3 : ((decide (p.f3 < 0)) || (decide (p.f3 > 1000000000))) = false := by
      rw [q3]; simp only [Bool.or_eq_false_iff, decide_eq_false_iff_not]; omega
    have b4 : aheadP out p = true := by
      unfold aheadP
      by_cases hn : p.f1 > 0
      · rw [if_pos hn]
        obtain ⟨q, hq, e1, e2⟩ := h.all i hi (nx.getD i 0 - 1) (by omega) (by omega)
        have hpq : prevP p q = true := by unfold prevP; rw [q0, q1, e1, e2, hia]; simp
        cases hf : out.find? (prevP p) with
        | none => exact absurd hpq (by simpa using List.find?_eq_none.1 hf q hq)
        | some r =>
          have hr := List.mem_of_find?_eq_some hf
          have hpr := List.find?_some hf
          unfold prevP at hpr
          rw [q0] at hpr
          simp only [Bool.and_eq_true, beq_iff_eq] at hpr
          have := h.don r hr
          rw [← hpr.1, hti] at this
          show decide (r.f4 ≤ p.f3) = true
          rw [q3]; exact dT (by omega)
      · rw [if_neg hn]
    have b5 : decide (p.f3 < (ms.getD p.f2.toNat z71).f0) = false := by rw [q3, q2, hm]; exact dF (by omega)
    unfold chkP
    rw [if_neg (by rw [b1]; decide), if_neg (by rw [b2]; decide), if_neg (by rw [b3]; decide), if_neg (by rw [b4, b5]; decide), htp, q2, hm, q5, if_neg (by simp), q3, q4, hto, if_neg (by simp)]
  obtain ⟨l1, l2, e1, e2⟩ := doneL_set (jobs := jobs) (nx := nx) hi (by omega) s1 s2
  rw [hx] at e2
  have hbm : x.f0.toNat < bu.length := by omega
  have hbx := h.bb _ hbm
  have wb : Go.IntKind.wrap .i64 (to - a.2) = to - a.2 := w64 (by omega) (by omega)
  have wb2 : Go.IntKind.wrap .i64 (bu.getD x.f0.toNat 0 + (to - a.2)) = bu.getD x.f0.toNat 0 + (to - a.2) := w64 (by omega) (by omega)
  have hbs := h.bs
  have wb3 : Go.IntKind.wrap .i64 (sumI bu + (to - a.2)) = sumI bu + (to - a.2) := w64 (by omega) (by omega)
  have htt := h.tt
  have wt : Go.IntKind.wrap .i64 (T + 1) = T + 1 := w64 (by omega) (by omega)
  have heb := h.eb
  have hei := h.ee i hi
  refine ⟨if to > E then to else E, (bif freshR L m x then T + 1 else T), bu.set x.f0.toNat (bu.getD x.f0.toNat 0 + (to - a.2)), ?_⟩
  have hbsum : sumI (bu.set x.f0.toNat (bu.getD x.f0.toNat 0 + (to - a.2))) = sumI bu + (to - a.2) := by rw [sumI_set hbm]; omega
  have hE : E ≤ (if to > E then to else E) ∧ to ≤ (if to > E then to else E) ∧ (if to > E then to else E) ≤ sumI nx * 2000 + 2000 := by split <;> omega
  refine ⟨by rw [hs', hB']; exact hin, .snoc h.rch hchk, chk_next h.pin hchk, fun q hq => ?_, fun j hj k hk0 hk => ?_, by rw [hs', List.length_append]; have := h.len; simp; omega, ?_, ?_, by simp [hlb], fun j hj => ?_, ?_, ?_, fun j hj => ?_, fun j hj => ?_, ?_, fun j hj => ?_, fun j hj => ?_, fun j hj => ?_⟩
  · rw [hs', hB']
    rcases List.mem_append.1 hq with hq | hq
    · have := h.don q hq
      refine ⟨this.1, this.2.1, this.2.2.1, ?_, ?_, this.2.2.2.2.2.1, this.2.2.2.2.2.2.1, by omega⟩
      · by_cases e : i = q.f0.toNat
        · rw [← e, getD_set_eq (by omega)]; rw [← e] at this; omega
        · rw [getD_set_ne e]; exact this.2.2.2.1
      · by_cases e : i = q.f0.toNat
        · rw [← e, getD_set_eq (by omega)]; rw [← e] at this; omega
        · rw [getD_set_ne e]; exact this.2.2.2.2.1
    · simp at hq; subst hq
      rw [q0, q1, q3, q4, hti, getD_set_eq (by omega), getD_set_eq (by omega)]
      refine ⟨by omega, p2, s1, by omega, by omega, htm.2.1, by omega, by omega⟩
  · by_cases e : i = j
    · subst e
      rw [getD_set_eq (by omega)] at hk
      by_cases e2 : k = nx.getD i 0
      · exact ⟨p, by simp, by rw [q0]; exact hia, by rw [q1, e2]⟩
      · obtain ⟨q, hq, r1, r2⟩ := h.all i hi k hk0 (by omega)
        exact ⟨q, List.mem_append_left _ hq, r1, r2⟩
    · rw [getD_set_ne e] at hk
      obtain ⟨q, hq, r1, r2⟩ := h.all j hj k hk0 hk
      exact ⟨q, List.mem_append_left _ hq, r1, r2⟩
  · rw [List.foldl_append, h.led]
    show ledG _ p = _
    unfold ledG
    dsimp only
    rw [q0, q2, q3, q4, q5, hti, wb, wb2, wt]
    rw [if_pos (show to > en.getD i 0 by omega)]
  · rw [List.foldl_append, h.law, hbsum]
    show lawG _ p = _
    unfold lawG
    dsimp only
    rw [q0, q3, q4, q5, hti, wb, wb3, wt]
  · rw [hs', hB']
    refine getD_set_cases (fun y : Int => 0 ≤ y ∧ y ≤ sumI nx * 2000 + 2000) (by omega) ?_
    have := h.bb j (by simpa using hj)
    omega
  · rw [hs', hB', hbsum]; omega
  · rw [hs']; cases freshR L m x <;> simp only [cond_true, cond_false] <;> omega
  · refine getD_set_cases (fun y : S71 => y.f0 ≤ _) hE.2.1 ?_
    have := h.em j (by simpa using hj)
    omega
  · refine getD_set_cases (fun y : Int => y ≤ _) hE.2.1 ?_
    have := h.ee j hj
    omega
  · rw [hs', hB']; omega
  · by_cases e : i = j
    · subst e
      rw [getD_set_eq (by omega), getD_set_eq (by omega)]
      rw [show (nx.getD i 0 + 1).toNat = (nx.getD i 0).toNat + 1 by omega, List.take_add_one, tmJ_app]
      have hxx : (jobs.getD i z54).f2[(nx.getD i 0).toNat]? = some x := by
        unfold lenJ at s2
        rw [List.getElem?_eq_getElem (by omega), ← hx]
        unfold stepJ
        rw [getD_lt (l := (jobs.getD i z54).f2) (i := (nx.getD i 0).toNat) (by omega)]
      rw [hxx]
      have := h.chn i hi
      show _ + tmJ [x] ≤ _
      simp only [tmJ]
      omega
    · rw [getD_set_ne e, getD_set_ne e]; exact h.chn j hj
  · rw [e2, potM_mid xt0 xt9, ← e1]
    have hj' : j < ms.length := by simpa using hj
    have hmj := h.mac j hj'
    by_cases e : x.f0.toNat = j
    · subst e
      rw [getD_set_eq s4]
      have hxe : x.f0 = ((x.f0.toNat : Nat) : Int) := by omega
      rw [if_pos hxe]
      rw [hm] at hmj
      show _ ≤ to
      by_cases hu : usedT ((x.f0.toNat : Nat) : Int) x.f2 (doneL jobs nx) = false
      · rw [if_pos hu]
        have hfr : freshR L m x = true := by
          unfold freshR
          have : m.f1 ≠ x.f2 := fun e => by
            rcases h.tol _ s4 with ht | ht
            · rw [hm] at ht; omega
            · rw [hm, e, hu] at ht; cases ht
          simp [this]
        have := ht3 hfr
        omega
      · rw [if_neg hu]; omega
    · rw [getD_set_ne e, if_neg (by omega)]; omega
  · rw [e2]
    have hj' : j < ms.length := by simpa using hj
    by_cases e : x.f0.toNat = j
    · subst e
      rw [getD_set_eq s4]
      right
      show usedT _ x.f2 _ = true
      rw [usedT_mid]
      have hxe : x.f0 = ((x.f0.toNat : Nat) : Int) := by omega
      rw [← hxe]; simp
    · rw [getD_set_ne e]
      rcases h.tol j hj' with ht | ht
      · exact .inl ht
      · right; rw [usedT_mid, ← e1, ht, Bool.or_true]

end
end Go.Proofs.YtchohkelpjfpcaaDoor.AX

/- Plans are right: the whole run. No conditions. -/
namespace Go.Proofs.YtchohkelpjfpcaaDoor.AX
open Go

section
variable {M S L : Int} {jobs : List S54}

theorem Run.start (h : ShopOk M S L jobs) : Run M S L jobs (List.replicate M.toNat m0) (List.replicate jobs.length 0) (List.replicate jobs.length 0) [] 0 0 (List.replicate M.toNat 0) := by
  have hz : ∀ (n i : Nat), (List.replicate n (0 : Int)).getD i 0 = 0 := fun n i => by
    rcases Nat.lt_or_ge i n with hi | hi
    · rw [getD_lt (by simpa using hi)]; simp
    · simp [List.getD, List.getElem?_eq_none, hi]
  have hm : ∀ i, i < M.toNat → (List.replicate M.toNat m0).getD i z71 = m0 := fun i hi => by rw [getD_lt (by simpa using hi)]; simp
  have hs := start_inv h
  refine ⟨by rw [sumI_zero]; exact hs, .nil, ⟨h, by simp, fun i hi => by rw [hm i (by simpa using hi)]; decide, by simp, by simp⟩, by simp, fun i hi k h0 hk => ?_, by simp [sumI_zero], rfl, by rw [sumI_zero]; rfl, by simp, fun i hi => ?_, by simp [sumI_zero], by simp [sumI_zero], fun i hi => ?_, fun i hi => ?_, by simp [sumI_zero], fun i hi => ?_, fun i hi => ?_, fun i hi => ?_⟩
  · rw [hz] at hk; omega
  · rw [sumI_zero, hz]; omega
  · rw [hm i (by simpa using hi)]; decide
  · rw [hz]; decide
  · rw [hz]; exact Int.le_refl _
  · rw [doneL_zero, hm i (by simpa using hi)]
    unfold potM tlN
    show 0 + S * _ ≤ 0
    simp [uT, usedT]
  · rw [hm i (by simpa using hi)]; exact .inl rfl

theorem planR_run : ∀ (f : Nat) (ms : List S71) (nx en : List Int) (out : List S56) (E T : Int) (bu : List Int), Run M S L jobs ms nx en out E T bu → sumI nx + f = 161 →
    ∃ ms' nx' en' E' T' bu', Run M S L jobs ms' nx' en' (planR jobs S L f ms nx en out) E' T' bu' ∧ ∀ i, i < jobs.length → nx'.getD i 0 = lenJ jobs i
  | 0, ms, nx, en, out, E, T, bu, h, hs => by have := Run.small h.inv; omega
  | f + 1, ms, nx, en, out, E, T, bu, h, hs => by
    simp only [planR]
    by_cases h0 : (pickJ jobs ms nx en).1 < 0
    · rw [if_pos h0]
      exact ⟨ms, nx, en, E, T, bu, h, pick_neg h0⟩
    · rw [if_neg h0]
      obtain ⟨hi, E', T', bu', h'⟩ := h.step rfl h0 (i := (pickJ jobs ms nx en).1.toNat) (by omega) rfl rfl rfl
      refine planR_run f _ _ _ _ E' T' bu' h' ?_
      have hln := h.inv.ln
      rw [sumI_set (by omega)]; omega

theorem sumL_eq (h : ShopOk M S L jobs) : sumL jobs = sumI (jobs.map fun j => (j.f2.length : Int)) := by
  have key : ∀ (l : List S54) (a : Int), (∀ j ∈ l, j.f2.length ≤ 8) → 0 ≤ a → a + 8 * l.length ≤ 100000 → l.foldl (fun a j => Go.IntKind.wrap .i64 (a + (j.f2.length : Int))) a = a + sumI (l.map fun j => (j.f2.length : Int)) := by
    intro l
    induction l with
    | nil => intro a _ _ _; simp [sumI]
    | cons j l ih =>
      intro a hl h0 h1
      have hj := hl j (by simp)
      rw [List.length_cons] at h1
      rw [List.foldl_cons, w64 (by omega) (by omega), ih _ (fun k hk => hl k (by simp [hk])) (by omega) (by omega)]
      simp only [List.map_cons, sumI]; omega
  have := h.n
  unfold sumL
  rw [key jobs 0 (fun j hj => (h.job j hj).2.1) (by decide) (by omega)]; omega

theorem Run.total {ms : List S71} {nx en : List Int} {out : List S56} {E T : Int} {bu : List Int} (h : Run M S L jobs ms nx en out E T bu) (hf : ∀ i, i < jobs.length → nx.getD i 0 = lenJ jobs i) : sumL jobs = out.length := by
  rw [sumL_eq h.inv.ok, h.len]
  congr 1
  have hln := h.inv.ln
  refine List.ext_getElem (by simp [hln]) fun i h1 h2 => ?_
  have := hf i (by omega)
  rw [getD_lt h2] at this
  rw [this]
  unfold lenJ
  rw [getD_lt (by omega)]; simp

theorem Run.planC {ms : List S71} {nx en : List Int} {out : List S56} {E T : Int} {bu : List Int} (h : Run M S L jobs ms nx en out E T bu) (hr : shopR M S L jobs = true) (hf : ∀ i, i < jobs.length → nx.getD i 0 = lenJ jobs i) :
    planC M S L jobs out = (0, 0) ∧ (out ≠ [] → AX.planC M S L jobs out.dropLast = (18, (out.length : Int) - 1)) := by
  have hn := h.inv.ok.n
  have hsm := Run.small h.inv
  have hl := h.len
  have ht := h.total hf
  constructor
  · unfold AX.planC
    rw [if_neg (by simp; omega), if_neg (by rw [hr]; decide), h.rch.none]
    show (if _ then _ else _) = _
    rw [if_neg (by omega)]
  · intro hne
    have hpos : 0 < out.length := List.length_pos_iff.2 hne
    obtain ⟨ms', hb⟩ := h.rch.back
    unfold AX.planC
    rw [List.length_dropLast, if_neg (by simp; omega), if_neg (by rw [hr]; decide), hb.none]
    show (if _ then _ else _) = _
    rw [if_pos (by omega)]
    rw [Int.ofNat_sub (by omega)]; rfl

theorem Run.ledR {ms : List S71} {nx en : List Int} {out : List S56} {E T : Int} {bu : List Int} (h : Run M S L jobs ms nx en out E T bu) (hr : shopR M S L jobs = true) (hf : ∀ i, i < jobs.length → nx.getD i 0 = lenJ jobs i) :
    AX.ledR M S L jobs out = ((E, lateR jobs en, T * S, T, bu), 0) := by
  have hT := h.tt
  have hS1 := h.inv.ok.s1
  have hS2 := h.inv.ok.s2
  have hsm := Run.small h.inv
  have hm : 0 ≤ T * S ∧ T * S ≤ 160 * 1000 := ⟨Int.mul_nonneg hT.1 hS1, Int.mul_le_mul (by omega) hS2 hS1 (by decide)⟩
  unfold AX.ledR
  rw [(h.planC hr hf).1, if_neg (by simp), h.led]
  show ((E, lateR jobs en, Go.IntKind.wrap .i64 (T * S), T, bu), 0) = _
  rw [w64 (by omega) (by omega)]

/-- A slot that is later. -/
def shP (d : Int) (x : S56) : S56 := ⟨x.f0, x.f1, x.f2, x.f3 + d, x.f4 + d, x.f5⟩

theorem ahead_shift (d : Int) (pre : List S56) (x : S56) : aheadP (pre.map (shP d)) (shP d x) = aheadP pre x := by
  unfold aheadP
  have e : (shP d x).f1 = x.f1 := rfl
  rw [e]
  by_cases h : x.f1 > 0
  · rw [if_pos h, if_pos h, List.find?_map]
    have e2 : (prevP (shP d x) ∘ shP d) = prevP x := rfl
    rw [e2]
    cases pre.find? (prevP x) with
    | none => rfl
    | some p =>
      show decide (p.f4 + d ≤ x.f3 + d) = decide (p.f4 ≤ x.f3)
      by_cases h2 : p.f4 ≤ x.f3
      · rw [dT h2, dT (by omega)]
      · rw [dF h2, dF (by omega)]
  · rw [if_neg h, if_neg h]

theorem Reach.shift {d : Int} (hd : 0 ≤ d ∧ d ≤ 1000) (hok : ShopOk M S L jobs) {ms0 : List S71} {pre : List S56} {ms : List S71} (h : Reach S L jobs ms0 pre ms) : (∀ p ∈ pre, 0 ≤ p.f3 ∧ p.f3 ≤ p.f4 ∧ p.f4 ≤ 400000) →
    ∃ ms', Reach S L jobs ms0 (pre.map (shP d)) ms' ∧ ms'.length = ms.length ∧ ∀ i, (ms'.getD i z71).f0 ≤ (ms.getD i z71).f0 + d ∧ (ms'.getD i z71).f1 = (ms.getD i z71).f1 ∧ (ms'.getD i z71).f2 = (ms.getD i z71).f2 := by
  induction h with
  | nil => exact fun _ => ⟨_, .nil, rfl, fun i => ⟨by omega, rfl, rfl⟩⟩
  | snoc h hc ih =>
    rename_i pre ms ms' x
    intro hb
    obtain ⟨ms1, r1, r2, r3⟩ := ih (fun p hp => hb p (by simp [hp]))
    have hx := hb x (by simp)
    have hbad := chk_bad hc
    obtain ⟨-, -, -, -, -, -, b1, b2, b3, b4⟩ := badP_no hok hbad
    unfold chkP at hc
    rw [if_neg (by rw [hbad]; decide)] at hc
    split at hc
    · cases hc
    · rename_i hs
      split at hc
      · cases hc
      · rename_i hr
        split at hc
        · cases hc
        · rename_i ha
          split at hc
          · cases hc
          · rename_i hf
            split at hc
            · cases hc
            · rename_i hto
              injection hc with hc
              have hto : x.f4 = toR S x.f3 (tP jobs x) x.f5 := by simpa using hto
              have hf : freshR L (ms.getD x.f2.toNat z71) (tP jobs x) = x.f5 := by simpa using hf
              have ha : aheadP pre x = true ∧ ¬ x.f3 < (ms.getD x.f2.toNat z71).f0 := by simpa using ha
              have t1 := (toR_eq hok b3 b4 (f := x.f3) hx.1 (by omega) x.f5).1
              have t2 := (toR_eq hok b3 b4 (f := x.f3 + d) (by omega) (by omega) x.f5).1
              have hto2 : x.f4 + d = toR S (x.f3 + d) (tP jobs x) x.f5 := by
                rw [hto, t1, t2]; cases x.f5 <;> simp only [cond_true, cond_false] <;> omega
              obtain ⟨m1, m2, m3⟩ := r3 x.f2.toNat
              have hf2 : freshR L (ms1.getD x.f2.toNat z71) (tP jobs x) = x.f5 := by rw [← hf]; unfold freshR; rw [m2, m3]
              have hw : wearR (ms1.getD x.f2.toNat z71) (tP jobs x) x.f5 = wearR (ms.getD x.f2.toNat z71) (tP jobs x) x.f5 := by unfold wearR; rw [m3]
              refine ⟨ms1.set x.f2.toNat ⟨x.f4 + d, (tP jobs x).f2, wearR (ms.getD x.f2.toNat z71) (tP jobs x) x.f5⟩, ?_, by rw [← hc]; simp [r2], fun i => ?_⟩
              · rw [List.map_append]
                refine .snoc r1 ?_
                have hs2 : (pre.map (shP d)).any (sameP (shP d x)) = pre.any (sameP x) := by rw [List.any_map]; rfl
                have htp : tP jobs (shP d x) = tP jobs x := rfl
                unfold chkP
                rw [if_neg (by rw [show badP jobs (shP d x) = badP jobs x from rfl, hbad]; decide), if_neg (by rw [hs2]; exact hs)]
                show (if ((decide (x.f3 + d < 0)) || (decide (x.f3 + d > 1000000000))) = true then _ else _) = _
                rw [if_neg (by simp; omega), ahead_shift, ha.1]
                show ((if (!true || decide (x.f3 + d < (ms1.getD x.f2.toNat z71).f0)) = true then _ else if freshR L (ms1.getD x.f2.toNat z71) (tP jobs (shP d x)) ≠ x.f5 then _ else if x.f4 + d ≠ toR S (x.f3 + d) (tP jobs (shP d x)) x.f5 then _ else Sum.inr (ms1.set x.f2.toNat ⟨x.f4 + d, (tP jobs (shP d x)).f2, wearR (ms1.getD x.f2.toNat z71) (tP jobs (shP d x)) x.f5⟩)) : Int ⊕ List S71) = _
                rw [htp, hf2, hw, ← hto2, if_neg (by rw [dF (show ¬ x.f3 + d < (ms1.getD x.f2.toNat z71).f0 by omega)]; decide), if_neg (by simp), if_neg (by simp)]
              · rw [← hc]
                by_cases e : x.f2.toNat = i
                · subst e
                  by_cases hl : x.f2.toNat < ms.length
                  · rw [getD_set_eq hl, getD_set_eq (by omega)]; exact ⟨by show x.f4 + d ≤ x.f4 + d; omega, rfl, rfl⟩
                  · rw [List.set_eq_of_length_le (by omega), List.set_eq_of_length_le (by omega)]; exact r3 _
                · rw [getD_set_ne e, getD_set_ne e]; exact r3 i

theorem led_shift {d : Int} (hd : 0 ≤ d) : ∀ (l : List S56) (a a' : Led), a'.1 = a.1 + d → a'.2.1 = a.2.1 → ((l.map (shP d)).foldl ledG a').1 = (l.foldl ledG a).1 + d ∧ ((l.map (shP d)).foldl ledG a').2.1 = (l.foldl ledG a).2.1
  | [], a, a', h1, h2 => ⟨h1, h2⟩
  | x :: l, a, a', h1, h2 => by
    rw [List.map_cons, List.foldl_cons, List.foldl_cons]
    refine led_shift hd l _ _ ?_ ?_
    · show (if x.f4 + d > a'.1 then x.f4 + d else a'.1) = (if x.f4 > a.1 then x.f4 else a.1) + d
      rw [h1]; split <;> split <;> omega
    · show (bif x.f5 then Go.IntKind.wrap .i64 (a'.2.1 + 1) else a'.2.1) = (bif x.f5 then Go.IntKind.wrap .i64 (a.2.1 + 1) else a.2.1)
      rw [h2]

theorem Run.later {ms : List S71} {nx en : List Int} {out : List S56} {E T : Int} {bu : List Int} (h : Run M S L jobs ms nx en out E T bu) (hr : shopR M S L jobs = true) (hf : ∀ i, i < jobs.length → nx.getD i 0 = lenJ jobs i) (hne : out ≠ []) {d : Int} (hd : 0 ≤ d ∧ d ≤ 1000) :
    (AX.ledR M S L jobs (out.map (shP d))).2 = 0 ∧ (AX.ledR M S L jobs (out.map (shP d))).1.1 = E + d ∧ (AX.ledR M S L jobs (out.map (shP d))).1.2.2.2.1 = T := by
  have hn := h.inv.ok.n
  have hsm := Run.small h.inv
  have hl := h.len
  have ht := h.total hf
  obtain ⟨ms', r, -, -⟩ := h.rch.shift hd h.inv.ok (fun p hp => by have := h.don p hp; omega)
  have hc : AX.planC M S L jobs (out.map (shP d)) = (0, 0) := by
    unfold AX.planC
    rw [List.length_map, if_neg (by simp; omega), if_neg (by rw [hr]; decide), r.none]
    show (if _ then _ else _) = _
    rw [if_neg (by omega)]
  unfold AX.ledR
  rw [hc, if_neg (by simp)]
  have hled := h.led
  cases out with
  | nil => exact absurd rfl hne
  | cons x l =>
    have hx := h.don x (by simp)
    rw [List.map_cons, List.foldl_cons]
    rw [List.foldl_cons] at hled
    have := led_shift hd.1 l (ledG (0, 0, List.replicate jobs.length 0, List.replicate M.toNat 0) x) (ledG (0, 0, List.replicate jobs.length 0, List.replicate M.toNat 0) (shP d x)) (by
      show (if x.f4 + d > 0 then x.f4 + d else 0) = (if x.f4 > 0 then x.f4 else 0) + d
      split <;> split <;> omega) rfl
    rw [hled] at this
    exact ⟨rfl, this.1, this.2⟩

end
end Go.Proofs.YtchohkelpjfpcaaDoor.AX

/- The bound: the program and its reference agree; no plan ends sooner. No conditions. -/
namespace Go.Proofs.YtchohkelpjfpcaaDoor.AX
open Go

/-- What the machines have to bear so far. -/
structure BInv (M S : Int) (D : List S69) (bu : List Int) : Prop where
  lb : bu.length = M.toNat
  at' : ∀ m : Nat, m < M.toNat → bu.getD m 0 = potM S m D
  bd : ∀ m : Nat, m < M.toNat → 0 ≤ bu.getD m 0 ∧ bu.getD m 0 ≤ 2000 * D.length
def MInv (D : List S69) (mp : List S95) : Prop := ∀ m t : Int, (mfT z95 (fun e : S95 => (m == e.f0) && (t == e.f1)) mp).f2 = usedT m t D
def UInv (M : Int) (D : List S69) (us : List Bool) : Prop := us.length = (10 * M).toNat ∧ ∀ m t : Nat, m < M.toNat → t < 10 → us.getD (10 * m + t) false = usedT m t D

section
variable {M S L : Int} {jobs : List S54}

theorem BInv.step {D : List S69} {bu : List Int} (h : BInv M S D bu) (hok : ShopOk M S L jobs) {x : S69} (h0 : 0 ≤ x.f0) (h1 : x.f0 < M) (h2 : 1 ≤ x.f1) (h3 : x.f1 ≤ 1000) (h4 : 0 ≤ x.f2) (h5 : x.f2 ≤ 9) {v : Int} (hv : v = bu.getD x.f0.toNat 0 + (x.f1 + if usedT x.f0 x.f2 D = false then S else 0)) : BInv M S (D ++ [x]) (bu.set x.f0.toNat v) := by
  have hs1 := hok.s1
  have hs2 := hok.s2
  have hlb := h.lb
  have hp : ∀ m : Nat, potM S m (D ++ [x]) = potM S m D + (if x.f0 = (m : Int) then x.f1 + (if usedT m x.f2 D = false then S else 0) else 0) := fun m => by
    have := potM_mid (S := S) (m := (m : Int)) (a := D) (b := []) (x := x) h4 h5
    rw [List.append_nil] at this
    exact this
  have hsm : 0 ≤ (if usedT x.f0 x.f2 D = false then S else 0) ∧ (if usedT x.f0 x.f2 D = false then S else 0) ≤ 1000 := by split <;> omega
  refine ⟨by simp [hlb], fun m hm => ?_, fun m hm => ?_⟩
  · rw [hp]
    by_cases e : x.f0.toNat = m
    · have e2 : x.f0 = (m : Int) := by omega
      rw [← e, getD_set_eq (by omega), hv, e, if_pos e2, h.at' m hm, e2]
    · rw [getD_set_ne e, if_neg (by omega), h.at' m hm]; omega
  · rw [List.length_append]
    by_cases e : x.f0.toNat = m
    · have := h.bd m hm
      rw [← e, getD_set_eq (by omega), hv, e]
      simp only [List.length_cons, List.length_nil]; omega
    · rw [getD_set_ne e]
      have := h.bd m hm
      simp only [List.length_cons, List.length_nil]; omega

theorem usedT_end (m t : Int) (D : List S69) (x : S69) : usedT m t (D ++ [x]) = ((decide (x.f0 = m) && decide (x.f2 = t)) || usedT m t D) := by
  have := usedT_mid m t D [] x
  rw [List.append_nil] at this
  exact this

theorem find_put2 (m t a b : Int) : ∀ mp : List S95, (mfT z95 (fun e : S95 => (m == e.f0) && (t == e.f1)) (mpT (fun e : S95 => (a == e.f0) && (b == e.f1)) (⟨a, b, true⟩ : S95) mp)).f2 = (((m == a) && (t == b)) || (mfT z95 (fun e : S95 => (m == e.f0) && (t == e.f1)) mp).f2)
  | [] => by
    show (mfT z95 _ [(⟨a, b, true⟩ : S95)]).f2 = _
    rw [mfT_cons]
    by_cases h : ((m == a) && (t == b)) = true
    · rw [if_pos h, h]; rfl
    · rw [if_neg h]
      simp only [Bool.not_eq_true] at h
      rw [h, Bool.false_or]
  | e :: mp => by
    simp only [mpT]
    cases hk : ((a == e.f0) && (b == e.f1)) with
    | true =>
      rw [cond_true, mfT_cons, mfT_cons]
      simp only [Bool.and_eq_true, beq_iff_eq] at hk
      rw [hk.1, hk.2]
      by_cases h : ((m == e.f0) && (t == e.f1)) = true
      · rw [if_pos h, if_pos h, h]; rfl
      · rw [if_neg h, if_neg h]
        simp only [Bool.not_eq_true] at h
        rw [h, Bool.false_or]
    | false =>
      rw [cond_false, mfT_cons, mfT_cons]
      by_cases h : ((m == e.f0) && (t == e.f1)) = true
      · rw [if_pos h, if_pos h]
        have h' := h
        simp only [Bool.and_eq_true, beq_iff_eq] at h'
        have : ((m == a) && (t == b)) = false := by
          rw [h'.1, h'.2]
          by_cases q1 : e.f0 = a
          · by_cases q2 : e.f1 = b
            · rw [q1, q2] at hk; simp at hk
            · simp [q2]
          · simp [q1]
        rw [this, Bool.false_or]
      · rw [if_neg h, if_neg h]; exact find_put2 m t a b mp

theorem MInv.put {D : List S69} {mp : List S95} (h : MInv D mp) (x : S69) : MInv (D ++ [x]) (mpT (fun e : S95 => (x.f0 == e.f0) && (x.f2 == e.f1)) (⟨x.f0, x.f2, true⟩ : S95) mp) := fun m t => by
  rw [find_put2, h m t, usedT_end]
  congr 1
  have e1 : (m == x.f0) = decide (x.f0 = m) := by
    by_cases h : x.f0 = m
    · rw [h]; simp
    · rw [dF h]; exact by simpa using fun e : m = x.f0 => h e.symm
  have e2 : (t == x.f2) = decide (x.f2 = t) := by
    by_cases h : x.f2 = t
    · rw [h]; simp
    · rw [dF h]; exact by simpa using fun e : t = x.f2 => h e.symm
  rw [e1, e2]
theorem MInv.keep {D : List S69} {mp : List S95} (h : MInv D mp) {x : S69} (hx : usedT x.f0 x.f2 D = true) : MInv (D ++ [x]) mp := fun m t => by
  rw [h m t, usedT_end]
  by_cases h1 : x.f0 = m
  · by_cases h2 : x.f2 = t
    · rw [← h1, ← h2, hx]; simp
    · simp [h2]
  · simp [h1]

def goodS (M : Int) (x : S69) : Prop := 0 ≤ x.f0 ∧ x.f0 < M ∧ 1 ≤ x.f1 ∧ x.f1 ≤ 1000 ∧ 0 ≤ x.f2 ∧ x.f2 ≤ 9

theorem mf95 (p : S95 → Bool) (l : List S95) : (mfind (U := uni) 13 p l : S95) = mfT z95 p l := rfl
theorem mp95 (p : S95 → Bool) (x : S95) : ∀ l : List S95, (mput (U := uni) 13 p x l : List S95) = mpT p x l
  | [] => rfl
  | e :: l => congrArg (fun t => bif p e then x :: l else e :: t) (mp95 p x l)

theorem F24.l2_ok (hok : ShopOk M S L jobs) {i : Nat} (hi : i < jobs.length) {st : List S69} (hst : (jobs.getD i z54).f2 = st) (hg : ∀ x ∈ st, goodS M x) (hsl : st.length ≤ 8) (v6 ln : Int) : ∀ (n k : Nat) (D : List S69) (bu : List Int) (mp : List S95) (v11 : Int), k + n = st.length → BInv M S D bu → MInv D mp → D.length + n ≤ 200 → 0 ≤ v11 → v11 ≤ 1000 * k →
    ∃ bu' mp', F24.l2 (v6, v11, ln, (i : Int), (i : Int), (st.length : Int), (k : Int), M, S, L, bu, mp, jobs) = some (v6, v11 + tmJ (st.drop k), ln, (i : Int), M, S, L, bu', mp', jobs) ∧ BInv M S (D ++ st.drop k) bu' ∧ MInv (D ++ st.drop k) mp'
  | 0, k, D, bu, mp, v11, hk, hb, hm, hD, h0, h1 => by
    rw [List.drop_eq_nil_of_le (by omega), List.append_nil]
    refine ⟨bu, mp, ?_, hb, hm⟩
    have d : decide ((k : Int) < (st.length : Int)) = false := dF (by omega)
    unfold F24.l2
    exact lim_out (by simp only [F24.l2.b, d, cF, tmJ, Int.add_zero])
  | n + 1, k, D, bu, mp, v11, hk, hb, hm, hD, h0, h1 => by
    have hlt : k < st.length := by omega
    have hx := getD_lt (l := st) (d := z69) hlt
    have hdr : st.drop k = st[k] :: st.drop (k + 1) := by rw [List.drop_eq_getElem_cons hlt]
    generalize hxv : st[k] = x at hx hdr
    obtain ⟨g0, g1, g2, g3, g4, g5⟩ := hg x (by rw [← hxv]; exact List.getElem_mem _)
    have hs1 := hok.s1
    have hs2 := hok.s2
    have hM := hok.m1
    have hlb := hb.lb
    have hbx := hb.bd x.f0.toNat (by omega)
    have d : decide ((k : Int) < (st.length : Int)) = true := dT (by omega)
    have d2 : decide ((0 : Int) ≤ (k : Int)) = true := dT (by omega)
    have d3 : decide (0 ≤ x.f0) = true := dT g0
    have d4 : decide (x.f0 < (bu.length : Int)) = true := dT (by omega)
    have d4' : ∀ v : Int, decide (x.f0 < ((bu.set x.f0.toNat v).length : Int)) = true := fun v => dT (by rw [List.length_set]; omega)
    have w1 : Go.IntKind.wrap .i64 (bu.getD x.f0.toNat 0 + x.f1) = bu.getD x.f0.toNat 0 + x.f1 := w64 (by omega) (by omega)
    have w2 : Go.IntKind.wrap .i64 (bu.getD x.f0.toNat 0 + x.f1 + S) = bu.getD x.f0.toNat 0 + x.f1 + S := w64 (by omega) (by omega)
    have w3 : Go.IntKind.wrap .i64 (v11 + x.f1) = v11 + x.f1 := w64 (by omega) (by omega)
    have w4 : Go.IntKind.wrap .i64 ((k : Int) + 1) = ((k + 1 : Nat) : Int) := by rw [w64 (by omega) (by omega)]; rfl
    have hmx : (mfT z95 (fun e : S95 => (x.f0 == e.f0) && (x.f2 == e.f1)) mp).f2 = usedT x.f0 x.f2 D := hm _ _
    have hget : ∀ v : Int, (bu.set x.f0.toNat v).getD x.f0.toNat 0 = v := fun v => getD_set_eq (by omega)
    cases hu : usedT x.f0 x.f2 D with
    | false =>
      rw [hu] at hmx
      obtain ⟨bu', mp', e1, e2, e3⟩ := F24.l2_ok hok hi hst hg hsl v6 ln n (k + 1) (D ++ [x]) (bu.set x.f0.toNat (bu.getD x.f0.toNat 0 + x.f1 + S)) (mpT (fun e : S95 => (x.f0 == e.f0) && (x.f2 == e.f1)) (⟨x.f0, x.f2, true⟩ : S95) mp) (v11 + x.f1) (by omega)
        (hb.step hok g0 g1 g2 g3 g4 g5 (by rw [if_pos hu]; omega)) (hm.put x) (by simp; omega) (by omega) (by omega)
      refine ⟨bu', mp', ?_, by rw [hdr]; simpa using e2, by rw [hdr]; simpa using e3⟩
      rw [hdr]
      simp only [tmJ]
      rw [show v11 + (x.f1 + tmJ (st.drop (k + 1))) = v11 + x.f1 + tmJ (st.drop (k + 1)) by omega, ← e1]
      unfold F24.l2
      refine lim_in ?_
      simp only [F24.l2.b, d, d2, cT, Int.toNat_natCast, hst, hx, d3, d4, d4', Bool.and_self, mf95, mp95, hmx, Bool.not_false, w1, hget, w2, List.set_set, w3, w4]
    | true =>
      rw [hu] at hmx
      obtain ⟨bu', mp', e1, e2, e3⟩ := F24.l2_ok hok hi hst hg hsl v6 ln n (k + 1) (D ++ [x]) (bu.set x.f0.toNat (bu.getD x.f0.toNat 0 + x.f1)) mp (v11 + x.f1) (by omega)
        (hb.step hok g0 g1 g2 g3 g4 g5 (by rw [hu]; simp)) (hm.keep hu) (by simp; omega) (by omega) (by omega)
      refine ⟨bu', mp', ?_, by rw [hdr]; simpa using e2, by rw [hdr]; simpa using e3⟩
      rw [hdr]
      simp only [tmJ]
      rw [show v11 + (x.f1 + tmJ (st.drop (k + 1))) = v11 + x.f1 + tmJ (st.drop (k + 1)) by omega, ← e1]
      unfold F24.l2
      refine lim_in ?_
      simp only [F24.l2.b, d, d2, cT, cF, Int.toNat_natCast, hst, hx, d3, d4, Bool.and_self, mf95, mp95, hmx, Bool.not_true, w1, w3, w4]

theorem UInv.put {D : List S69} {us : List Bool} (h : UInv M D us) {x : S69} (hg : goodS M x) : UInv M (D ++ [x]) (us.set (10 * x.f0 + x.f2).toNat true) := by
  obtain ⟨g0, g1, g2, g3, g4, g5⟩ := hg
  refine ⟨by rw [List.length_set]; exact h.1, fun m t hm ht => ?_⟩
  rw [usedT_end]
  by_cases e : (10 * x.f0 + x.f2).toNat = 10 * m + t
  · rw [e, getD_set_eq (by rw [h.1]; omega)]
    have e1 : x.f0 = (m : Int) := by omega
    have e2 : x.f2 = (t : Int) := by omega
    simp [e1, e2]
  · rw [getD_set_ne e, h.2 m t hm ht]
    have : (decide (x.f0 = (m : Int)) && decide (x.f2 = (t : Int))) = false := by
      rw [Bool.and_eq_false_iff]
      by_cases e1 : x.f0 = (m : Int)
      · right; exact dF (by omega)
      · left; exact dF e1
    rw [this, Bool.false_or]
theorem UInv.keep {D : List S69} {us : List Bool} (h : UInv M D us) {x : S69} (hx : usedT x.f0 x.f2 D = true) : UInv M (D ++ [x]) us := by
  refine ⟨h.1, fun m t hm ht => ?_⟩
  rw [h.2 m t hm ht, usedT_end]
  by_cases h1 : x.f0 = (m : Int)
  · by_cases h2 : x.f2 = (t : Int)
    · rw [← h1, ← h2, hx]; simp
    · simp [h2]
  · simp [h1]

theorem F25.l2_ok (hok : ShopOk M S L jobs) {i : Nat} (hi : i < jobs.length) {st : List S69} (hst : (jobs.getD i z54).f2 = st) (hg : ∀ x ∈ st, goodS M x) (hsl : st.length ≤ 8) (v6 : Int) : ∀ (n k : Nat) (D : List S69) (bu : List Int) (us : List Bool) (v10 : Int), k + n = st.length → BInv M S D bu → UInv M D us → D.length + n ≤ 200 → 0 ≤ v10 → v10 ≤ 1000 * k →
    ∃ bu' us', F25.l2 (v6, (i : Int), v10, (k : Int), M, S, L, jobs, bu, us) = some (v6, (i : Int), v10 + tmJ (st.drop k), M, S, L, jobs, bu', us') ∧ BInv M S (D ++ st.drop k) bu' ∧ UInv M (D ++ st.drop k) us'
  | 0, k, D, bu, us, v10, hk, hb, hm, hD, h0, h1 => by
    rw [List.drop_eq_nil_of_le (by omega), List.append_nil]
    refine ⟨bu, us, ?_, hb, hm⟩
    have d : decide ((k : Int) < (st.length : Int)) = false := dF (by omega)
    have d1 : decide ((i : Int) < (jobs.length : Int)) = true := dT (by omega)
    have d2 : decide ((0 : Int) ≤ (i : Int)) = true := dT (by omega)
    unfold F25.l2
    exact lim_out (by simp only [F25.l2.b, d, d1, d2, Bool.and_self, cT, cF, tmJ, Int.add_zero, Int.toNat_natCast, hst])
  | n + 1, k, D, bu, us, v10, hk, hb, hm, hD, h0, h1 => by
    have hlt : k < st.length := by omega
    have hx := getD_lt (l := st) (d := z69) hlt
    have hdr : st.drop k = st[k] :: st.drop (k + 1) := by rw [List.drop_eq_getElem_cons hlt]
    generalize hxv : st[k] = x at hx hdr
    have hgx := hg x (by rw [← hxv]; exact List.getElem_mem _)
    obtain ⟨g0, g1, g2, g3, g4, g5⟩ := hgx
    have hgx := hg x (by rw [← hxv]; exact List.getElem_mem _)
    have hs1 := hok.s1
    have hs2 := hok.s2
    have hM := hok.m1
    have hM2 := hok.m2
    have hlb := hb.lb
    have hul := hm.1
    have hbx := hb.bd x.f0.toNat (by omega)
    have d : decide ((k : Int) < (st.length : Int)) = true := dT (by omega)
    have d2 : decide ((0 : Int) ≤ (k : Int)) = true := dT (by omega)
    have j1 : decide ((i : Int) < (jobs.length : Int)) = true := dT (by omega)
    have j2 : decide ((0 : Int) ≤ (i : Int)) = true := dT (by omega)
    have d3 : decide (0 ≤ x.f0) = true := dT g0
    have d4 : decide (x.f0 < (bu.length : Int)) = true := dT (by omega)
    have d4' : ∀ v : Int, decide (x.f0 < ((bu.set x.f0.toNat v).length : Int)) = true := fun v => dT (by rw [List.length_set]; omega)
    have w1 : Go.IntKind.wrap .i64 (bu.getD x.f0.toNat 0 + x.f1) = bu.getD x.f0.toNat 0 + x.f1 := w64 (by omega) (by omega)
    have w2 : Go.IntKind.wrap .i64 (bu.getD x.f0.toNat 0 + x.f1 + S) = bu.getD x.f0.toNat 0 + x.f1 + S := w64 (by omega) (by omega)
    have w3 : Go.IntKind.wrap .i64 (v10 + x.f1) = v10 + x.f1 := w64 (by omega) (by omega)
    have w4 : Go.IntKind.wrap .i64 ((k : Int) + 1) = ((k + 1 : Nat) : Int) := by rw [w64 (by omega) (by omega)]; rfl
    have w5 : Go.IntKind.wrap .i64 (10 * x.f0) = 10 * x.f0 := w64 (by omega) (by omega)
    have w6 : Go.IntKind.wrap .i64 (10 * x.f0 + x.f2) = 10 * x.f0 + x.f2 := w64 (by omega) (by omega)
    have d5 : decide (0 ≤ 10 * x.f0 + x.f2) = true := dT (by omega)
    have d6 : decide (10 * x.f0 + x.f2 < (us.length : Int)) = true := dT (by omega)
    have hux : us.getD (10 * x.f0 + x.f2).toNat false = usedT x.f0 x.f2 D := by
      have := hm.2 x.f0.toNat x.f2.toNat (by omega) (by omega)
      rw [show (10 * x.f0 + x.f2).toNat = 10 * x.f0.toNat + x.f2.toNat by omega, this]
      rw [show ((x.f0.toNat : Nat) : Int) = x.f0 by omega, show ((x.f2.toNat : Nat) : Int) = x.f2 by omega]
    have hget : ∀ v : Int, (bu.set x.f0.toNat v).getD x.f0.toNat 0 = v := fun v => getD_set_eq (by omega)
    cases hu : usedT x.f0 x.f2 D with
    | false =>
      rw [hu] at hux
      obtain ⟨bu', us', e1, e2, e3⟩ := F25.l2_ok hok hi hst hg hsl v6 n (k + 1) (D ++ [x]) (bu.set x.f0.toNat (bu.getD x.f0.toNat 0 + x.f1 + S)) (us.set (10 * x.f0 + x.f2).toNat true) (v10 + x.f1) (by omega)
        (hb.step hok g0 g1 g2 g3 g4 g5 (by rw [if_pos hu]; omega)) (hm.put hgx) (by simp; omega) (by omega) (by omega)
      refine ⟨bu', us', ?_, by rw [hdr]; simpa using e2, by rw [hdr]; simpa using e3⟩
      rw [hdr]
      simp only [tmJ]
      rw [show v10 + (x.f1 + tmJ (st.drop (k + 1))) = v10 + x.f1 + tmJ (st.drop (k + 1)) by omega, ← e1]
      unfold F25.l2
      refine lim_in ?_
      simp only [F25.l2.b, d, d2, j1, j2, cT, Int.toNat_natCast, hst, hx, d3, d4, d4', w5, w6, d5, d6, Bool.and_self, hux, Bool.not_false, w1, hget, w2, List.set_set, w3, w4]
    | true =>
      rw [hu] at hux
      obtain ⟨bu', us', e1, e2, e3⟩ := F25.l2_ok hok hi hst hg hsl v6 n (k + 1) (D ++ [x]) (bu.set x.f0.toNat (bu.getD x.f0.toNat 0 + x.f1)) us (v10 + x.f1) (by omega)
        (hb.step hok g0 g1 g2 g3 g4 g5 (by rw [hu]; simp)) (hm.keep hu) (by simp; omega) (by omega) (by omega)
      refine ⟨bu', us', ?_, by rw [hdr]; simpa using e2, by rw [hdr]; simpa using e3⟩
      rw [hdr]
      simp only [tmJ]
      rw [show v10 + (x.f1 + tmJ (st.drop (k + 1))) = v10 + x.f1 + tmJ (st.drop (k + 1)) by omega, ← e1]
      unfold F25.l2
      refine lim_in ?_
      simp only [F25.l2.b, d, d2, j1, j2, cT, cF, Int.toNat_natCast, hst, hx, d3, d4, w5, w6, d5, d6, Bool.and_self, hux, Bool.not_true, w1, w3, w4]

end
end Go.Proofs.YtchohkelpjfpcaaDoor.AX

/- The bound, whole. No conditions. -/
namespace Go.Proofs.YtchohkelpjfpcaaDoor.AX
open Go

def mxL (v : Int) (l : List Int) : Int := l.foldl (fun b n => if n > b then n else b) v
def mxJ (v : Int) (l : List S54) : Int := l.foldl (fun b j => if tmJ j.f2 > b then tmJ j.f2 else b) v
theorem mxL_le {E : Int} : ∀ {l : List Int} {v : Int}, v ≤ E → (∀ x ∈ l, x ≤ E) → mxL v l ≤ E
  | [], v, h, _ => h
  | x :: l, v, h, hl => by
    show mxL (if x > v then x else v) l ≤ E
    refine mxL_le ?_ fun y hy => hl y (by simp [hy])
    have := hl x (by simp)
    split <;> omega
theorem mxJ_le {E : Int} : ∀ {l : List S54} {v : Int}, v ≤ E → (∀ x ∈ l, tmJ x.f2 ≤ E) → mxJ v l ≤ E
  | [], v, h, _ => h
  | x :: l, v, h, hl => by
    show mxJ (if tmJ x.f2 > v then tmJ x.f2 else v) l ≤ E
    refine mxJ_le ?_ fun y hy => hl y (by simp [hy])
    have := hl x (by simp)
    split <;> omega

section
variable {M S L : Int} {jobs : List S54}

theorem good_steps (hok : ShopOk M S L jobs) {i : Nat} (hi : i < jobs.length) : (∀ x ∈ (jobs.getD i z54).f2, goodS M x) ∧ (jobs.getD i z54).f2.length ≤ 8 := by
  have h := hok.job (jobs.getD i z54) (by rw [getD_lt hi]; exact List.getElem_mem hi)
  exact ⟨fun x hx => by have := h.2.2.2.2 x hx; exact ⟨this.1, this.2.1, this.2.2.1, this.2.2.2.1, this.2.2.2.2.1, this.2.2.2.2.2.1⟩, h.2.1⟩

theorem BInv.start (hok : ShopOk M S L jobs) : BInv M S [] (List.replicate M.toNat 0) := by
  have hz : ∀ m : Nat, (List.replicate M.toNat (0 : Int)).getD m 0 = 0 := fun m => by
    rcases Nat.lt_or_ge m M.toNat with hi | hi
    · rw [getD_lt (by simpa using hi)]; simp
    · simp [List.getD, List.getElem?_eq_none, hi]
  refine ⟨by simp, fun m hm => ?_, fun m hm => by rw [hz]; simp⟩
  rw [hz]
  unfold potM tlN
  simp [uT, usedT, tmS]
theorem BInv.canon {D : List S69} {bu : List Int} (h : BInv M S D bu) : bu = (List.range M.toNat).map fun m : Nat => potM S (m : Int) D :=
  List.ext_getElem (by simp [h.lb]) fun i h1 h2 => by
    have := h.at' i (by rw [← h.lb]; exact h1)
    rw [getD_lt h1] at this
    rw [this]; simp

def bndR (M S : Int) (jobs : List S54) : Int := mxL (mxJ 0 jobs) ((List.range M.toNat).map fun m : Nat => potM S (m : Int) (jobs.flatMap (·.f2)))

theorem F24.l0_ok (hok : ShopOk M S L jobs) : ∀ (n i : Nat) (D : List S69) (bu : List Int) (mp : List S95) (v6 : Int), i + n = jobs.length → BInv M S D bu → MInv D mp → D.length + 8 * n ≤ 200 →
    ∃ bu', F24.l0 (v6, (jobs.length : Int), (i : Int), M, S, L, bu, mp, jobs) = some (mxJ v6 (jobs.drop i), bu') ∧ BInv M S (D ++ (jobs.drop i).flatMap (·.f2)) bu'
  | 0, i, D, bu, mp, v6, hi, hb, hm, hD => by
    rw [List.drop_eq_nil_of_le (by omega)]
    refine ⟨bu, ?_, by simpa using hb⟩
    have d : decide ((i : Int) < (jobs.length : Int)) = false := dF (by omega)
    unfold F24.l0
    exact lim_out (by simp only [F24.l0.b, d, cF]; rfl)
  | n + 1, i, D, bu, mp, v6, hi, hb, hm, hD => by
    have hlt : i < jobs.length := by omega
    have hn := hok.n
    obtain ⟨hg, hl8⟩ := good_steps hok hlt
    have hdr : jobs.drop i = jobs[i] :: jobs.drop (i + 1) := by rw [List.drop_eq_getElem_cons hlt]
    have hj : jobs.getD i z54 = jobs[i] := getD_lt hlt
    obtain ⟨bu1, mp1, e1, e2, e3⟩ := F24.l2_ok hok hlt rfl hg hl8 v6 (jobs.length : Int) _ 0 D bu mp 0 (Nat.zero_add _) hb hm (by omega) (by omega) (by omega)
    rw [List.drop_zero] at e1 e2 e3
    have e1 : F24.l2 (v6, 0, (jobs.length : Int), (i : Int), (i : Int), ((jobs.getD i z54).f2.length : Int), 0, M, S, L, bu, mp, jobs) = _ := e1
    rw [hj, Int.zero_add] at e1
    obtain ⟨bu2, e4, e5⟩ := F24.l0_ok hok n (i + 1) _ bu1 mp1 (if tmJ jobs[i].f2 > v6 then tmJ jobs[i].f2 else v6) (by omega) e2 e3 (by rw [List.length_append]; omega)
    refine ⟨bu2, ?_, by rw [hdr, List.flatMap_cons, ← List.append_assoc, ← hj]; exact e5⟩
    rw [hdr, show mxJ v6 (jobs[i] :: jobs.drop (i + 1)) = mxJ (if tmJ jobs[i].f2 > v6 then tmJ jobs[i].f2 else v6) (jobs.drop (i + 1)) from rfl, ← e4]
    have d : decide ((i : Int) < (jobs.length : Int)) = true := dT (by omega)
    have d2 : decide ((0 : Int) ≤ (i : Int)) = true := dT (by omega)
    have w : Go.IntKind.wrap .i64 ((i : Int) + 1) = ((i + 1 : Nat) : Int) := by rw [w64 (by omega) (by omega)]; rfl
    unfold F24.l0
    refine lim_in ?_
    simp only [F24.l0.b, d, d2, Bool.and_self, cT, Int.toNat_natCast, e1, bS, w, hj]

theorem F25.l0_ok (hok : ShopOk M S L jobs) : ∀ (n i : Nat) (D : List S69) (bu : List Int) (us : List Bool) (v6 : Int), i + n = jobs.length → BInv M S D bu → UInv M D us → D.length + 8 * n ≤ 200 →
    ∃ bu', F25.l0 (v6, (i : Int), M, S, L, jobs, bu, us) = some (mxJ v6 (jobs.drop i), M, S, L, bu') ∧ BInv M S (D ++ (jobs.drop i).flatMap (·.f2)) bu'
  | 0, i, D, bu, us, v6, hi, hb, hm, hD => by
    rw [List.drop_eq_nil_of_le (by omega)]
    refine ⟨bu, ?_, by simpa using hb⟩
    have d : decide ((i : Int) < (jobs.length : Int)) = false := dF (by omega)
    unfold F25.l0
    exact lim_out (by simp only [F25.l0.b, d, cF]; rfl)
  | n + 1, i, D, bu, us, v6, hi, hb, hm, hD => by
    have hlt : i < jobs.length := by omega
    have hn := hok.n
    obtain ⟨hg, hl8⟩ := good_steps hok hlt
    have hdr : jobs.drop i = jobs[i] :: jobs.drop (i + 1) := by rw [List.drop_eq_getElem_cons hlt]
    have hj : jobs.getD i z54 = jobs[i] := getD_lt hlt
    obtain ⟨bu1, us1, e1, e2, e3⟩ := F25.l2_ok hok hlt rfl hg hl8 v6 _ 0 D bu us 0 (Nat.zero_add _) hb hm (by omega) (by omega) (by omega)
    rw [List.drop_zero] at e1 e2 e3
    have e1 : F25.l2 (v6, (i : Int), 0, 0, M, S, L, jobs, bu, us) = _ := e1
    rw [hj, Int.zero_add] at e1
    obtain ⟨bu2, e4, e5⟩ := F25.l0_ok hok n (i + 1) _ bu1 us1 (if tmJ jobs[i].f2 > v6 then tmJ jobs[i].f2 else v6) (by omega) e2 e3 (by rw [List.length_append]; omega)
    refine ⟨bu2, ?_, by rw [hdr, List.flatMap_cons, ← List.append_assoc, ← hj]; exact e5⟩
    rw [hdr, show mxJ v6 (jobs[i] :: jobs.drop (i + 1)) = mxJ (if tmJ jobs[i].f2 > v6 then tmJ jobs[i].f2 else v6) (jobs.drop (i + 1)) from rfl, ← e4]
    have d : decide ((i : Int) < (jobs.length : Int)) = true := dT (by omega)
    have w : Go.IntKind.wrap .i64 ((i : Int) + 1) = ((i + 1 : Nat) : Int) := by rw [w64 (by omega) (by omega)]; rfl
    unfold F25.l0
    refine lim_in ?_
    simp only [F25.l0.b, d, cT, Int.toNat_natCast, e1, bS, w, hj]

theorem F24.l4_ok {bu : List Int} (h : bu.length ≤ 1000) (v : Int) : F24.l4 (v, (bu.length : Int), 0, bu) = some (mxL v bu) :=
  lim_fold (f := F24.l4.b) (fun i (a : Int) => (a, (bu.length : Int), (i : Int), bu)) bu 0 (fun b n => if n > b then n else b) (fun _ => True) (z := fun a => a) v trivial (fun _ _ _ _ => trivial) (fun i a hi _ => by
    have d1 : decide ((i : Int) < (bu.length : Int)) = true := dT (by omega)
    have d2 : decide ((0 : Int) ≤ (i : Int)) = true := dT (by omega)
    have w : Go.IntKind.wrap .i64 ((i : Int) + 1) = ((i + 1 : Nat) : Int) := by rw [w64 (by omega) (by omega)]; rfl
    simp only [F24.l4.b, d1, d2, Bool.and_self, cT, Int.toNat_natCast, w])
    (fun a _ => by
      have d1 : decide ((bu.length : Int) < (bu.length : Int)) = false := dF (by omega)
      simp only [F24.l4.b, d1, cF])
theorem F25.l4_ok {bu : List Int} (hl : bu.length = M.toNat) (hM : 0 ≤ M) (h : bu.length ≤ 1000) (v : Int) : F25.l4 (v, 0, M, S, L, bu) = some (mxL v bu) :=
  lim_fold (f := F25.l4.b) (fun i (a : Int) => (a, (i : Int), M, S, L, bu)) bu 0 (fun b n => if n > b then n else b) (fun _ => True) (z := fun a => a) v trivial (fun _ _ _ _ => trivial) (fun i a hi _ => by
    have d1 : decide ((i : Int) < M) = true := dT (by omega)
    have d3 : decide ((i : Int) < (bu.length : Int)) = true := dT (by omega)
    have d2 : decide ((0 : Int) ≤ (i : Int)) = true := dT (by omega)
    have w : Go.IntKind.wrap .i64 ((i : Int) + 1) = ((i + 1 : Nat) : Int) := by rw [w64 (by omega) (by omega)]; rfl
    simp only [F25.l4.b, d1, d2, d3, Bool.and_self, cT, Int.toNat_natCast, w])
    (fun a _ => by
      have d1 : decide ((bu.length : Int) < M) = false := dF (by omega)
      simp only [F25.l4.b, d1, cF])

theorem bound_ok (hr : shopR M S L jobs = true) : F24.F ((M, S, L), jobs) = some (bndR M S jobs, 0) ∧ F25.F ((M, S, L), jobs) = some (bndR M S jobs, 0) := by
  have hok := shop_ok hr
  have := hok.m1
  have := hok.m2
  have hn := hok.n
  have h0 : ¬ (jobs.length : Int) > 4096 := by omega
  have d1 : ((decide (0 ≤ M) && decide (M ≤ M)) && decide (M ≤ 274877906944)) = true := by simp; omega
  have w : Go.IntKind.wrap .i64 (10 * M) = 10 * M := w64 (by omega) (by omega)
  have d2 : ((decide (0 ≤ 10 * M) && decide (10 * M ≤ 10 * M)) && decide (10 * M ≤ 274877906944)) = true := by simp; omega
  constructor
  · obtain ⟨bu, e1, e2⟩ := F24.l0_ok hok jobs.length 0 [] _ [] 0 (by omega) (BInv.start hok) (fun m t => rfl) (by simp; omega)
    rw [List.drop_zero] at e1 e2
    have e1 : F24.l0 (0, (jobs.length : Int), 0, M, S, L, List.replicate M.toNat 0, ([] : List S95), jobs) = _ := e1
    have hlb := e2.lb
    simp only [F24.F, dF h0, cF, F38.ok, bS, hr, Bool.not_true, d1, cT, e1, F24.l4_ok (show bu.length ≤ 1000 by omega)]
    rw [e2.canon]; rfl
  · obtain ⟨bu, e1, e2⟩ := F25.l0_ok hok jobs.length 0 [] _ (List.replicate (10 * M).toNat false) 0 (by omega) (BInv.start hok) ⟨by simp, fun m t hm ht => by rw [getD_lt (by simp; omega)]; simp [usedT]⟩ (by simp; omega)
    rw [List.drop_zero] at e1 e2
    have e1 : F25.l0 (0, 0, M, S, L, jobs, List.replicate M.toNat 0, List.replicate (10 * M).toNat false) = _ := e1
    have hlb := e2.lb
    simp only [F25.F, dF h0, cF, F32.ok, bS, hr, Bool.not_true, d1, w, d2, cT, e1, F25.l4_ok hlb (show 0 ≤ M by omega) (show bu.length ≤ 1000 by omega)]
    rw [e2.canon]; rfl

theorem Run.bound {ms : List S71} {nx en : List Int} {out : List S56} {E T : Int} {bu : List Int} (h : Run M S L jobs ms nx en out E T bu) (hf : ∀ i, i < jobs.length → nx.getD i 0 = lenJ jobs i) : bndR M S jobs ≤ E := by
  unfold bndR
  refine mxL_le (mxJ_le h.eb.1 fun j hj => ?_) fun x hx => ?_
  · obtain ⟨i, hi, rfl⟩ := List.getElem_of_mem hj
    have h1 := h.chn i hi
    rw [hf i hi, getD_lt hi] at h1
    unfold lenJ at h1
    rw [getD_lt hi, Int.toNat_natCast, List.take_length] at h1
    have h2 := h.ee i hi
    omega
  · obtain ⟨m, hm, rfl⟩ := List.mem_map.1 hx
    have hm := List.mem_range.1 hm
    have hm' : m < ms.length := by rw [h.inv.lm]; exact hm
    have h1 := h.mac m hm'
    rw [doneL_full h.inv.ln hf] at h1
    have h2 := h.em m hm'
    omega

end
end Go.Proofs.YtchohkelpjfpcaaDoor.AX

/- It comes to something: rules, one for each word of a print. No conditions. -/
namespace Go.Proofs.YtchohkelpjfpcaaDoor.AX
open Go

/-- It comes to something of which P holds. -/
def Df {α : Type} (o : Option α) (P : α → Prop) : Prop := ∃ y, o = some y ∧ P y

section
variable {α β X Y : Type} {P : α → Prop} {Q : β → Prop}
theorem Df.ret {y : α} (h : P y) : Df (some y) P := ⟨y, rfl, h⟩
theorem Df.bind {o : Option α} {f : α → Option β} (h : Df o P) (k : ∀ y, P y → Df (f y) Q) : Df (o.bind f) Q := by
  obtain ⟨y, rfl, hy⟩ := h
  obtain ⟨z, e, hz⟩ := k y hy
  exact ⟨z, by rw [bS]; exact e, hz⟩
theorem Df.both {b : Bool} {x y : Option α} (h1 : b = true → Df x P) (h2 : b = false → Df y P) : Df (cond b x y) P := by
  cases b
  · rw [cF]; exact h2 rfl
  · rw [cT]; exact h1 rfl
theorem Df.need {b : Bool} {x : Option α} (hb : b = true) (h : Df x P) : Df (cond b x none) P := by rw [hb, cT]; exact h
theorem Df.mono {o : Option α} {P' : α → Prop} (h : Df o P) (hi : ∀ y, P y → P' y) : Df o P' := let ⟨y, e, hy⟩ := h; ⟨y, e, hi y hy⟩
theorem Df.eq {o : Option α} {y : α} (h : o = some y) : Df o (fun z => z = y) := ⟨y, h, rfl⟩
theorem Df.of {o : Option α} {y : α} (h : o = some y) (hy : P y) : Df o P := ⟨y, h, hy⟩

/-- A loop that comes to an end: what holds ahead of each round, and what falls. -/
theorem Df.loop {f : X → Option (X ⊕ Y)} {R : Y → Prop} (I : Nat → X → Prop) (hs : ∀ m x, I m x → Df (f x) (fun r => match r with | .inl x' => ∃ m', m' < m ∧ I m' x' | .inr y => R y)) : ∀ (m : Nat) (x : X), I m x → Df (lim f x) R := by
  intro m
  induction m using Nat.strongRecOn with
  | _ m ih =>
    intro x hx
    obtain ⟨r, e, hr⟩ := hs m x hx
    cases r with
    | inl x' =>
      obtain ⟨m', hm, hx'⟩ := hr
      obtain ⟨y, e', hy⟩ := ih m' hm x' hx'
      exact ⟨y, by rw [lim_in e]; exact e', hy⟩
    | inr y => exact ⟨y, lim_out e, hr⟩
theorem Df.bindE {o : Option α} {y : α} {f : α → Option β} (h : o = some y) (k : Df (f y) Q) : Df (o.bind f) Q := by subst h; rw [bS]; exact k
theorem Df.unroll {f : X → Option (X ⊕ Y)} {x : X} {R : Y → Prop} (h : Df (f x) (fun r => match r with | .inl x' => Df (lim f x') R | .inr y => R y)) : Df (lim f x) R := by
  obtain ⟨r, e, hr⟩ := h
  cases r with
  | inl x' =>
    obtain ⟨y, e', hy⟩ := hr
    exact ⟨y, by rw [lim_in e]; exact e', hy⟩
  | inr y => exact ⟨y, lim_out e, hr⟩
end

/-- Tests and what they say. -/
theorem de {p : Prop} [Decidable p] (h : decide p = true) : p := of_decide_eq_true h
theorem dn {p : Prop} [Decidable p] (h : decide p = false) : ¬ p := of_decide_eq_false h
theorem an {a b : Bool} (h : (a && b) = true) : a = true ∧ b = true := by simpa using h
theorem mka {a b : Bool} (h : a = true) (h' : b = true) : (a && b) = true := by rw [h, h']; rfl

end Go.Proofs.YtchohkelpjfpcaaDoor.AX

/- Drawn shops: the draws never fail. No conditions. -/
namespace Go.Proofs.YtchohkelpjfpcaaDoor.AX
open Go

/-- A row of octets. -/
def Oct (l : List Int) : Prop := ∀ x ∈ l, 0 ≤ x ∧ x ≤ 255
theorem oct_at {l : List Int} {i : Nat} (h : Oct l) (hi : i < l.length) : 0 ≤ l.getD i 0 ∧ l.getD i 0 ≤ 255 := by
  rw [getD_lt hi]; exact h _ (List.getElem_mem hi)

theorem md {x : Int} {p : Int} (hp : 1 ≤ p) (hx : 0 ≤ x) : 0 ≤ Int.tmod x p ∧ Int.tmod x p < p := ⟨Int.tmod_nonneg p hx, Int.tmod_lt_of_pos x (by omega)⟩

def Dr (k : Nat) (a b : Int) : Prop := 0 ≤ a ∧ a ≤ k ∧ 0 ≤ b ∧ b < 2147483648

theorem F65.ok {l : List Int} (hl : l.length ≤ 1048576) (ho : Oct l) {k : Nat} (hk : k ≤ 1000000) {a b : Int} (h : Dr k a b) : ∃ x a' b', F65.F (l, a, b) = some (x, a', b') ∧ Dr (k + 1) a' b' ∧ 0 ≤ x ∧ x ≤ 255 := by
  obtain ⟨h1, h2, h3, h4⟩ := h
  have w1 : IntKind.wrap .i64 (a + 1) = a + 1 := w64 (by omega) (by omega)
  have w2 : IntKind.wrap .i64 (a + 1 - 1) = a := by rw [w64 (by omega) (by omega)]; omega
  by_cases c1 : a + 1 ≤ (l.length : Int)
  · have e1 : decide (a + 1 ≤ (l.length : Int)) = true := dT c1
    have e2 : decide (0 ≤ a) = true := dT h1
    have e3 : decide (a < (l.length : Int)) = true := dT (by omega)
    obtain ⟨o1, o2⟩ := oct_at (i := a.toNat) ho (by omega)
    refine ⟨_, _, _, by simp only [F65.F, w1, w2, e1, e2, e3, Bool.and_self, cT] <;> rfl, ⟨by omega, by omega, ?_, ?_⟩, ?_⟩
    · rw [w64 (x := l.getD a.toNat 0) (by omega) (by omega), w64 (x := b * 31) (by omega) (by omega), w64 (x := b * 31 + l.getD a.toNat 0) (by omega) (by omega), w64 (by omega) (by omega)]
      exact (md (by omega) (by omega)).1
    · rw [w64 (x := l.getD a.toNat 0) (by omega) (by omega), w64 (x := b * 31) (by omega) (by omega), w64 (x := b * 31 + l.getD a.toNat 0) (by omega) (by omega), w64 (by omega) (by omega)]
      exact (md (by omega) (by omega)).2
    · rw [w64 (by omega) (by omega)]; exact ⟨o1, o2⟩
  · have e1 : decide (a + 1 ≤ (l.length : Int)) = false := dF c1
    by_cases c2 : a + 1 > 3000
    · have e2 : decide (a + 1 > 3000) = true := dT c2
      exact ⟨_, _, _, by simp only [F65.F, w1, e1, e2, cT, cF] <;> rfl, ⟨by omega, by omega, h3, h4⟩, by omega, by omega⟩
    · have e2 : decide (a + 1 > 3000) = false := dF c2
      have w3 : IntKind.wrap .i64 (b * 1103515245) = b * 1103515245 := w64 (by omega) (by omega)
      have w4 : IntKind.wrap .i64 (b * 1103515245 + 12345) = b * 1103515245 + 12345 := w64 (by omega) (by omega)
      have m1 := md (x := b * 1103515245 + 12345) (p := 2147483648) (by omega) (by omega)
      refine ⟨_, _, _, by simp only [F65.F, w1, e1, e2, w3, w4, cF] <;> rfl, ⟨by omega, by omega, m1.1, m1.2⟩, ?_⟩
      generalize Int.tmod (b * 1103515245 + 12345) 2147483648 = x at m1 ⊢
      have t1 : 0 ≤ Int.tdiv x 65536 ∧ Int.tdiv x 65536 ≤ x := by
        rw [Int.tdiv_eq_ediv_of_nonneg m1.1]; omega
      rw [w64 (by omega) (by omega)]
      have := md (x := Int.tdiv x 65536) (p := 256) (by omega) t1.1
      omega

theorem F56.ok {l : List Int} (hl : l.length ≤ 1048576) (ho : Oct l) {k : Nat} (hk : k ≤ 100000) {a b p : Int} (h : Dr k a b) : ∃ x a' b', F56.F ((l, a, b), p) = some (x, (a', b'), ()) ∧ Dr (k + 3) a' b' ∧ 0 ≤ x ∧ (x < p ∨ x = 0) := by
  by_cases c1 : p ≤ 1
  · exact ⟨_, _, _, by simp only [F56.F, dT c1, cT] <;> rfl, ⟨h.1, by have := h.2.1; omega, h.2.2⟩, by omega, .inr rfl⟩
  · have e0 : (!(decide (p = 0))) = true := by rw [dF (by omega)]; rfl
    obtain ⟨x1, a1, b1, f1, s1, g1, g2⟩ := F65.ok hl ho (by omega) h
    by_cases c2 : p ≤ 256
    · have m := md (x := x1) (p := p) (by omega) g1
      exact ⟨_, _, _, by simp only [F56.F, dF c1, dT c2, cT, cF, f1, bS, e0] <;> rfl, ⟨s1.1, by have := s1.2.1; omega, s1.2.2⟩, m.1, .inl m.2⟩
    · obtain ⟨x2, a2, b2, f2, s2, g3, g4⟩ := F65.ok hl ho (by omega) s1
      obtain ⟨x3, a3, b3, f3, s3, g5, g6⟩ := F65.ok hl ho (by omega) s2
      have w1 : IntKind.wrap .i64 (x1 * 65536) = x1 * 65536 := w64 (by omega) (by omega)
      have w2 : IntKind.wrap .i64 (x2 * 256) = x2 * 256 := w64 (by omega) (by omega)
      have w3 : IntKind.wrap .i64 (x1 * 65536 + x2 * 256) = x1 * 65536 + x2 * 256 := w64 (by omega) (by omega)
      have w4 : IntKind.wrap .i64 (x1 * 65536 + x2 * 256 + x3) = x1 * 65536 + x2 * 256 + x3 := w64 (by omega) (by omega)
      have m := md (x := x1 * 65536 + x2 * 256 + x3) (p := p) (by omega) (by omega)
      exact ⟨_, _, _, by simp only [F56.F, dF c1, dF c2, cT, cF, f1, f2, f3, bS, e0, w1, w2, w3, w4] <;> rfl, s3, m.1, .inl m.2⟩

theorem F59.ok {l : List Int} (hl : l.length ≤ 1048576) (ho : Oct l) {k : Nat} (hk : k ≤ 100000) {a b : Int} (h : Dr k a b) : ∃ x a' b', F59.F (l, a, b) = some (x, a', b') ∧ Dr (k + 3) a' b' := by
  obtain ⟨x, a', b', f, s, h1, h2⟩ := F56.ok hl ho hk (p := 12) h
  have e1 : decide (0 ≤ x) = true := dT h1
  have e2 : decide (x < ((12 : Nat) : Int)) = true := dT (by omega)
  exact ⟨_, _, _, by simp only [F59.F, f, bS, List.length_cons, List.length_nil]; simp only [Nat.zero_add, Nat.reduceAdd, e1, e2, Bool.and_self, cT] <;> rfl, s⟩

theorem F57.ok {l : List Int} (hl : l.length ≤ 1048576) {a b : Int} : ∃ x, F57.F ((l, a, b), 5) = some (x, (a, b), ()) ∧ 0 ≤ x ∧ x ≤ 5 := by
  have t : 0 ≤ Int.tdiv (l.length : Int) 12 ∧ Int.tdiv (l.length : Int) 12 ≤ l.length := by rw [Int.tdiv_eq_ediv_of_nonneg (by omega)]; omega
  refine ⟨_, by simp only [F57.F] <;> rfl, ?_⟩
  rw [w64 (x := Int.tdiv (l.length : Int) 12) (by omega) (by omega), w64 (by omega) (by omega)]
  split <;> omega

theorem Dr.more {k m : Nat} {a b : Int} (h : Dr k a b) (hk : k ≤ m) : Dr m a b := ⟨h.1, by have := h.2.1; omega, h.2.2⟩
theorem len1 {α : Type} {r : List α} {x : α} (h : r.length ≤ 1000000) : decide (r.length + (x :: []).length ≤ 274877906944) = true := dT (by simp; omega)

/-- A number's digits. -/
theorem F60.lev_ok : ∀ (k : Nat) (n : Int) (j : Nat), 0 ≤ n → n ≤ 9223372036854775807 → n < 10 ^ (k + 1) → k < j → k ≤ 100 → ∃ t, F60.lev j n = some t ∧ t.size ≤ k + 1
  | k, n, 0, h0, hb, h1, hj, hk => by omega
  | k, n, j + 1, h0, hb, h1, hj, hk => by
    have hs : ∀ y : Int, (strRow (U := uni) 4 (y :: [])).size = 1 := fun y => by unfold strRow; rw [strOfNums_size]; rfl
    have d1 : (n == (-9223372036854775808)) = false := by
      rw [beq_eq_false_iff_ne]; omega
    by_cases h2 : n < 10
    · exact ⟨_, by simp only [F60.lev, F60.S, d1, cF, dF (show ¬ n < 0 by omega), dT h2, cT]; rfl, by rw [hs]; omega⟩
    · cases k with
      | zero => simp at h1; omega
      | succ k =>
        have hd : Int.tdiv n 10 = n / 10 := Int.tdiv_eq_ediv_of_nonneg h0
        have e10 : (10 : Int) ^ (k + 1 + 1) = 10 ^ (k + 1) * 10 := Int.pow_succ ..
        have hlt : n / 10 < 10 ^ (k + 1) := by rw [e10] at h1; omega
        obtain ⟨t, e, ht⟩ := F60.lev_ok k (n / 10) j (by omega) (by omega) hlt (by omega) (by omega)
        have w : Go.IntKind.wrap .i64 (n / 10) = n / 10 := w64 (by omega) (by omega)
        exact ⟨_, by simp only [F60.lev, F60.S, d1, cF, dF (show ¬ n < 0 by omega), dF h2, hd, w, e, bS, dT (show t.size + (strRow (U := uni) 4 ((Go.IntKind.wrap (Go.IntKind.u8) (Go.IntKind.wrap (Go.IntKind.i64) (48 + Int.tmod n 10))) :: [])).size ≤ 274877906944 by rw [hs]; omega), cT]; rfl, by rw [ByteArray.size_append, hs]; omega⟩
theorem F60.ok {n : Int} (h : 0 ≤ n) (h1 : n < 100) : ∃ t, F60.F n = some t ∧ t.size ≤ 2 := F60.lev_ok 1 n 24 h (by omega) (by simpa using h1) (by decide) (by decide)

def J4 (jobs : List S54) : Prop := ∀ j ∈ jobs, 1 ≤ j.f2.length ∧ j.f2.length ≤ 4
theorem J4.at {jobs : List S54} (h : J4 jobs) {i : Int} (hi : ((decide (0 ≤ i)) && (decide (i < (jobs.length : Int)))) = true) : 1 ≤ (jobs.getD i.toNat z54).f2.length ∧ (jobs.getD i.toNat z54).f2.length ≤ 4 := by
  simp only [Bool.and_eq_true, decide_eq_true_eq] at hi
  rw [getD_lt (by omega)]; exact h _ (List.getElem_mem _)

section
variable {l : List Int} (hl : l.length ≤ 1048576) (ho : Oct l)
include hl ho

theorem F58.df {k : Nat} {a b : Int} {t : List ByteArray} (ht : t.length = 3) (h : Dr k a b) (hk : k ≤ 100000) : Df (F58.F ((l, a, b), t)) (fun y => Dr (k + 3) y.2.1.1 y.2.1.2) := by
  obtain ⟨x, a1, b1, f1, s1, g1, g2⟩ := F56.ok hl ho (k := k) hk (p := ((3 : Nat) : Int)) h
  have e : ((t.length : Int) == 0) = false := by rw [ht]; rfl
  have d1 : decide (0 ≤ x) = true := dT g1
  have d2 : decide (x < (t.length : Int)) = true := dT (by rw [ht]; omega)
  rw [← ht] at f1
  simp only [F58.F, e, cF, f1, bS, d1, d2, Bool.and_self, cT]
  exact .ret s1
theorem F59.df {k : Nat} {a b : Int} (h : Dr k a b) (hk : k ≤ 100000) : Df (F59.F (l, a, b)) (fun y => Dr (k + 3) y.2.1 y.2.2) := by
  obtain ⟨x, a', b', f, s⟩ := F59.ok hl ho hk h
  exact .of f s

theorem F46.l2_df {v7 c0 c1 c2 M S L due : Int} {nm : ByteArray} {names : List ByteArray} {jobs : List S54} : ∀ (m k : Nat) (a b : Int) (st : List S69), Dr k a b → k + 12 * m ≤ 90000 → m ≤ 100 → st.length ≤ 1000 - m →
    Df (F46.l2 (v7, (m : Int), a, b, c0, c1, c2, M, S, L, nm, due, names, jobs, l, st)) (fun y => ∃ a' b' st', y = (v7, a', b', c0, c1, c2, M, S, L, nm, due, names, jobs, l, st') ∧ Dr (k + 12 * m) a' b' ∧ st'.length = st.length + m)
  | 0, k, a, b, st, h, hk, hm, hs => by
    unfold F46.l2
    refine .unroll ?_
    have e : decide (((0 : Nat) : Int) > 0) = false := rfl
    simp only [F46.l2.b, e, cF]
    exact .ret ⟨a, b, st, rfl, h, rfl⟩
  | m + 1, k, a, b, st, h, hk, hm, hs => by
    obtain ⟨x1, a1, b1, f1, s1, g1⟩ := F56.ok hl ho (k := k) (by omega) (p := M) h
    obtain ⟨x2, a2, b2, f2, s2, g2⟩ := F56.ok hl ho (k := k + 3) (by omega) (p := 12) s1
    obtain ⟨x3, a3, b3, f3, s3, g3⟩ := F56.ok hl ho (k := k + 3 + 3) (by omega) (p := 3) s2
    obtain ⟨x4, a4, b4, f4, s4, g4⟩ := F56.ok hl ho (k := k + 3 + 3 + 3) (by omega) (p := 5) s3
    have ih := F46.l2_df (v7 := v7) (c0 := c0) (c1 := c1) (c2 := c2) (M := M) (S := S) (L := L) (due := due) (nm := nm) (names := names) (jobs := jobs) m (k + 12) a4 b4 (st ++ [⟨x1, Go.IntKind.wrap .i64 (1 + x2), x3, x4⟩]) s4 (by omega) (by omega) (by simp; omega)
    unfold F46.l2 at ih ⊢
    refine .unroll ?_
    have e : decide (((m + 1 : Nat) : Int) > 0) = true := dT (by omega)
    have w : Go.IntKind.wrap .i64 (((m + 1 : Nat) : Int) - 1) = (m : Int) := by rw [w64 (by omega) (by omega)]; omega
    have d1 : ∀ y : S69, decide (st.length + (y :: []).length ≤ 274877906944) = true := fun y => len1 (by omega)
    simp only [F46.l2.b, e, cT, f1, f2, f3, f4, bS, w, d1]
    exact .ret (ih.mono fun z ⟨a', b', st', e1, e2, e3⟩ => ⟨a', b', st', e1, e2.more (by omega), by rw [e3]; simp; try omega⟩)

theorem F46.l0_df {c0 c1 c2 M S L : Int} {names : List ByteArray} (hn : names.length = 6) : ∀ (m k : Nat) (v7 a b : Int) (jobs : List S54), Dr k a b → k + 60 * m ≤ 90000 → jobs.length + m = 6 → J4 jobs → v7 ≤ 1000 →
    Df (F46.l0 (v7, a, b, c0, c1, c2, M, S, L, names, jobs, l)) (fun y => ∃ a' b' jobs', y = (a', b', c0, c1, c2, M, S, L, jobs', l) ∧ Dr (k + 60 * m) a' b' ∧ J4 jobs' ∧ jobs'.length ≤ 6)
  | 0, k, v7, a, b, jobs, h, hk, hm, hj, h7 => by
    unfold F46.l0
    refine .unroll ?_
    have e : decide ((jobs.length : Int) < (names.length : Int)) = false := dF (by omega)
    simp only [F46.l0.b, e, Bool.and_false, cF]
    exact .ret ⟨a, b, jobs, rfl, h, hj, by omega⟩
  | m + 1, k, v7, a, b, jobs, h, hk, hm, hj, h7 => by
    have d2 : decide ((jobs.length : Int) < (names.length : Int)) = true := dT (by omega)
    have d3 : decide ((0 : Int) ≤ (jobs.length : Int)) = true := dT (by omega)
    obtain ⟨x1, a1, b1, f1, s1, g1⟩ := F56.ok hl ho (k := k) (by omega) (p := 60) h
    obtain ⟨x2, a2, b2, f2, s2, g2, g3⟩ := F56.ok hl ho (k := k + 3) (by omega) (p := 4) s1
    have w : Go.IntKind.wrap .i64 (1 + x2) = ((x2.toNat + 1 : Nat) : Int) := by rw [w64 (by omega) (by omega)]; omega
    unfold F46.l0
    refine .unroll ?_
    simp only [F46.l0.b, d2, d3, Bool.and_true, Bool.and_self]
    refine .both (fun hc => ?_) (fun _ => .ret ⟨a, b, jobs, rfl, h.more (by omega), hj, by omega⟩)
    have hc := de hc
    simp only [f1, f2, bS, cT, w]
    refine .bind (F46.l2_df hl ho (x2.toNat + 1) (k + 3 + 3) a2 b2 [] s2 (by omega) (by omega) (by simp)) fun y hy => ?_
    obtain ⟨a3, b3, st, rfl, s3, hst⟩ := hy
    have d4 : ∀ y : S54, decide (jobs.length + (y :: []).length ≤ 274877906944) = true := fun y => len1 (by omega)
    have w2 : Go.IntKind.wrap .i64 (v7 - 1) = v7 - 1 := w64 (by omega) (by omega)
    simp only [d4, cT, w2]
    simp only [List.length_nil, Nat.zero_add] at hst
    refine .ret ?_
    have ih := F46.l0_df (c0 := c0) (c1 := c1) (c2 := c2) (M := M) (S := S) (L := L) hn m (k + 60) (v7 - 1) a3 b3 (jobs ++ [⟨names.getD (jobs.length : Int).toNat (ByteArray.mk (Array.mk ([] : List UInt8))), x1, st⟩]) (s3.more (by omega)) (by omega) (by simp; omega) (fun j hj' => by
      rcases List.mem_append.1 hj' with h | h
      · exact hj j h
      · simp at h; subst h; exact ⟨by show 1 ≤ st.length; omega, by show st.length ≤ 4; omega⟩) (by omega)
    unfold F46.l0 at ih
    exact ih.mono fun z ⟨a', b', j', e1, e2, e3, e4⟩ => ⟨a', b', j', e1, e2.more (by omega), e3, e4⟩

theorem F46.l5_df {i c0 c1 c2 M S L : Int} : ∀ (m k : Nat) (a b : Int) (jobs : List S54), Dr k a b → k + 3 * m ≤ 80000 → ((decide (0 ≤ i)) && (decide (i < (jobs.length : Int)))) = true → 1 ≤ (jobs.getD i.toNat z54).f2.length → (jobs.getD i.toNat z54).f2.length + m = 10 →
    Df (F46.l5 (i, a, b, c0, c1, c2, M, S, L, jobs, l)) (fun y => ∃ a' b' jobs', y = (a', b', c0, c1, c2, M, S, L, jobs', l) ∧ Dr (k + 3 * m + 3) a' b')
  | m, k, a, b, jobs, h, hk, hi, h1, hm => by
    obtain ⟨x, a1, b1, f1, s1, g1, g2⟩ := F56.ok hl ho (k := k) (by omega) (p := 2) h
    unfold F46.l5
    refine .unroll ?_
    have w : Go.IntKind.wrap .i64 (8 + x) = 8 + x := w64 (by omega) (by omega)
    simp only [F46.l5.b, hi, cT, f1, bS, w]
    refine .both (fun hc => ?_) (fun _ => .ret ⟨a1, b1, jobs, rfl, s1.more (by omega)⟩)
    have hc := de hc
    have hi' := hi
    simp only [Bool.and_eq_true, decide_eq_true_eq] at hi'
    cases m with
    | zero => omega
    | succ m =>
      have d1 : decide ((0 : Int) < ((jobs.getD i.toNat z54).f2.length : Int)) = true := dT (by omega)
      have d2 : ∀ y : S69, decide ((jobs.getD i.toNat z54).f2.length + (y :: []).length ≤ 274877906944) = true := fun y => len1 (by omega)
      simp only [d1, d2, cT, Nat.le_refl, decide_true, Bool.and_self, Int.le_refl, Bool.true_and]
      refine .ret ?_
      have hlt : i.toNat < jobs.length := by omega
      have ih := F46.l5_df (i := i) (c0 := c0) (c1 := c1) (c2 := c2) (M := M) (S := S) (L := L) m (k + 3) a1 b1 (jobs.set i.toNat ⟨(jobs.getD i.toNat z54).f0, (jobs.getD i.toNat z54).f1, (jobs.getD i.toNat z54).f2 ++ [⟨((jobs.getD i.toNat z54).f2.getD (Int.toNat 0) z69).f0, ((jobs.getD i.toNat z54).f2.getD (Int.toNat 0) z69).f1, ((jobs.getD i.toNat z54).f2.getD (Int.toNat 0) z69).f2, ((jobs.getD i.toNat z54).f2.getD (Int.toNat 0) z69).f3⟩]⟩) s1 (by omega) (by rw [List.length_set]; exact hi) (by rw [getD_set_eq hlt]; simp) (by rw [getD_set_eq hlt, List.length_append]; show _ + 1 + m = 10; omega)
      unfold F46.l5 at ih
      exact ih.mono fun z ⟨a', b', j', e1, e2⟩ => ⟨a', b', j', e1, e2.more (by omega)⟩

theorem F46.l7_df {c0 c1 c2 M S L : Int} : ∀ (m k : Nat) (a b : Int) (jobs : List S54), Dr k a b → k + 3 * m ≤ 80000 → jobs.length + m = 30 →
    Df (F46.l7 (a, b, c0, c1, c2, M, S, L, jobs, l)) (fun y => ∃ a' b' jobs', y = (a', b', c0, c1, c2, M, S, L, jobs', l) ∧ Dr (k + 3 * m + 3) a' b')
  | m, k, a, b, jobs, h, hk, hm => by
    obtain ⟨x, a1, b1, f1, s1, g1, g2⟩ := F56.ok hl ho (k := k) (by omega) (p := 3) h
    unfold F46.l7
    refine .unroll ?_
    have w : Go.IntKind.wrap .i64 (19 + x) = 19 + x := w64 (by omega) (by omega)
    simp only [F46.l7.b, f1, bS, w]
    refine .both (fun hc => ?_) (fun _ => .ret ⟨a1, b1, jobs, rfl, s1.more (by omega)⟩)
    have hc := de hc
    cases m with
    | zero => omega
    | succ m =>
      obtain ⟨t, e1, e2⟩ := F60.ok (n := (jobs.length : Int)) (by omega) (by omega)
      have d1 : decide ((ByteArray.mk (Array.mk (110 :: []))).size + t.size ≤ 274877906944) = true := dT (by have : (ByteArray.mk (Array.mk ((110 : UInt8) :: []))).size = 1 := rfl; omega)
      have d2 : ∀ y : S54, decide (jobs.length + (y :: []).length ≤ 274877906944) = true := fun y => len1 (by omega)
      simp only [e1, bS, d1, d2, cT]
      refine .ret ?_
      have ih := F46.l7_df (c0 := c0) (c1 := c1) (c2 := c2) (M := M) (S := S) (L := L) m (k + 3) a1 b1 (jobs ++ [⟨ByteArray.mk (Array.mk (110 :: [])) ++ t, 0, [⟨0, 1, 0, 0⟩]⟩]) s1 (by omega) (by simp; omega)
      unfold F46.l7 at ih
      exact ih.mono fun z ⟨a', b', j', e1, e2⟩ => ⟨a', b', j', e1, e2.more (by omega)⟩

theorem F46.df {k : Nat} {a b : Int} (h : Dr k a b) (hk : k ≤ 50000) : Df (F46.F (l, a, b)) (fun y => Dr (k + 1000) y.2.1 y.2.2) := by
  obtain ⟨x1, a1, b1, f1, s1, g1⟩ := F56.ok hl ho (k := k) (by omega) (p := 4) h
  obtain ⟨x2, a2, b2, f2, s2, g2⟩ := F56.ok hl ho (k := k + 3) (by omega) (p := 6) s1
  obtain ⟨x3, a3, b3, f3, s3, g3⟩ := F56.ok hl ho (k := k + 3 + 3) (by omega) (p := 12) s2
  obtain ⟨x4, f4, g4, g4'⟩ := F57.ok (l := l) hl (a := a3) (b := b3)
  obtain ⟨x5, a5, b5, f5, s5, g5, g5'⟩ := F56.ok hl ho (k := k + 3 + 3 + 3) (by omega) (p := Go.IntKind.wrap .i64 (x4 + 2)) s3
  rw [w64 (by omega) (by omega)] at g5'
  simp only [F46.F, f1, f2, f3, f4, f5, bS]
  refine .bind (F46.l0_df hl ho rfl 6 (k + 12) x5 a5 b5 [] (s5.more (by omega)) (by omega) rfl (by intro j hj; simp at hj) (by omega)) fun y hy => ?_
  obtain ⟨a6, b6, jobs, rfl, s6, hj, hlj⟩ := hy
  dsimp only
  simp only [F46.t36, bS]
  refine .both (fun hc => ?_) (fun _ => .ret (s6.more (by omega)))
  have hc := de hc
  obtain ⟨i, a7, b7, f7, s7, g7, g7'⟩ := F56.ok hl ho (k := k + 12 + 60 * 6) (by omega) (p := (jobs.length : Int)) s6
  obtain ⟨x8, a8, b8, f8, s8, g8⟩ := F56.ok hl ho (k := k + 12 + 60 * 6 + 3) (by omega) (p := 40) s7
  have hi : ((decide (0 ≤ i)) && (decide (i < (jobs.length : Int)))) = true := mka (dT g7) (dT (by omega))
  have hq := hj.at hi
  have hil : i.toNat < jobs.length := by omega
  have d0 : decide ((0 : Int) < ((jobs.getD i.toNat z54).f2.length : Int)) = true := dT (by omega)
  have d1 : ∀ y : S69, decide ((jobs.getD i.toNat z54).f2.length + (y :: []).length ≤ 274877906944) = true := fun y => len1 (by omega)
  simp only [f7, f8, bS, hi, cT, d0, d1, Nat.le_refl, decide_true, Bool.and_self, Bool.true_and, Int.le_refl]
  refine .both (fun _ => ?_) (fun _ => ?_)
  · refine .bind (F58.df hl ho rfl s8 (by omega)) fun y hy => .ret (hy.more (by omega))
  refine .both (fun _ => ?_) (fun _ => ?_)
  · refine .bind (F59.df hl ho s8 (by omega)) fun y hy => .ret (hy.more (by omega))
  refine .both (fun _ => ?_) (fun _ => ?_)
  · refine .bind (F59.df hl ho s8 (by omega)) fun y hy => .ret (hy.more (by omega))
  obtain ⟨x9, a9, b9, f9, s9, g9, g9'⟩ := F56.ok hl ho (k := k + 12 + 60 * 6 + 3 + 3) (by omega) (p := 3) s8
  have d3 : ∀ y1 y2 y3 : Int, ((decide (0 ≤ x9)) && (decide (x9 < ((y1 :: y2 :: y3 :: ([] : List Int)).length : Int)))) = true := fun _ _ _ => mka (dT g9) (dT (by show x9 < 3; omega))
  have d3' : ∀ y1 y2 y3 : Nat, ((decide (0 ≤ x9)) && (decide (x9 < ((y1 :: y2 :: y3 :: ([] : List Nat)).length : Int)))) = true := fun _ _ _ => mka (dT g9) (dT (by show x9 < 3; omega))
  refine .both (fun _ => ?_) (fun _ => ?_)
  · simp only [f9, bS, d3, cT]
    exact .ret (s9.more (by omega))
  refine .both (fun _ => ?_) (fun _ => ?_)
  · simp only [f9, bS, d3', cT]
    exact .ret (s9.more (by omega))
  refine .both (fun _ => ?_) (fun _ => ?_)
  · refine .bind (F59.df hl ho s8 (by omega)) fun y hy => .ret (hy.more (by omega))
  refine .both (fun _ => ?_) (fun _ => ?_)
  · refine .bind (F59.df hl ho s8 (by omega)) fun y hy => .ret (hy.more (by omega))
  refine .both (fun _ => ?_) (fun _ => ?_)
  · refine .bind (F46.l5_df hl ho (10 - (jobs.getD i.toNat z54).f2.length) _ a8 b8 jobs s8 (by omega) hi hq.1 (by omega)) fun y hy => ?_
    obtain ⟨a', b', j', rfl, s'⟩ := hy
    exact .ret (s'.more (by omega))
  refine .both (fun _ => ?_) (fun _ => ?_)
  · refine .bind (F46.l7_df hl ho (30 - jobs.length) _ a8 b8 jobs s8 (by omega) (by omega)) fun y hy => ?_
    obtain ⟨a', b', j', rfl, s'⟩ := hy
    exact .ret (s'.more (by omega))
  · exact .ret (s8.more (by omega))

omit hl ho in
theorem shop1 : shopR 1 2 5 [⟨ByteArray.mk (Array.mk (97 :: [])), 0, [⟨0, 3, 0, 2⟩]⟩] = true := by decide +kernel

theorem F21.l0_df {c0 c1 c2 : Int} : ∀ (m k : Nat) (v a b : Int), Dr k a b → k + 1000 * m ≤ 40000 → v + m = 3 → 0 ≤ v →
    Df (F21.l0 (v, c0, c1, c2, a, b, l)) (fun y => match y with | .inl q => shopR q.1 q.2.1 q.2.2.1 q.2.2.2 = true | .inr _ => True)
  | 0, k, v, a, b, h, hk, hv, h0 => by
    unfold F21.l0
    refine .unroll ?_
    have e : decide (v < 3) = false := dF (by omega)
    simp only [F21.l0.b, e, cF]
    exact .ret trivial
  | m + 1, k, v, a, b, h, hk, hv, h0 => by
    unfold F21.l0
    refine .unroll ?_
    have e : decide (v < 3) = true := dT (by omega)
    simp only [F21.l0.b, e, cT]
    refine .bind (F46.df hl ho h (by omega)) fun y hy => ?_
    obtain ⟨⟨⟨M, S, L⟩, jobs⟩, a1, b1⟩ := y
    dsimp only
    simp only [F32.ok, bS]
    refine .both (fun hc => .ret hc) (fun _ => .ret ?_)
    have w : Go.IntKind.wrap .i64 (v + 1) = v + 1 := w64 (by omega) (by omega)
    rw [w]
    have ih := F21.l0_df (c0 := c0) (c1 := c1) (c2 := c2) m (k + 1000) (v + 1) a1 b1 hy (by omega) (by omega) (by omega)
    unfold F21.l0 at ih
    exact ih

theorem F21.df : Df (F21.F l) (fun y => shopR y.1.1 y.1.2.1 y.1.2.2 y.2 = true) := by
  have m := md (x := (l.length : Int)) (p := 1000) (by omega) (by omega)
  have e : F45.F l = some (0, Int.tmod (l.length : Int) 1000) := rfl
  simp only [F21.F, e, bS]
  refine .bind (F21.l0_df hl ho 3 0 0 0 _ ⟨by omega, by omega, m.1, by omega⟩ (by omega) (by omega) (by omega)) fun y hy => ?_
  cases y with
  | inl q => exact .ret hy
  | inr q => exact .ret shop1

end
end Go.Proofs.YtchohkelpjfpcaaDoor.AX

/- The law of plans. No conditions. -/
namespace Go.Proofs.YtchohkelpjfpcaaDoor.AX
open Go

theorem F26.ok {l : List Int} (hl : l.length ≤ 1048576) (ho : Oct l) : ∃ d, F26.F (l, 0, 50) = some d ∧ 0 ≤ d ∧ d < 50 := by
  have e0 : decide ((50 : Int) ≤ 1) = false := rfl
  have e1 : (!(decide ((50 : Int) = 0))) = true := rfl
  by_cases h : l.length = 0
  · have e2 : ((l.length : Int) == 0) = true := by rw [h]; rfl
    exact ⟨_, by simp only [F26.F, e0, e2, e1, cF, cT]; rfl, by decide⟩
  · have e2 : ((l.length : Int) == 0) = false := by rw [beq_eq_false_iff_ne]; omega
    have e3 : (!(decide ((l.length : Int) = 0))) = true := by rw [dF (by omega)]; rfl
    have z : Int.tmod 0 (l.length : Int) = 0 := Int.zero_tmod _
    have z2 : Int.tdiv 0 (l.length : Int) = 0 := Int.zero_tdiv _
    have m := md (x := 1) (p := (l.length : Int)) (by omega) (by decide)
    have w1 : Go.IntKind.wrap .i64 (0 + 1) = 1 := by decide
    have e4 : decide ((0 : Int) < (l.length : Int)) = true := dT (by omega)
    have e5 : decide ((0 : Int) ≤ 0) = true := rfl
    have e6 : decide (0 ≤ Int.tmod 1 (l.length : Int)) = true := dT m.1
    have e7 : decide (Int.tmod 1 (l.length : Int) < (l.length : Int)) = true := dT m.2
    obtain ⟨o1, o2⟩ := oct_at (i := (0 : Int).toNat) ho (by show 0 < _; omega)
    obtain ⟨o3, o4⟩ := oct_at (i := (Int.tmod 1 (l.length : Int)).toNat) ho (by omega)
    refine ⟨_, by simp only [F26.F, e0, e2, e3, e1, cF, cT, z, w1, e4, e5, e6, e7, Bool.and_self]; rfl, ?_⟩
    rw [z2, w64 (x := l.getD (0 : Int).toNat 0) (by omega) (by omega), w64 (x := l.getD (Int.tmod 1 (l.length : Int)).toNat 0) (by omega) (by omega), w64 (x := l.getD (0 : Int).toNat 0 * 31) (by omega) (by omega), w64 (x := 0) (by decide) (by decide), w64 (x := l.getD (0 : Int).toNat 0 * 31 + _) (by omega) (by omega), w64 (by omega) (by omega)]
    exact md (by decide) (by omega)

theorem F22.ok (p : List S56) (h : p.length ≤ 1048576) : F22.F (p, p) = some true := by
  have := lim_run (f := F22.l0.b) (fun i => ((i : Int), p, p)) p.length (y := .inr ()) (fun i hi => by
    have d1 : decide ((i : Int) < (p.length : Int)) = true := dT (by omega)
    have d2 : decide ((0 : Int) ≤ (i : Int)) = true := dT (by omega)
    have w : Go.IntKind.wrap .i64 ((i : Int) + 1) = ((i + 1 : Nat) : Int) := by rw [w64 (by omega) (by omega)]; rfl
    simp only [F22.l0.b, d1, d2, Bool.and_self, cT, beq_self_eq_true, Bool.not_true, cF, w])
    (by
      have d1 : decide ((p.length : Int) < (p.length : Int)) = false := dF (by omega)
      simp only [F22.l0.b, d1, cF])
  have e : F22.l0 (0, p, p) = some (.inr ()) := this
  simp only [F22.F, bne_self_eq_false, cF, e, bS]

section
variable {M S L : Int} {jobs : List S54}

theorem F5.l0_ok (h : jobs.length ≤ 5000) {e a b c : Int} {r : List Int} {P : List S56} {bu : List Int} : F5.l0 (0, 0, M, S, L, e, a, b, c, r, jobs, P, bu) = some (sumL jobs, M, S, L, e, a, b, c, r, jobs, P, bu) :=
  lim_fold (f := F5.l0.b) (fun i (q : Int) => (q, (i : Int), M, S, L, e, a, b, c, r, jobs, P, bu)) jobs z54 (fun a j => Go.IntKind.wrap .i64 (a + (j.f2.length : Int))) (fun _ => True) (z := fun q => (q, M, S, L, e, a, b, c, r, jobs, P, bu)) 0 trivial (fun _ _ _ _ => trivial) (fun i q hi _ => by
    have d1 : decide ((i : Int) < (jobs.length : Int)) = true := dT (by omega)
    have d2 : decide ((0 : Int) ≤ (i : Int)) = true := dT (by omega)
    have w : Go.IntKind.wrap .i64 ((i : Int) + 1) = ((i + 1 : Nat) : Int) := by rw [w64 (by omega) (by omega)]; rfl
    simp only [F5.l0.b, d1, d2, Bool.and_self, cT, Int.toNat_natCast, w])
    (fun q _ => by
      have d1 : decide ((jobs.length : Int) < (jobs.length : Int)) = false := dF (by omega)
      simp only [F5.l0.b, d1, cF])

theorem F5.l2_ok {P : List S56} (hP : P.length ≤ 5000) (hd : ∀ p ∈ P, 0 ≤ p.f0 ∧ p.f0 < jobs.length) {st e a b c : Int} {r bu : List Int} :
    F5.l2 (st, 0, 0, 0, 0, 0, M, S, L, e, a, b, c, r, jobs, P, List.replicate jobs.length 0, bu) = some (let q := P.foldl lawG (0, 0, 0, List.replicate jobs.length 0); (st, q.1, q.2.1, q.2.2.1, 0, M, S, L, e, a, b, c, r, jobs, P, q.2.2.2, bu)) :=
  lim_fold (f := F5.l2.b) (fun i (q : LawT) => (st, q.1, q.2.1, q.2.2.1, 0, (i : Int), M, S, L, e, a, b, c, r, jobs, P, q.2.2.2, bu)) P z56 lawG (fun q => q.2.2.2.length = jobs.length) (z := fun q => (st, q.1, q.2.1, q.2.2.1, 0, M, S, L, e, a, b, c, r, jobs, P, q.2.2.2, bu)) (0, 0, 0, List.replicate jobs.length 0) (by simp)
    (fun q i hi h => by unfold lawG; simpa using h) (fun i q hi h => by
      have hx := hd (P.getD i z56) (by rw [getD_lt hi]; exact List.getElem_mem hi)
      have d1 : decide ((i : Int) < (P.length : Int)) = true := dT (by omega)
      have d2 : decide ((0 : Int) ≤ (i : Int)) = true := dT (by omega)
      have d3 : decide (0 ≤ (P.getD i z56).f0) = true := dT hx.1
      have d4 : decide ((P.getD i z56).f0 < (q.2.2.2.length : Int)) = true := dT (by rw [h]; exact hx.2)
      have w : Go.IntKind.wrap .i64 ((i : Int) + 1) = ((i + 1 : Nat) : Int) := by rw [w64 (by omega) (by omega)]; rfl
      simp only [F5.l2.b, d1, d2, Bool.and_self, cT, Int.toNat_natCast, w, d3, d4, lawG]
      cases (P.getD i z56).f5 <;> rfl)
    (fun q _ => by
      have d1 : decide ((P.length : Int) < (P.length : Int)) = false := dF (by omega)
      simp only [F5.l2.b, d1, cF])

theorem F5.l4_ok {P : List S56} {en : List Int} (hn : jobs.length ≤ 20) (he : en.length = jobs.length) {st bz fr ed e a b c : Int} {r bu : List Int} :
    F5.l4 (st, bz, fr, ed, 0, 0, M, S, L, e, a, b, c, r, jobs, P, en, bu) = some (st, bz, fr, ed, lateR jobs en, M, S, L, e, a, b, c, r, jobs, P, bu) :=
  lim_fold (f := F5.l4.b) (fun i (q : Int) => (st, bz, fr, ed, q, (i : Int), M, S, L, e, a, b, c, r, jobs, P, en, bu)) (List.range jobs.length) 0 (lateG jobs en) (fun _ => True) (z := fun q => (st, bz, fr, ed, q, M, S, L, e, a, b, c, r, jobs, P, bu)) 0 trivial (fun _ _ _ _ => trivial) (fun i q hi _ => by
    rw [List.length_range] at hi
    rw [range_at hi]
    have d1 : decide ((i : Int) < (jobs.length : Int)) = true := dT (by omega)
    have d2 : decide ((0 : Int) ≤ (i : Int)) = true := dT (by omega)
    have d3 : decide ((i : Int) < (en.length : Int)) = true := dT (by omega)
    have w : Go.IntKind.wrap .i64 ((i : Int) + 1) = ((i + 1 : Nat) : Int) := by rw [w64 (by omega) (by omega)]; rfl
    have hm : ∀ x : Int, (if 0 > x then 0 else x) = (if x > 0 then x else 0) := fun x => by split <;> split <;> omega
    simp only [F5.l4.b, d1, d2, d3, Bool.and_self, cT, Int.toNat_natCast, w, hm, lateG])
    (fun q _ => by
      have d1 : decide (((List.range jobs.length).length : Int) < (jobs.length : Int)) = false := dF (by simp)
      simp only [F5.l4.b, d1, cF])

theorem sumI_fold : ∀ {l : List Int} {a c : Int}, (∀ x ∈ l, 0 ≤ x) → 0 ≤ a → a + sumI l ≤ 1000000000 → l.foldl (fun a n => Go.IntKind.wrap .i64 (a + n)) a = a + sumI l
  | [], a, c, _, _, _ => by simp [sumI]
  | x :: l, a, c, hl, h0, h1 => by
    have hx := hl x (by simp)
    have hs : 0 ≤ sumI l := by
      clear h1
      induction l with
      | nil => simp [sumI]
      | cons y l ih =>
        have := hl y (by simp)
        have := ih (fun z hz => hl z (by
          rcases List.mem_cons.1 hz with h | h
          · simp [h]
          · simp [h]))
        simp only [sumI]; omega
    simp only [sumI] at h1
    rw [List.foldl_cons, w64 (by omega) (by omega), sumI_fold (c := c) (fun y hy => hl y (by simp [hy])) (by omega) (by omega)]
    simp only [sumI]; omega

theorem F5.l6_ok {P : List S56} {bu : List Int} (hb : bu.length = M.toNat) (hM : 0 ≤ M) (hM2 : M ≤ 10) {st bz fr ed lt e a b c : Int} {r : List Int} :
    F5.l6 (st, bz, fr, ed, lt, 0, 0, M, S, L, e, a, b, c, r, jobs, P, bu) = some (st, bz, fr, ed, lt, bu.foldl (fun a n => Go.IntKind.wrap .i64 (a + n)) 0, M, S, L, e, a, b, c, r, jobs, P, bu) :=
  lim_fold (f := F5.l6.b) (fun i (q : Int) => (st, bz, fr, ed, lt, q, (i : Int), M, S, L, e, a, b, c, r, jobs, P, bu)) bu 0 (fun a n => Go.IntKind.wrap .i64 (a + n)) (fun _ => True) (z := fun q => (st, bz, fr, ed, lt, q, M, S, L, e, a, b, c, r, jobs, P, bu)) 0 trivial (fun _ _ _ _ => trivial) (fun i q hi _ => by
    have d1 : decide ((i : Int) < M) = true := dT (by omega)
    have d2 : decide ((0 : Int) ≤ (i : Int)) = true := dT (by omega)
    have d3 : decide ((i : Int) < (bu.length : Int)) = true := dT (by omega)
    have w : Go.IntKind.wrap .i64 ((i : Int) + 1) = ((i + 1 : Nat) : Int) := by rw [w64 (by omega) (by omega)]; rfl
    simp only [F5.l6.b, d1, d2, d3, Bool.and_self, cT, Int.toNat_natCast, w])
    (fun q _ => by
      have d1 : decide ((bu.length : Int) < M) = false := dF (by omega)
      simp only [F5.l6.b, d1, cF])

theorem F5.l8_ok {P : List S56} (hP : P.length ≤ 5000) {d : Int} (hd : 0 ≤ d ∧ d ≤ 1000) (hb : ∀ p ∈ P, 0 ≤ p.f3 ∧ p.f3 ≤ p.f4 ∧ p.f4 ≤ 400000) {e a b c : Int} {bu : List Int} :
    F5.l8 (d, 0, M, S, L, e, a, b, c, jobs, P, [], bu) = some (d, M, S, L, e, a, b, c, jobs, P.map (shP d), bu) := by
  have := lim_run (f := F5.l8.b) (fun i => (d, (i : Int), M, S, L, e, a, b, c, jobs, P, (P.take i).map (shP d), bu)) P.length (y := (d, M, S, L, e, a, b, c, jobs, P.map (shP d), bu)) (fun i hi => by
    have hx := hb (P.getD i z56) (by rw [getD_lt hi]; exact List.getElem_mem hi)
    have d1 : decide ((i : Int) < (P.length : Int)) = true := dT (by omega)
    have d2 : decide ((0 : Int) ≤ (i : Int)) = true := dT (by omega)
    have d3 : ∀ y : S56, decide (((P.take i).map (shP d)).length + (y :: []).length ≤ 274877906944) = true := fun y => len1 (by simp; omega)
    have w : Go.IntKind.wrap .i64 ((i : Int) + 1) = ((i + 1 : Nat) : Int) := by rw [w64 (by omega) (by omega)]; rfl
    have w1 : Go.IntKind.wrap .i64 ((P.getD i z56).f3 + d) = (P.getD i z56).f3 + d := w64 (by omega) (by omega)
    have w2 : Go.IntKind.wrap .i64 ((P.getD i z56).f4 + d) = (P.getD i z56).f4 + d := w64 (by omega) (by omega)
    simp only [F5.l8.b, d1, d2, Bool.and_self, cT, Int.toNat_natCast, w, w1, w2, d3]
    have e1 : P.take (i + 1) = P.take i ++ [P.getD i z56] := by
      rw [List.take_add_one, List.getElem?_eq_getElem hi, getD_lt hi]; rfl
    rw [e1, List.map_append]; rfl)
    (by
      have d1 : decide ((P.length : Int) < (P.length : Int)) = false := dF (by omega)
      simp only [F5.l8.b, d1, cF, List.take_length])
  exact this

theorem F5.law_of (hr : shopR M S L jobs = true) {p0 p1 : List Int} (h0 : p0.length ≤ 1048576) (h1 : p1.length ≤ 1048576) (ho : Oct p1) (h21 : F21.F p0 = some ((M, S, L), jobs)) : F5.F (p0, p1) = some true := by
  have hok := shop_ok hr
  have hm1 := hok.m1
  have hm2 := hok.m2
  have hn := hok.n
  obtain ⟨ms, nx, en, E, T, bu, R, hf⟩ := planR_run (S := S) (L := L) 161 _ _ _ _ _ _ _ (Run.start hok) (by rw [sumI_zero]; rfl)
  have hA : planA M S L jobs = (planR jobs S L 161 (List.replicate M.toNat m0) (List.replicate jobs.length 0) (List.replicate jobs.length 0) [], 0) := by
    unfold planA
    rw [if_neg (by omega), hr, if_neg (by decide)]
  generalize hPe : planR jobs S L 161 (List.replicate M.toNat m0) (List.replicate jobs.length 0) (List.replicate jobs.length 0) [] = P at R hA
  have hsm := Run.small R.inv
  have hlen := R.len
  have e17 := (F16.ok M S L jobs).2
  have e16 := (F16.ok M S L jobs).1
  rw [hA] at e16 e17
  have e22 := F22.ok P (by omega)
  obtain ⟨c1, c2⟩ := R.planC hr hf
  have e13 := (F9.ok M S L jobs P).2
  rw [c1] at e13
  have e23 := (F27.ok M S L jobs P).2
  rw [R.ledR hr hf] at e23
  obtain ⟨e24, e25⟩ := bound_ok hr
  have hbd := R.bound hf
  have dd : ((decide ((p0.length : Int) > 1048576)) || (decide ((p1.length : Int) > 1048576))) = false := by rw [dF (by omega), dF (by omega)]; rfl
  have k1 : ((0 : Int) != 0) = false := rfl
  have k2 : (bndR M S jobs != bndR M S jobs) = false := nF rfl
  have k3 : decide (E < bndR M S jobs) = false := dF (by omega)
  have hlb := R.lb
  have k4 : ((bu.length : Int) != M) = false := nF (by omega)
  have d5 : ((decide (0 ≤ (jobs.length : Int)) && decide ((jobs.length : Int) ≤ (jobs.length : Int))) && decide ((jobs.length : Int) ≤ 274877906944)) = true := by simp; omega
  have hle := R.inv.le
  have e2 := F5.l2_ok (M := M) (S := S) (L := L) (P := P) (jobs := jobs) (by omega) (fun p hp => ⟨(R.don p hp).1, (R.don p hp).2.1⟩) (st := sumL jobs) (e := E) (a := lateR jobs en) (b := T * S) (c := T) (r := p1) (bu := bu)
  rw [R.law] at e2
  dsimp only at e2
  have ht := R.total hf
  rw [ht] at e2
  have hbs := R.bs
  have e6 : bu.foldl (fun a n => Go.IntKind.wrap .i64 (a + n)) 0 = sumI bu := by
    rw [sumI_fold (c := 0) (fun x hx => by
      obtain ⟨i, hi, rfl⟩ := List.getElem_of_mem hx
      have := (R.bb i hi).1
      rwa [getD_lt hi] at this) (by decide) (by omega)]
    omega
  have hT := R.tt
  have hS1 := hok.s1
  have hS2 := hok.s2
  have hmTS : 0 ≤ T * S ∧ T * S ≤ 160 * 1000 := ⟨Int.mul_nonneg hT.1 hS1, Int.mul_le_mul (by omega) hS2 hS1 (by decide)⟩
  have wTS : Go.IntKind.wrap .i64 (T * S) = T * S := w64 (by omega) (by omega)
  have n1 : ((P.length : Int) != (P.length : Int)) = false := nF rfl
  have n2 : (sumI bu != sumI bu) = false := nF rfl
  have n3 : (T != T) = false := nF rfl
  have n4 : (T * S != T * S) = false := nF rfl
  have n5 : (E != E) = false := nF rfl
  have n6 : (lateR jobs en != lateR jobs en) = false := nF rfl
  have base : F5.F (p0, p1) = cond ((P.length : Int) == 0) (some true) (
      cond (((decide (0 ≤ 0)) && (decide (0 ≤ Go.IntKind.wrap .i64 ((P.length : Int) - 1)))) && (decide (Go.IntKind.wrap .i64 ((P.length : Int) - 1) ≤ (P.length : Int)))) (
        (F13.F ((M, S, L), jobs, List.take (Go.IntKind.wrap .i64 ((P.length : Int) - 1) - 0).toNat (List.drop (Int.toNat 0) P))).bind fun y13x2 =>
        cond ((y13x2.1 != 18) || (y13x2.2 != Go.IntKind.wrap .i64 ((P.length : Int) - 1))) (some false) (
         (F26.F (p1, 0, 50)).bind fun y26 =>
         (F5.l8 (y26, 0, M, S, L, E, lateR jobs en, T * S, T, jobs, P, [], bu)).bind fun yl8 =>
         (F23.F ((yl8.2.1, yl8.2.2.1, yl8.2.2.2.1), yl8.2.2.2.2.2.2.2.2.1, yl8.2.2.2.2.2.2.2.2.2.1)).bind fun y23x2 =>
         some (((y23x2.2 == 0) && (y23x2.1.1 == Go.IntKind.wrap .i64 (yl8.2.2.2.2.1 + yl8.1))) && (y23x2.1.2.2.2.1 == yl8.2.2.2.2.2.2.2.1)))) none) := by
    simp only [F5.F, dd, cF, h21, bS, e17, e16, k1, Bool.not_false, cT, e22, Bool.not_true, Bool.or_self, e13, e23, e24, e25, k2, k3, k4, F5.l0_ok (show jobs.length ≤ 5000 by omega), d5, Int.toNat_natCast, e2, F5.l4_ok hn hle, F5.l6_ok hlb (show 0 ≤ M by omega) (show M ≤ 10 by omega), ht, e6, wTS, n1, n2, n3, n4, n5, n6]
  rw [base]
  by_cases hne : P = []
  · have z : ((P.length : Int) == 0) = true := by rw [hne]; rfl
    rw [z, cT]
  · have hpos : 0 < P.length := List.length_pos_iff.2 hne
    have z : ((P.length : Int) == 0) = false := by rw [beq_eq_false_iff_ne]; omega
    have w0 : Go.IntKind.wrap .i64 ((P.length : Int) - 1) = (P.length : Int) - 1 := w64 (by omega) (by omega)
    have d7 : (((decide (0 ≤ 0)) && (decide (0 ≤ (P.length : Int) - 1))) && (decide ((P.length : Int) - 1 ≤ (P.length : Int)))) = true := by simp; omega
    have hdl : List.take ((P.length : Int) - 1 - 0).toNat (List.drop (Int.toNat 0) P) = P.dropLast := by
      rw [List.dropLast_eq_take]
      show List.take _ (List.drop 0 P) = _
      rw [List.drop_zero]; congr 1; omega
    have e13b := (F9.ok M S L jobs P.dropLast).2
    rw [c2 hne] at e13b
    obtain ⟨d, e26, hd0, hd1⟩ := F26.ok h1 ho
    have hl8 := F5.l8_ok (M := M) (S := S) (L := L) (jobs := jobs) (P := P) (by omega) (d := d) (by omega) (fun p hp => by have := R.don p hp; omega) (e := E) (a := lateR jobs en) (b := T * S) (c := T) (bu := bu)
    obtain ⟨r1, r2, r3⟩ := R.later hr hf hne (d := d) (by omega)
    have e23b := (F27.ok M S L jobs (P.map (shP d))).2
    have heb := R.eb
    have wE : Go.IntKind.wrap .i64 (E + d) = E + d := w64 (by omega) (by omega)
    have m1 : ((18 : Int) != 18) = false := rfl
    have m2 : ((P.length : Int) - 1 != (P.length : Int) - 1) = false := nF rfl
    rw [z, cF, w0, d7, cT, hdl, e13b, bS]
    dsimp only
    rw [m1, m2, Bool.or_self, cF, e26, bS, hl8, bS]
    dsimp only
    rw [e23b, bS, r1, r2, r3, wE]
    simp

end
end Go.Proofs.YtchohkelpjfpcaaDoor.AX

/- The law of plans, plainly, of what is handed in. No conditions. -/
namespace Go.Proofs.YtchohkelpjfpcaaDoor.AX
open Go

theorem oct_of {l : List Int} (h : ∀ n, RowOk (U := uni) ky n 4 l) : Oct l := fun x hx => by
  have h1 : TsOf (U := uni) (fun k l => l.length ≤ maxLen ∧ ∀ x ∈ l, ElOk (U := uni) ky 0 k x) (ky 4) (uni.enc 4 x) := (h 1).2 x hx
  have h2 : (Lit.int .u8 x).wf = true := h1.1.2
  simp [Lit.wf, IntKind.min, IntKind.max, IntKind.signed, IntKind.bits] at h2
  omega

theorem F5.law (p0 p1 : List Int) (h0 : ∀ n, RowOk (U := uni) ky n 4 p0) (h1 : ∀ n, RowOk (U := uni) ky n 4 p1) : F5.F (p0, p1) = some true := by
  by_cases c : (p0.length : Int) > 1048576 ∨ (p1.length : Int) > 1048576
  · have d : ((decide ((p0.length : Int) > 1048576)) || (decide ((p1.length : Int) > 1048576))) = true := by
      rcases c with c | c
      · rw [dT c]; rfl
      · rw [dT c, Bool.or_true]
    simp only [F5.F, d, cT]
  · obtain ⟨⟨⟨M, S, L⟩, jobs⟩, e, hr⟩ := F21.df (l := p0) (by omega) (oct_of h0)
    exact F5.law_of hr (by omega) (by omega) (oct_of h1) e

end Go.Proofs.YtchohkelpjfpcaaDoor.AX

/- The law FnPlan answers true at every input. No conditions. -/
namespace Go.Proofs.YtchohkelpjfpcaaDoor.fnPlan
open Go.ChangeShapes Go.WideShapes Go.ChangeAt Go.RowKit Go.Proofs.YtchohkelpjfpcaaDoor.AX
open Go.ChangeMaps (open_string shut_string)
set_option maxRecDepth 100000
theorem first_eq : Rows.laid_unicode_utf8_first = Lib.firstData := by kernel_rfl
theorem accept_eq : Rows.laid_unicode_utf8_acceptRanges (H := Unit) = Lib.acceptData := by kernel_rfl
theorem own : ownKnob Tryd.prog.godebug = none := by kernel_rfl
theorem laidOut : laidOutB Tryd.prog = true := by kernel_rfl
set_option maxRecDepth 100000 in
theorem lifted (os : Os) (started : os.Started) (H : Type) (enc : TypeId × Value → H) :
    ReturnsInHanded {} Tryd.checked os 5 .any (fun w args => (Rows.fnPlanSpec.pre enc Tryd.prog Tryd.f5 [] false w args ∧ laidMetH Tryd.prog Rows.fnPlanRow.laid w) ∧ sizedMet enc Tryd.prog Tryd.f5 (OpenSpec.ofChange Rows.fnPlanSpec) false w args)
      (Rows.fnPlanSpec.post enc Tryd.prog Tryd.f5 false true false false) := by
  refine returnsInHanded_of_change_and (C := Tryd.checked) (X := fun w _ => laidMetH Tryd.prog Rows.fnPlanRow.laid w) (fun _ _ _ hh h => h.of_heap hh) own started (by kernel_rfl) Tryd.func5
    (ChangeSpec.witness_shaped (enc := enc) (C := Tryd.checked) (os := os) (X := fun w _ => laidMetH Tryd.prog Rows.fnPlanRow.laid w) false (World.laidAll Tryd.prog os Rows.fnPlanRow.laid) #[.slice none 0 0, .slice none 0 0] 8 (World.laidAll_os _ _ _)
      (World.shaped_of_ZipB (by kernel_rfl) (by kernel_rfl)) (by kernel_rfl) (by kernel_rfl) (by kernel_rfl)
      (by rw [MakeChecks.laidMetH_plain _ _ _ (by kernel_rfl)]; exact laidMet_laidAll _ (by kernel_rfl) (by kernel_rfl))) ?_
  intro W base args ds gs before hval0 hW _ _ hL _
  rw [MakeChecks.laidMetH_plain _ _ _ (by kernel_rfl)] at hL
  have hT : Lib.Utf8Tabs 0 1 W := Go.Proofs.utf8Tabs_of_reads (ρ := Tryd.lays197_ren) { Tryd.lays197 with } ⟨by kernel_rfl, by kernel_rfl, by kernel_rfl, by kernel_rfl, by kernel_rfl, by kernel_rfl, by kernel_rfl⟩ (first_eq ▸ Lib.laidMet.reads hL (.tail _ (.head _))) (accept_eq ▸ Lib.laidMet.reads hL (.head _))
  have hval : ∀ (j : Nat) t v, Tryd.f5.params[j]? = some t → args[j]? = some v → Value.okWide Tryd.prog W .any base t v := hval0
  have hW' := hW
  obtain ⟨p, q, hA0, hV, rfl, hfz, hnd⟩ := hW
  have hA : DataW.TrodAll enc Tryd.prog W 0 (fun _ => true) true Tryd.f5.params.toList args.toList ds p := hA0
  rw [Tryd.params5] at hA hval
  obtain ⟨v0, vs0, d0, ds0, p0, q0, hargs, rfl, rfl, h0, r0⟩ := trodAll_cons hA
  obtain ⟨v1, vs1, d1, ds1, p1, q1, rfl, rfl, rfl, h1, r1⟩ := trodAll_cons r0
  obtain ⟨rfl, rfl, rfl⟩ := trodAll_nil r1
  obtain rfl : args = #[v0, v1] := by cases args; simp_all
  obtain ⟨rfl, rfl⟩ := trodVars_none hV
  have k0 := h0
  have lt0 : ∀ x ∈ p0, x.block < W.heap.size := by obtain ⟨m, hm⟩ := k0; exact DataW.trod_lt m _ _ _ hm
  obtain ⟨l0, F0, i0, o0⟩ := open_slice kindsOk (k := 4) Tryd.underlying44 (List.cons_ne_nil _ _) (hval 0 44 v0 rfl rfl) h0
  have k1 := h1
  have lt1 : ∀ x ∈ p1, x.block < W.heap.size := by obtain ⟨m, hm⟩ := k1; exact DataW.trod_lt m _ _ _ hm
  obtain ⟨l1, F1, i1, o1⟩ := open_slice kindsOk (k := 4) Tryd.underlying44 (List.cons_ne_nil _ _) (hval 1 44 v1 rfl rfl) h1
  clear hA0 hval0
  have hcon := F5.con (l0, l1) true (F5.law l0 l1 o0 o1) [v0, v1] W [] _ ⟨[], [], F0, _, i0, ⟨[], [], F1, _, i1, ⟨rfl, rfl⟩, rfl, rfl⟩, rfl, rfl⟩ (by simp) (by simp) (DoorOk.none hT)
  refine hcon.mono fun e W' ⟨rs, vs, G, E', hr, hR, he, hO, hfr, _, _⟩ => ?_
  obtain rfl : rs = [.val (.bool true)] := by injection hr with hr; exact hr.symm
  obtain rfl : vs = [.bool true] := by
    match vs, hR with
    | [v], ⟨_, _, ⟨h, _⟩, _, _⟩ => rw [h]
  subst he
  have bel := below_of hfr
  exact ⟨_, rfl, _, _, _, [], _, [], hW', trodAll_mk1 (shut_bool Tryd.underlying4 _), (trodAll_cons_mk (Below.trod laidOut (by kernel_rfl) (of_decide_eq_true (by kernel_rfl)) k0 bel lt0) (trodAll_cons_mk (Below.trod laidOut (by kernel_rfl) (of_decide_eq_true (by kernel_rfl)) k1 bel lt1) trodAll_mk0)), rfl, bel.frame _, fun h => by cases h⟩
theorem over : Rows.fnPlanRow.holds Tryd.pinned (OpenSpec.ofChange Rows.fnPlanSpec) :=
  OpenClaim.holds_of_wide 5 Tryd.f5 rfl rfl rfl rfl rfl rfl rfl ⟨rfl, rfl, rfl, rfl, rfl⟩ rfl rfl rfl rfl rfl (by kernel_rfl) Tryd.func5 (by kernel_rfl)
    (of_decide_eq_true (by kernel_rfl)) (by unfold Func.isWrapper; first | (rw [if_pos (by decide +kernel)]; kernel_rfl) | (rw [if_neg (by decide +kernel)]; exact ⟨rfl, rfl⟩))
    (fun os started H enc _ => lifted os started H enc)
theorem proved : Rows.FnPlanCardSaid :=
  Claim7.holds_tied_plain_at .later [] [.data, .pinned] true (true, "3e69e200e7782e7ed9c644d5db90e73c70318a309b1acafbb83f1b71aec2840c") false over (fun _ h => by cases h) (by kernel_rfl) (fun _ h => by cases h) fnPlan_row_tie rfl ⟨rfl, rfl⟩ (by kernel_rfl) rfl
    (fun f fn hf hfn => by
      obtain rfl : f = 5 := Option.some.inj ((show Tryd.prog.funcNamed "loop.example/g00056/laws.FnPlan" = some 5 by kernel_rfl).symm.trans hf) |>.symm
      obtain rfl : fn = Tryd.f5 := (Option.some.inj (Tryd.func5.symm.trans hfn)).symm
      exact ⟨by kernel_rfl, fun j t ht => by
        rw [Tryd.params5] at ht
        have hm : t ∈ [44] := by simpa using Array.mem_of_getElem? ht
        have hall : ([44].all fun u => !Tryd.prog.wantsStandIn u) = true := by kernel_rfl
        exact (show Tryd.prog.wantsStandIn t = false by simpa using List.all_eq_true.1 hall t hm)⟩)
    (by kernel_rfl)
end Go.Proofs.YtchohkelpjfpcaaDoor.fnPlan
namespace Go.Proofs.YtchohkelpjfpcaaDoor
theorem fnPlan_holds : Rows.FnPlanCardSaid := fnPlan.proved
end Go.Proofs.YtchohkelpjfpcaaDoor

/- The function 41 of the program in the small machine. No conditions. -/
import Derived.KernelRfl
import Derived.Test.YtiogkndjoinpoaaDoorGCc
set_option linter.unusedVariables false
set_option linter.unusedSimpArgs false
set_option linter.unusedSectionVars false
namespace Go.Proofs.YtiogkndjoinpoaaDoor.AX.F41
open Go Go.Proofs.Tryd
noncomputable def code : Code := bodyOf f41
abbrev Y : Type := Bool
def cp : Cod uni (ByteArray × ByteArray × ByteArray × Int × Int × Int × Int × Int × Int × Int × Int × Int × Int × Int × Int) := (cod1 (iAgg (codC iStr (codC iStr (codC iStr (codC (iInt .i64) (codC (iInt .i64) (codC (iInt .i64) (codC (iInt .i64) (codC (iInt .i64) (codC (iInt .i64) (codC (iInt .i64) (codC (iInt .i64) (codC (iInt .i64) (codC (iInt .i64) (codC (iInt .i64) (cod1 (iInt .i64))))))))))))))))))
def cr : Coz uni Bool := (cozR (cod1 iBool) (codD cod0))
noncomputable def es : List (Ent prog uni) := [F48.ent, F49.ent]
theorem get : prog.funcs[41]? = some f41 := by kernel_rfl

def l1.A : Ann := ⟨[(1, .box 5000064 0), (3, .box 5000192 0), (51, .slc 5003264 []), (52, .sc), (53, .sc)], [(5000064, 54, [.sc, .sc, .sc, .sc, .sc, .sc, .sc, .sc, .sc, .sc, .sc, .sc, .sc, .sc, .sc]), (5000192, 52, [.sc, .sc, .sc, .sc, .sc, .sc])], [(5003264, true, 5)], []⟩
def l1.c : Cod uni (Int × Int × ByteArray × ByteArray × ByteArray × Int × Int × Int × Int × Int × Int × Int × Int × Int × Int × Int × Int × Int × Int × Int × Int × Int × Int × (List Int)) := (codC (iInt .i64) (codC (iInt .i64) (codC iStr (codC iStr (codC iStr (codC (iInt .i64) (codC (iInt .i64) (codC (iInt .i64) (codC (iInt .i64) (codC (iInt .i64) (codC (iInt .i64) (codC (iInt .i64) (codC (iInt .i64) (codC (iInt .i64) (codC (iInt .i64) (codC (iInt .i64) (codC (iInt .i64) (codC (iInt .i64) (codC (iInt .i64) (codC (iInt .i64) (codC (iInt .i64) (codC (iInt .i64) (codC (iInt .i64) (cod1 (iRow 5)))))))))))))))))))))))))
def l1.xs : List (AExit × Ann) := [(.ret, ⟨[(2, .sc)], [], [], []⟩), ((.exit 1), ⟨[(1, .box 5000064 0), (3, .box 5000192 0)], [(5000064, 54, [.sc, .sc, .sc, .sc, .sc, .sc, .sc, .sc, .sc, .sc, .sc, .sc, .sc, .sc, .sc]), (5000192, 52, [.sc, .sc, .sc, .sc, .sc, .sc])], [], []⟩)]
def l1.y : Coy uni (Bool ⊕ (ByteArray × ByteArray × ByteArray × Int × Int × Int × Int × Int × Int × Int × Int × Int × Int × Int × Int × Int × Int × Int × Int × Int × Int)) := (coyS (cod1 iBool) (coy1 (codC iStr (codC iStr (codC iStr (codC (iInt .i64) (codC (iInt .i64) (codC (iInt .i64) (codC (iInt .i64) (codC (iInt .i64) (codC (iInt .i64) (codC (iInt .i64) (codC (iInt .i64) (codC (iInt .i64) (codC (iInt .i64) (codC (iInt .i64) (codC (iInt .i64) (codC (iInt .i64) (codC (iInt .i64) (codC (iInt .i64) (codC (iInt .i64) (codC (iInt .i64) (cod1 (iInt .i64))))))))))))))))))))))))
noncomputable def l1.b : Int × Int × ByteArray × ByteArray × ByteArray × Int × Int × Int × Int × Int × Int × Int × Int × Int × Int × Int × Int × Int × Int × Int × Int × Int × Int × (List Int) → Option ((Int × Int × ByteArray × ByteArray × ByteArray × Int × Int × Int × Int × Int × Int × Int × Int × Int × Int × Int × Int × Int × Int × Int × Int × Int × Int × (List Int)) ⊕ (Bool ⊕ (ByteArray × ByteArray × ByteArray × Int × Int × Int × Int × Int × Int × Int × Int × Int × Int × Int × Int × Int × Int × Int × Int × Int × Int)))
  | (v52, v53, b64_0, b64_1, b64_2, b64_3, b64_4, b64_5, b64_6, b64_7, b64_8, b64_9, b64_10, b64_11, b64_12, b64_13, b64_14, b192_0, b192_1, b192_2, b192_3, b192_4, b192_5, r3264) =>
  cond (decide (v53 < v52)) (
   cond ((decide (0 ≤ v53)) && (decide (v53 < ((List.length r3264) : Int)))) (
    (F49.F (List.getD r3264 (Int.toNat v53) 0)).bind fun y49 =>
    cond (!y49) (
     some (.inr (.inl false))) (
     some (.inl (v52, (Go.IntKind.wrap (Go.IntKind.i64 ) (v53 + 1)), b64_0, b64_1, b64_2, b64_3, b64_4, b64_5, b64_6, b64_7, b64_8, b64_9, b64_10, b64_11, b64_12, b64_13, b64_14, b192_0, b192_1, b192_2, b192_3, b192_4, b192_5, r3264)))) none) (
   some (.inr (.inr (b64_0, b64_1, b64_2, b64_3, b64_4, b64_5, b64_6, b64_7, b64_8, b64_9, b64_10, b64_11, b64_12, b64_13, b64_14, b192_0, b192_1, b192_2, b192_3, b192_4, b192_5))))
noncomputable def l1 (x : Int × Int × ByteArray × ByteArray × ByteArray × Int × Int × Int × Int × Int × Int × Int × Int × Int × Int × Int × Int × Int × Int × Int × Int × Int × Int × (List Int)) : Option (Bool ⊕ (ByteArray × ByteArray × ByteArray × Int × Int × Int × Int × Int × Int × Int × Int × Int × Int × Int × Int × Int × Int × Int × Int × Int × Int)) := lim l1.b x
theorem l1.eq : ∀ x, l1.b x = roundX (mkE tab es 184 [] []) (loopAt 1 code) (cutOf l1.A l1.c) (cutsOf l1.xs l1.y) x := fun x => by kernel_rfl
theorem l1.owed {R : Type} : owed (mkE (R := R) tab es 184 [] []) (loopAt 1 code) = [] := by kernel_rfl
theorem l1.ok (w0 : World) (M : Own) (h : Pinned M []) {R : Type} : SoundO prog w0 M 184 (.block 1 (.loop (loopAt 1 code))) (loopO (R := R) 1 (cutOf l1.A l1.c) (cutsOf l1.xs l1.y) l1) :=
  loop_ok tabOk uniOk mixed l1.eq (h.sub rfl) (h.sub rfl) fun x hx => by rw [l1.owed] at hx; exact absurd hx List.not_mem_nil

noncomputable def F : (ByteArray × ByteArray × ByteArray × Int × Int × Int × Int × Int × Int × Int × Int × Int × Int × Int × Int) → Option (Bool)
  | (p0_0, p0_1, p0_2, p0_3, p0_4, p0_5, p0_6, p0_7, p0_8, p0_9, p0_10, p0_11, p0_12, p0_13, p0_14) =>
  (F48.F p0_0).bind fun y48 =>
  let x15 := (p0_5 :: (p0_6 :: (p0_7 :: (p0_8 :: (p0_9 :: (p0_10 :: []))))))
  let x0 := (l1 (((List.length x15) : Int), 0, p0_0, p0_1, p0_2, p0_3, p0_4, p0_5, p0_6, p0_7, p0_8, p0_9, p0_10, p0_11, p0_12, p0_13, p0_14, p0_5, p0_6, p0_7, p0_8, p0_9, p0_10, x15))
  let x12 := (!((ByteArray.toList p0_1) == (ByteArray.toList (ByteArray.mk (Array.mk ([] : List UInt8))))))
  let x1 := ((((x12 || (p0_4 != 0)) || (!((p0_5 == 0) && ((p0_6 == 0) && ((p0_7 == 0) && ((p0_8 == 0) && ((p0_9 == 0) && (p0_10 == 0)))))))) || (decide (p0_11 < 1))) || (decide (p0_11 > 8)))
  let x13 := (!((ByteArray.toList p0_2) == (ByteArray.toList (ByteArray.mk (Array.mk ([] : List UInt8))))))
  let x9 := (x13 && false)
  let x4 := (x9 && false)
  let x16 := (((p0_12 != 0) || (p0_13 != 0)) || (p0_14 != 0))
  let x2 := ((x4 && false) && x16)
  let x10 := (x13 && true)
  cond ((!(!y48)) && x12) (
   (F48.F p0_1).bind fun y48x2 =>
   let x3 := ((!y48) || (x12 && (!y48x2)))
   cond ((!x3) && x13) (
    (F48.F p0_2).bind fun y48x3 =>
    cond (x3 || (x13 && (!y48x3))) (
     some false) (
     cond (p0_3 == 1) (
      cond (p0_3 == 1) (
       x0.bind fun q => match q with
       | (.inl yl1) =>
        some yl1
       | (.inr yl1) =>
        cond (((decide (yl1.2.2.2.2.2.2.2.2.2.2.2.2.2.2.2.1 ≥ yl1.2.2.2.2.2.2.2.2.2.2.2.2.2.2.2.2.2.2.1)) || (decide (yl1.2.2.2.2.2.2.2.2.2.2.2.2.2.2.2.2.1 ≥ yl1.2.2.2.2.2.2.2.2.2.2.2.2.2.2.2.2.2.2.2.1))) || (decide (yl1.2.2.2.2.2.2.2.2.2.2.2.2.2.2.2.2.2.1 ≥ yl1.2.2.2.2.2.2.2.2.2.2.2.2.2.2.2.2.2.2.2.2))) (
         some false) (
         let x14 := ((ByteArray.toList yl1.2.1) == (ByteArray.toList (ByteArray.mk (Array.mk ([] : List UInt8)))))
         cond ((x14 && (yl1.2.2.2.2.1 != 0)) || ((!x14) && ((decide (yl1.2.2.2.2.1 < 1)) || (decide (yl1.2.2.2.2.1 > 6))))) (
          some false) (
          some ((((((ByteArray.toList yl1.2.2.1) == (ByteArray.toList (ByteArray.mk (Array.mk ([] : List UInt8))))) && (yl1.2.2.2.2.2.2.2.2.2.2.2.1 == 0)) && (yl1.2.2.2.2.2.2.2.2.2.2.2.2.1 == 0)) && (yl1.2.2.2.2.2.2.2.2.2.2.2.2.2.1 == 0)) && (yl1.2.2.2.2.2.2.2.2.2.2.2.2.2.2.1 == 0))))) (
       cond (p0_3 == 3) (
        cond x1 (
         some false) (
         cond x13 (
          (F49.F p0_12).bind fun y49 =>
          let x11 := (x13 && y49)
          cond x11 (
           (F49.F p0_13).bind fun y49x2 =>
           let x6 := (x11 && y49x2)
           cond x6 (
            (F49.F p0_14).bind fun y49x3 =>
            some ((x6 && y49x3) && x16)) (
            some ((x6 && false) && x16))) (
           let x7 := (x11 && false)
           cond x7 (
            (F49.F p0_14).bind fun y49x2 =>
            some ((x7 && y49x2) && x16)) (
            some ((x7 && false) && x16)))) (
          cond x9 (
           (F49.F p0_13).bind fun y49 =>
           let x8 := (x9 && y49)
           cond x8 (
            (F49.F p0_14).bind fun y49x2 =>
            some ((x8 && y49x2) && x16)) (
            some ((x8 && false) && x16))) (
           cond x4 (
            (F49.F p0_14).bind fun y49 =>
            some ((x4 && y49) && x16)) (
            some x2))))) (
        some false))) (
      cond (p0_3 == 2) (
       x0.bind fun q => match q with
       | (.inl yl1) =>
        some yl1
       | (.inr yl1) =>
        cond (((decide (yl1.2.2.2.2.2.2.2.2.2.2.2.2.2.2.2.1 ≥ yl1.2.2.2.2.2.2.2.2.2.2.2.2.2.2.2.2.2.2.1)) || (decide (yl1.2.2.2.2.2.2.2.2.2.2.2.2.2.2.2.2.1 ≥ yl1.2.2.2.2.2.2.2.2.2.2.2.2.2.2.2.2.2.2.2.1))) || (decide (yl1.2.2.2.2.2.2.2.2.2.2.2.2.2.2.2.2.2.1 ≥ yl1.2.2.2.2.2.2.2.2.2.2.2.2.2.2.2.2.2.2.2.2))) (
         some false) (
         let x14 := ((ByteArray.toList yl1.2.1) == (ByteArray.toList (ByteArray.mk (Array.mk ([] : List UInt8)))))
         cond ((x14 && (yl1.2.2.2.2.1 != 0)) || ((!x14) && ((decide (yl1.2.2.2.2.1 < 1)) || (decide (yl1.2.2.2.2.1 > 6))))) (
          some false) (
          some ((((((ByteArray.toList yl1.2.2.1) == (ByteArray.toList (ByteArray.mk (Array.mk ([] : List UInt8))))) && (yl1.2.2.2.2.2.2.2.2.2.2.2.1 == 0)) && (yl1.2.2.2.2.2.2.2.2.2.2.2.2.1 == 0)) && (yl1.2.2.2.2.2.2.2.2.2.2.2.2.2.1 == 0)) && (yl1.2.2.2.2.2.2.2.2.2.2.2.2.2.2.1 == 0))))) (
       cond (p0_3 == 3) (
        cond x1 (
         some false) (
         cond x13 (
          (F49.F p0_12).bind fun y49 =>
          let x11 := (x13 && y49)
          cond x11 (
           (F49.F p0_13).bind fun y49x2 =>
           let x6 := (x11 && y49x2)
           cond x6 (
            (F49.F p0_14).bind fun y49x3 =>
            some ((x6 && y49x3) && x16)) (
            some ((x6 && false) && x16))) (
           let x7 := (x11 && false)
           cond x7 (
            (F49.F p0_14).bind fun y49x2 =>
            some ((x7 && y49x2) && x16)) (
            some ((x7 && false) && x16)))) (
          cond x9 (
           (F49.F p0_13).bind fun y49 =>
           let x8 := (x9 && y49)
           cond x8 (
            (F49.F p0_14).bind fun y49x2 =>
            some ((x8 && y49x2) && x16)) (
            some ((x8 && false) && x16))) (
           cond x4 (
            (F49.F p0_14).bind fun y49 =>
            some ((x4 && y49) && x16)) (
            some x2))))) (
        some false))))) (
    cond (x3 || x10) (
     some false) (
     cond (p0_3 == 1) (
      cond (p0_3 == 1) (
       x0.bind fun q => match q with
       | (.inl yl1) =>
        some yl1
       | (.inr yl1) =>
        cond (((decide (yl1.2.2.2.2.2.2.2.2.2.2.2.2.2.2.2.1 ≥ yl1.2.2.2.2.2.2.2.2.2.2.2.2.2.2.2.2.2.2.1)) || (decide (yl1.2.2.2.2.2.2.2.2.2.2.2.2.2.2.2.2.1 ≥ yl1.2.2.2.2.2.2.2.2.2.2.2.2.2.2.2.2.2.2.2.1))) || (decide (yl1.2.2.2.2.2.2.2.2.2.2.2.2.2.2.2.2.2.1 ≥ yl1.2.2.2.2.2.2.2.2.2.2.2.2.2.2.2.2.2.2.2.2))) (
         some false) (
         let x14 := ((ByteArray.toList yl1.2.1) == (ByteArray.toList (ByteArray.mk (Array.mk ([] : List UInt8)))))
         cond ((x14 && (yl1.2.2.2.2.1 != 0)) || ((!x14) && ((decide (yl1.2.2.2.2.1 < 1)) || (decide (yl1.2.2.2.2.1 > 6))))) (
          some false) (
          some ((((((ByteArray.toList yl1.2.2.1) == (ByteArray.toList (ByteArray.mk (Array.mk ([] : List UInt8))))) && (yl1.2.2.2.2.2.2.2.2.2.2.2.1 == 0)) && (yl1.2.2.2.2.2.2.2.2.2.2.2.2.1 == 0)) && (yl1.2.2.2.2.2.2.2.2.2.2.2.2.2.1 == 0)) && (yl1.2.2.2.2.2.2.2.2.2.2.2.2.2.2.1 == 0))))) (
       cond (p0_3 == 3) (
        cond x1 (
         some false) (
         cond x13 (
          (F49.F p0_12).bind fun y49 =>
          let x11 := (x13 && y49)
          cond x11 (
           (F49.F p0_13).bind fun y49x2 =>
           let x6 := (x11 && y49x2)
           cond x6 (
            (F49.F p0_14).bind fun y49x3 =>
            some ((x6 && y49x3) && x16)) (
            some ((x6 && false) && x16))) (
           let x7 := (x11 && false)
           cond x7 (
            (F49.F p0_14).bind fun y49x2 =>
            some ((x7 && y49x2) && x16)) (
            some ((x7 && false) && x16)))) (
          cond x9 (
           (F49.F p0_13).bind fun y49 =>
           let x8 := (x9 && y49)
           cond x8 (
            (F49.F p0_14).bind fun y49x2 =>
            some ((x8 && y49x2) && x16)) (
            some ((x8 && false) && x16))) (
           cond x4 (
            (F49.F p0_14).bind fun y49 =>
            some ((x4 && y49) && x16)) (
            some x2))))) (
        some false))) (
      cond (p0_3 == 2) (
       x0.bind fun q => match q with
       | (.inl yl1) =>
        some yl1
       | (.inr yl1) =>
        cond (((decide (yl1.2.2.2.2.2.2.2.2.2.2.2.2.2.2.2.1 ≥ yl1.2.2.2.2.2.2.2.2.2.2.2.2.2.2.2.2.2.2.1)) || (decide (yl1.2.2.2.2.2.2.2.2.2.2.2.2.2.2.2.2.1 ≥ yl1.2.2.2.2.2.2.2.2.2.2.2.2.2.2.2.2.2.2.2.1))) || (decide (yl1.2.2.2.2.2.2.2.2.2.2.2.2.2.2.2.2.2.1 ≥ yl1.2.2.2.2.2.2.2.2.2.2.2.2.2.2.2.2.2.2.2.2))) (
         some false) (
         let x14 := ((ByteArray.toList yl1.2.1) == (ByteArray.toList (ByteArray.mk (Array.mk ([] : List UInt8)))))
         cond ((x14 && (yl1.2.2.2.2.1 != 0)) || ((!x14) && ((decide (yl1.2.2.2.2.1 < 1)) || (decide (yl1.2.2.2.2.1 > 6))))) (
          some false) (
          some ((((((ByteArray.toList yl1.2.2.1) == (ByteArray.toList (ByteArray.mk (Array.mk ([] : List UInt8))))) && (yl1.2.2.2.2.2.2.2.2.2.2.2.1 == 0)) && (yl1.2.2.2.2.2.2.2.2.2.2.2.2.1 == 0)) && (yl1.2.2.2.2.2.2.2.2.2.2.2.2.2.1 == 0)) && (yl1.2.2.2.2.2.2.2.2.2.2.2.2.2.2.1 == 0))))) (
       cond (p0_3 == 3) (
        cond x1 (
         some false) (
         cond x13 (
          (F49.F p0_12).bind fun y49 =>
          let x11 := (x13 && y49)
          cond x11 (
           (F49.F p0_13).bind fun y49x2 =>
           let x6 := (x11 && y49x2)
           cond x6 (
            (F49.F p0_14).bind fun y49x3 =>
            some ((x6 && y49x3) && x16)) (
            some ((x6 && false) && x16))) (
           let x7 := (x11 && false)
           cond x7 (
            (F49.F p0_14).bind fun y49x2 =>
            some ((x7 && y49x2) && x16)) (
            some ((x7 && false) && x16)))) (
          cond x9 (
           (F49.F p0_13).bind fun y49 =>
           let x8 := (x9 && y49)
           cond x8 (
            (F49.F p0_14).bind fun y49x2 =>
            some ((x8 && y49x2) && x16)) (
            some ((x8 && false) && x16))) (
           cond x4 (
            (F49.F p0_14).bind fun y49 =>
            some ((x4 && y49) && x16)) (
            some x2))))) (
        some false)))))) (
   let x5 := ((!y48) || (x12 && true))
   cond ((!x5) && x13) (
    (F48.F p0_2).bind fun y48x2 =>
    cond (x5 || (x13 && (!y48x2))) (
     some false) (
     cond (p0_3 == 1) (
      cond (p0_3 == 1) (
       x0.bind fun q => match q with
       | (.inl yl1) =>
        some yl1
       | (.inr yl1) =>
        cond (((decide (yl1.2.2.2.2.2.2.2.2.2.2.2.2.2.2.2.1 ≥ yl1.2.2.2.2.2.2.2.2.2.2.2.2.2.2.2.2.2.2.1)) || (decide (yl1.2.2.2.2.2.2.2.2.2.2.2.2.2.2.2.2.1 ≥ yl1.2.2.2.2.2.2.2.2.2.2.2.2.2.2.2.2.2.2.2.1))) || (decide (yl1.2.2.2.2.2.2.2.2.2.2.2.2.2.2.2.2.2.1 ≥ yl1.2.2.2.2.2.2.2.2.2.2.2.2.2.2.2.2.2.2.2.2))) (
         some false) (
         let x14 := ((ByteArray.toList yl1.2.1) == (ByteArray.toList (ByteArray.mk (Array.mk ([] : List UInt8)))))
         cond ((x14 && (yl1.2.2.2.2.1 != 0)) || ((!x14) && ((decide (yl1.2.2.2.2.1 < 1)) || (decide (yl1.2.2.2.2.1 > 6))))) (
          some false) (
          some ((((((ByteArray.toList yl1.2.2.1) == (ByteArray.toList (ByteArray.mk (Array.mk ([] : List UInt8))))) && (yl1.2.2.2.2.2.2.2.2.2.2.2.1 == 0)) && (yl1.2.2.2.2.2.2.2.2.2.2.2.2.1 == 0)) && (yl1.2.2.2.2.2.2.2.2.2.2.2.2.2.1 == 0)) && (yl1.2.2.2.2.2.2.2.2.2.2.2.2.2.2.1 == 0))))) (
       cond (p0_3 == 3) (
        cond x1 (
         some false) (
         cond x13 (
          (F49.F p0_12).bind fun y49 =>
          let x11 := (x13 && y49)
          cond x11 (
           (F49.F p0_13).bind fun y49x2 =>
           let x6 := (x11 && y49x2)
           cond x6 (
            (F49.F p0_14).bind fun y49x3 =>
            some ((x6 && y49x3) && x16)) (
            some ((x6 && false) && x16))) (
           let x7 := (x11 && false)
           cond x7 (
            (F49.F p0_14).bind fun y49x2 =>
            some ((x7 && y49x2) && x16)) (
            some ((x7 && false) && x16)))) (
          cond x9 (
           (F49.F p0_13).bind fun y49 =>
           let x8 := (x9 && y49)
           cond x8 (
            (F49.F p0_14).bind fun y49x2 =>
            some ((x8 && y49x2) && x16)) (
            some ((x8 && false) && x16))) (
           cond x4 (
            (F49.F p0_14).bind fun y49 =>
            some ((x4 && y49) && x16)) (
            some x2))))) (
        some false))) (
      cond (p0_3 == 2) (
       x0.bind fun q => match q with
       | (.inl yl1) =>
        some yl1
       | (.inr yl1) =>
        cond (((decide (yl1.2.2.2.2.2.2.2.2.2.2.2.2.2.2.2.1 ≥ yl1.2.2.2.2.2.2.2.2.2.2.2.2.2.2.2.2.2.2.1)) || (decide (yl1.2.2.2.2.2.2.2.2.2.2.2.2.2.2.2.2.1 ≥ yl1.2.2.2.2.2.2.2.2.2.2.2.2.2.2.2.2.2.2.2.1))) || (decide (yl1.2.2.2.2.2.2.2.2.2.2.2.2.2.2.2.2.2.1 ≥ yl1.2.2.2.2.2.2.2.2.2.2.2.2.2.2.2.2.2.2.2.2))) (
         some false) (
         let x14 := ((ByteArray.toList yl1.2.1) == (ByteArray.toList (ByteArray.mk (Array.mk ([] : List UInt8)))))
         cond ((x14 && (yl1.2.2.2.2.1 != 0)) || ((!x14) && ((decide (yl1.2.2.2.2.1 < 1)) || (decide (yl1.2.2.2.2.1 > 6))))) (
          some false) (
          some ((((((ByteArray.toList yl1.2.2.1) == (ByteArray.toList (ByteArray.mk (Array.mk ([] : List UInt8))))) && (yl1.2.2.2.2.2.2.2.2.2.2.2.1 == 0)) && (yl1.2.2.2.2.2.2.2.2.2.2.2.2.1 == 0)) && (yl1.2.2.2.2.2.2.2.2.2.2.2.2.2.1 == 0)) && (yl1.2.2.2.2.2.2.2.2.2.2.2.2.2.2.1 == 0))))) (
       cond (p0_3 == 3) (
        cond x1 (
         some false) (
         cond x13 (
          (F49.F p0_12).bind fun y49 =>
          let x11 := (x13 && y49)
          cond x11 (
           (F49.F p0_13).bind fun y49x2 =>
           let x6 := (x11 && y49x2)
           cond x6 (
            (F49.F p0_14).bind fun y49x3 =>
            some ((x6 && y49x3) && x16)) (
            some ((x6 && false) && x16))) (
           let x7 := (x11 && false)
           cond x7 (
            (F49.F p0_14).bind fun y49x2 =>
            some ((x7 && y49x2) && x16)) (
            some ((x7 && false) && x16)))) (
          cond x9 (
           (F49.F p0_13).bind fun y49 =>
           let x8 := (x9 && y49)
           cond x8 (
            (F49.F p0_14).bind fun y49x2 =>
            some ((x8 && y49x2) && x16)) (
            some ((x8 && false) && x16))) (
           cond x4 (
            (F49.F p0_14).bind fun y49 =>
            some ((x4 && y49) && x16)) (
            some x2))))) (
        some false))))) (
    cond (x5 || x10) (
     some false) (
     cond (p0_3 == 1) (
      cond (p0_3 == 1) (
       x0.bind fun q => match q with
       | (.inl yl1) =>
        some yl1
       | (.inr yl1) =>
        cond (((decide (yl1.2.2.2.2.2.2.2.2.2.2.2.2.2.2.2.1 ≥ yl1.2.2.2.2.2.2.2.2.2.2.2.2.2.2.2.2.2.2.1)) || (decide (yl1.2.2.2.2.2.2.2.2.2.2.2.2.2.2.2.2.1 ≥ yl1.2.2.2.2.2.2.2.2.2.2.2.2.2.2.2.2.2.2.2.1))) || (decide (yl1.2.2.2.2.2.2.2.2.2.2.2.2.2.2.2.2.2.1 ≥ yl1.2.2.2.2.2.2.2.2.2.2.2.2.2.2.2.2.2.2.2.2))) (
         some false) (
         let x14 := ((ByteArray.toList yl1.2.1) == (ByteArray.toList (ByteArray.mk (Array.mk ([] : List UInt8)))))
         cond ((x14 && (yl1.2.2.2.2.1 != 0)) || ((!x14) && ((decide (yl1.2.2.2.2.1 < 1)) || (decide (yl1.2.2.2.2.1 > 6))))) (
          some false) (
          some ((((((ByteArray.toList yl1.2.2.1) == (ByteArray.toList (ByteArray.mk (Array.mk ([] : List UInt8))))) && (yl1.2.2.2.2.2.2.2.2.2.2.2.1 == 0)) && (yl1.2.2.2.2.2.2.2.2.2.2.2.2.1 == 0)) && (yl1.2.2.2.2.2.2.2.2.2.2.2.2.2.1 == 0)) && (yl1.2.2.2.2.2.2.2.2.2.2.2.2.2.2.1 == 0))))) (
       cond (p0_3 == 3) (
        cond x1 (
         some false) (
         cond x13 (
          (F49.F p0_12).bind fun y49 =>
          let x11 := (x13 && y49)
          cond x11 (
           (F49.F p0_13).bind fun y49x2 =>
           let x6 := (x11 && y49x2)
           cond x6 (
            (F49.F p0_14).bind fun y49x3 =>
            some ((x6 && y49x3) && x16)) (
            some ((x6 && false) && x16))) (
           let x7 := (x11 && false)
           cond x7 (
            (F49.F p0_14).bind fun y49x2 =>
            some ((x7 && y49x2) && x16)) (
            some ((x7 && false) && x16)))) (
          cond x9 (
           (F49.F p0_13).bind fun y49 =>
           let x8 := (x9 && y49)
           cond x8 (
            (F49.F p0_14).bind fun y49x2 =>
            some ((x8 && y49x2) && x16)) (
            some ((x8 && false) && x16))) (
           cond x4 (
            (F49.F p0_14).bind fun y49 =>
            some ((x4 && y49) && x16)) (
            some x2))))) (
        some false))) (
      cond (p0_3 == 2) (
       x0.bind fun q => match q with
       | (.inl yl1) =>
        some yl1
       | (.inr yl1) =>
        cond (((decide (yl1.2.2.2.2.2.2.2.2.2.2.2.2.2.2.2.1 ≥ yl1.2.2.2.2.2.2.2.2.2.2.2.2.2.2.2.2.2.2.1)) || (decide (yl1.2.2.2.2.2.2.2.2.2.2.2.2.2.2.2.2.1 ≥ yl1.2.2.2.2.2.2.2.2.2.2.2.2.2.2.2.2.2.2.2.1))) || (decide (yl1.2.2.2.2.2.2.2.2.2.2.2.2.2.2.2.2.2.1 ≥ yl1.2.2.2.2.2.2.2.2.2.2.2.2.2.2.2.2.2.2.2.2))) (
         some false) (
         let x14 := ((ByteArray.toList yl1.2.1) == (ByteArray.toList (ByteArray.mk (Array.mk ([] : List UInt8)))))
         cond ((x14 && (yl1.2.2.2.2.1 != 0)) || ((!x14) && ((decide (yl1.2.2.2.2.1 < 1)) || (decide (yl1.2.2.2.2.1 > 6))))) (
          some false) (
          some ((((((ByteArray.toList yl1.2.2.1) == (ByteArray.toList (ByteArray.mk (Array.mk ([] : List UInt8))))) && (yl1.2.2.2.2.2.2.2.2.2.2.2.1 == 0)) && (yl1.2.2.2.2.2.2.2.2.2.2.2.2.1 == 0)) && (yl1.2.2.2.2.2.2.2.2.2.2.2.2.2.1 == 0)) && (yl1.2.2.2.2.2.2.2.2.2.2.2.2.2.2.1 == 0))))) (
       cond (p0_3 == 3) (
        cond x1 (
         some false) (
         cond x13 (
          (F49.F p0_12).bind fun y49 =>
          let x11 := (x13 && y49)
          cond x11 (
           (F49.F p0_13).bind fun y49x2 =>
           let x6 := (x11 && y49x2)
           cond x6 (
            (F49.F p0_14).bind fun y49x3 =>
            some ((x6 && y49x3) && x16)) (
            some ((x6 && false) && x16))) (
           let x7 := (x11 && false)
           cond x7 (
            (F49.F p0_14).bind fun y49x2 =>
            some ((x7 && y49x2) && x16)) (
            some ((x7 && false) && x16)))) (
          cond x9 (
           (F49.F p0_13).bind fun y49 =>
           let x8 := (x9 && y49)
           cond x8 (
            (F49.F p0_14).bind fun y49x2 =>
            some ((x8 && y49x2) && x16)) (
            some ((x8 && false) && x16))) (
           cond x4 (
            (F49.F p0_14).bind fun y49 =>
            some ((x4 && y49) && x16)) (
            some x2))))) (
        some false))))))
theorem F.eq : ∀ x, F x = runF (mkE tab es 184 [(1, some (loopO 1 (cutOf l1.A l1.c) (cutsOf l1.xs l1.y) l1))] []) code [.agg [.sc, .sc, .sc, .sc, .sc, .sc, .sc, .sc, .sc, .sc, .sc, .sc, .sc, .sc, .sc]] [.sc] [.tmp 2] (Coz.dec cr) (cp.enc x) := fun x => by kernel_rfl
theorem F.owed : owed (mkE (R := Bool) tab es 184 [(1, some (loopO 1 (cutOf l1.A l1.c) (cutsOf l1.xs l1.y) l1))] []) code = [((.block 1 (.loop (loopAt 1 code))), (loopO (R := _) 1 (cutOf l1.A l1.c) (cutsOf l1.xs l1.y) l1))] := by kernel_rfl
theorem con : ∀ x y, F x = some y → Con prog 41 [.agg [.sc, .sc, .sc, .sc, .sc, .sc, .sc, .sc, .sc, .sc, .sc, .sc, .sc, .sc, .sc]] [.sc] (cp.enc x) (cr.enc y).1 (cr.enc y).2 :=
  func_ok (c := code) (n := 184) (pf := [.agg [.sc, .sc, .sc, .sc, .sc, .sc, .sc, .sc, .sc, .sc, .sc, .sc, .sc, .sc, .sc]]) (res := [.tmp 2]) tabOk uniOk mixed get (by kernel_rfl) (by kernel_rfl) (by kernel_rfl) (by decide) F.eq fun w0 M h x hx => by rw [F.owed] at hx; rcases List.mem_cons.1 hx with rfl | hx; exact l1.ok w0 M h; exact absurd hx List.not_mem_nil
noncomputable def ent : Ent prog uni := Ent.of 41 [.agg [.sc, .sc, .sc, .sc, .sc, .sc, .sc, .sc, .sc, .sc, .sc, .sc, .sc, .sc, .sc]] [.sc] cp cr F con fun args w => enters_of get (by kernel_rfl) rfl args w
end Go.Proofs.YtiogkndjoinpoaaDoor.AX.F41

/- The function 42 of the program in the small machine. No conditions. -/
namespace Go.Proofs.YtiogkndjoinpoaaDoor.AX.F42
open Go Go.Proofs.Tryd
noncomputable def code : Code := bodyOf f42
abbrev Y : Type := (Unit ⊕ (List Int))
def cp : Cod uni (List (List Int)) := (cod1 (iRow 4))
def cr : Coz uni (Unit ⊕ (List Int)) := (cozR (cod1 (iNil 5)) (codD cod0))
noncomputable def es : List (Ent prog uni) := []
theorem get : prog.funcs[42]? = some f42 := by kernel_rfl

def l4.A : Ann := ⟨[(0, .slc 5000000 []), (3, .sc), (4, .sc), (5, .sc), (6, .slc 5000384 []), (7, .sc), (8, .slc 5000512 []), (9, .slc 5000576 []), (10, .sc), (37, .slc 5000000 []), (38, .sc), (39, .sc), (44, .slc 5000000 [0]), (45, .sc), (46, .sc)], [], [(5000000, false, 4), (5000512, true, 5), (5000576, true, 4), (5000384, true, 5)], []⟩
def l4.c : Cod uni (Int × Int × Int × Int × Int × Int × Int × Int × Int × Int × (List (List Int)) × (List Int) × (List (List Int)) × (List Int)) := (codC (iInt .i64) (codC (iInt .i64) (codC (iInt .i64) (codC (iInt .i64) (codC (iInt .i64) (codC (iInt .i64) (codC (iInt .i64) (codC (iInt .i64) (codC (iInt .i64) (codC (iInt .i64) (codC (iRow 4) (codC (iRow 5) (codC (iRow 4) (cod1 (iRow 5)))))))))))))))
def l4.xs : List (AExit × Ann) := [((.exit 4), ⟨[(0, .slc 5000000 []), (3, .sc), (4, .sc), (5, .sc), (6, .slc 5000384 []), (7, .sc), (8, .slc 5000512 []), (9, .slc 5000576 []), (37, .slc 5000000 []), (38, .sc), (39, .sc)], [], [(5000000, false, 4), (5000512, true, 5), (5000576, true, 4), (5000384, true, 5)], []⟩)]
def l4.y : Coy uni ((Int × Int × Int × Int × Int × Int × (List (List Int)) × (List Int) × (List (List Int)) × (List Int))) := (coy1 (codC (iInt .i64) (codC (iInt .i64) (codC (iInt .i64) (codC (iInt .i64) (codC (iInt .i64) (codC (iInt .i64) (codC (iRow 4) (codC (iRow 5) (codC (iRow 4) (cod1 (iRow 5))))))))))))
noncomputable def l4.b : Int × Int × Int × Int × Int × Int × Int × Int × Int × Int × (List (List Int)) × (List Int) × (List (List Int)) × (List Int) → Option ((Int × Int × Int × Int × Int × Int × Int × Int × Int × Int × (List (List Int)) × (List Int) × (List (List Int)) × (List Int)) ⊕ ((Int × Int × Int × Int × Int × Int × (List (List Int)) × (List Int) × (List (List Int)) × (List Int))))
  | (v3, v4, v5, v7, v10, v38, v39, v44i0, v45, v46, r0, r512, r576, r384) =>
  cond (decide (v46 < v45)) (
   let x4 := (List.getD r0 (Int.toNat v44i0) ([] : List Int))
   cond ((decide (0 ≤ v46)) && (decide (v46 < ((List.length x4) : Int)))) (
    let x3 := (List.getD x4 (Int.toNat v46) 0)
    let x0 := ((decide (0 ≤ x3)) && (decide (x3 < ((List.length r576) : Int))))
    cond x0 (
     let x2 := (Int.toNat x3)
     let x1 := (List.getD r576 x2 ([] : List Int))
     cond (decide (((List.length x1) + (List.length (v10 :: []))) ≤ 274877906944)) (
      cond x0 (
       cond (decide (x3 = x3)) (
        some (.inl (v3, v4, v5, v7, v10, v38, v39, v44i0, v45, (Go.IntKind.wrap (Go.IntKind.i64 ) (v46 + 1)), r0, r512, (List.set r576 x2 (x1 ++ (v10 :: []))), r384))) none) none) none) none) none) (
   some (.inr (v3, v4, v5, v7, v38, v39, r0, r512, r576, r384)))
noncomputable def l4 (x : Int × Int × Int × Int × Int × Int × Int × Int × Int × Int × (List (List Int)) × (List Int) × (List (List Int)) × (List Int)) : Option ((Int × Int × Int × Int × Int × Int × (List (List Int)) × (List Int) × (List (List Int)) × (List Int))) := lim l4.b x
theorem l4.eq : ∀ x, l4.b x = roundX (mkE tab es 169 [] []) (loopAt 4 code) (cutOf l4.A l4.c) (cutsOf l4.xs l4.y) x := fun x => by kernel_rfl
theorem l4.owed {R : Type} : owed (mkE (R := R) tab es 169 [] []) (loopAt 4 code) = [] := by kernel_rfl
theorem l4.ok (w0 : World) (M : Own) (h : Pinned M []) {R : Type} : SoundO prog w0 M 169 (.block 4 (.loop (loopAt 4 code))) (loopO (R := R) 4 (cutOf l4.A l4.c) (cutsOf l4.xs l4.y) l4) :=
  loop_ok tabOk uniOk mixed l4.eq (h.sub rfl) (h.sub rfl) fun x hx => by rw [l4.owed] at hx; exact absurd hx List.not_mem_nil

def l2.A : Ann := ⟨[(0, .slc 5000000 []), (3, .sc), (4, .sc), (5, .sc), (6, .slc 5000384 []), (7, .sc), (8, .slc 5000512 []), (9, .slc 5000576 []), (37, .slc 5000000 []), (38, .sc), (39, .sc)], [], [(5000000, false, 4), (5000512, true, 5), (5000576, true, 4), (5000384, true, 5)], []⟩
def l2.c : Cod uni (Int × Int × Int × Int × Int × Int × (List (List Int)) × (List Int) × (List (List Int)) × (List Int)) := (codC (iInt .i64) (codC (iInt .i64) (codC (iInt .i64) (codC (iInt .i64) (codC (iInt .i64) (codC (iInt .i64) (codC (iRow 4) (codC (iRow 5) (codC (iRow 4) (cod1 (iRow 5)))))))))))
def l2.xs : List (AExit × Ann) := [((.exit 2), ⟨[(0, .slc 5000000 []), (3, .sc), (4, .sc), (5, .sc), (6, .slc 5000384 []), (7, .sc), (8, .slc 5000512 []), (9, .slc 5000576 [])], [], [(5000000, false, 4), (5000512, true, 5), (5000576, true, 4), (5000384, true, 5)], []⟩)]
def l2.y : Coy uni ((Int × Int × Int × Int × (List (List Int)) × (List Int) × (List (List Int)) × (List Int))) := (coy1 (codC (iInt .i64) (codC (iInt .i64) (codC (iInt .i64) (codC (iInt .i64) (codC (iRow 4) (codC (iRow 5) (codC (iRow 4) (cod1 (iRow 5))))))))))
noncomputable def l2.b : Int × Int × Int × Int × Int × Int × (List (List Int)) × (List Int) × (List (List Int)) × (List Int) → Option ((Int × Int × Int × Int × Int × Int × (List (List Int)) × (List Int) × (List (List Int)) × (List Int)) ⊕ ((Int × Int × Int × Int × (List (List Int)) × (List Int) × (List (List Int)) × (List Int))))
  | (v3, v4, v5, v7, v38, v39, r0, r512, r576, r384) =>
  cond (decide (v39 < v38)) (
   cond ((decide (0 ≤ v39)) && (decide (v39 < ((List.length r0) : Int)))) (
    (l4 (v3, v4, v5, v7, v39, v38, v39, v39, ((List.length (List.getD r0 (Int.toNat v39) ([] : List Int))) : Int), 0, r0, r512, r576, r384)).bind fun yl4 =>
    some (.inl (yl4.1, yl4.2.1, yl4.2.2.1, yl4.2.2.2.1, yl4.2.2.2.2.1, (Go.IntKind.wrap (Go.IntKind.i64 ) (yl4.2.2.2.2.2.1 + 1)), yl4.2.2.2.2.2.2.1, yl4.2.2.2.2.2.2.2.1, yl4.2.2.2.2.2.2.2.2.1, yl4.2.2.2.2.2.2.2.2.2))) none) (
   some (.inr (v3, v4, v5, v7, r0, r512, r576, r384)))
noncomputable def l2 (x : Int × Int × Int × Int × Int × Int × (List (List Int)) × (List Int) × (List (List Int)) × (List Int)) : Option ((Int × Int × Int × Int × (List (List Int)) × (List Int) × (List (List Int)) × (List Int))) := lim l2.b x
theorem l2.eq : ∀ x, l2.b x = roundX (mkE tab es 169 [(4, some (loopO 4 (cutOf l4.A l4.c) (cutsOf l4.xs l4.y) l4))] []) (loopAt 2 code) (cutOf l2.A l2.c) (cutsOf l2.xs l2.y) x := fun x => by kernel_rfl
theorem l2.owed {R : Type} : owed (mkE (R := R) tab es 169 [(4, some (loopO 4 (cutOf l4.A l4.c) (cutsOf l4.xs l4.y) l4))] []) (loopAt 2 code) = [((.block 4 (.loop (loopAt 4 code))), (loopO (R := _) 4 (cutOf l4.A l4.c) (cutsOf l4.xs l4.y) l4))] := by kernel_rfl
theorem l2.ok (w0 : World) (M : Own) (h : Pinned M []) {R : Type} : SoundO prog w0 M 169 (.block 2 (.loop (loopAt 2 code))) (loopO (R := R) 2 (cutOf l2.A l2.c) (cutsOf l2.xs l2.y) l2) :=
  loop_ok tabOk uniOk mixed l2.eq (h.sub rfl) (h.sub rfl) fun x hx => by rw [l2.owed] at hx; rcases List.mem_cons.1 hx with rfl | hx; exact l4.ok w0 M h; exact absurd hx List.not_mem_nil

def l10.A : Ann := ⟨[(0, .slc 5000000 []), (3, .sc), (4, .sc), (5, .sc), (6, .slc 5000384 []), (7, .sc), (8, .slc 5000512 []), (9, .slc 5000576 []), (15, .sc), (16, .slc 5001024 []), (69, .slc 5004416 []), (70, .sc), (71, .sc), (78, .slc 5000576 [0]), (79, .sc), (80, .sc)], [], [(5000000, false, 4), (5000512, true, 5), (5000576, true, 4), (5004416, true, 5), (5001024, true, 5), (5000384, true, 5)], []⟩
def l10.c : Cod uni (Int × Int × Int × Int × Int × Int × Int × Int × Int × Int × (List (List Int)) × (List Int) × (List (List Int)) × (List Int) × (List Int) × (List Int)) := (codC (iInt .i64) (codC (iInt .i64) (codC (iInt .i64) (codC (iInt .i64) (codC (iInt .i64) (codC (iInt .i64) (codC (iInt .i64) (codC (iInt .i64) (codC (iInt .i64) (codC (iInt .i64) (codC (iRow 4) (codC (iRow 5) (codC (iRow 4) (codC (iRow 5) (codC (iRow 5) (cod1 (iRow 5)))))))))))))))))
def l10.xs : List (AExit × Ann) := [((.exit 10), ⟨[(0, .slc 5000000 []), (3, .sc), (4, .sc), (5, .sc), (6, .slc 5000384 []), (7, .sc), (8, .slc 5000512 []), (9, .slc 5000576 []), (15, .sc), (16, .slc 5001024 []), (69, .slc 5004416 []), (70, .sc), (71, .sc)], [], [(5000000, false, 4), (5000512, true, 5), (5000576, true, 4), (5004416, true, 5), (5001024, true, 5), (5000384, true, 5)], []⟩)]
def l10.y : Coy uni ((Int × Int × Int × Int × Int × Int × Int × (List (List Int)) × (List Int) × (List (List Int)) × (List Int) × (List Int) × (List Int))) := (coy1 (codC (iInt .i64) (codC (iInt .i64) (codC (iInt .i64) (codC (iInt .i64) (codC (iInt .i64) (codC (iInt .i64) (codC (iInt .i64) (codC (iRow 4) (codC (iRow 5) (codC (iRow 4) (codC (iRow 5) (codC (iRow 5) (cod1 (iRow 5)))))))))))))))
noncomputable def l10.b : Int × Int × Int × Int × Int × Int × Int × Int × Int × Int × (List (List Int)) × (List Int) × (List (List Int)) × (List Int) × (List Int) × (List Int) → Option ((Int × Int × Int × Int × Int × Int × Int × Int × Int × Int × (List (List Int)) × (List Int) × (List (List Int)) × (List Int) × (List Int) × (List Int)) ⊕ ((Int × Int × Int × Int × Int × Int × Int × (List (List Int)) × (List Int) × (List (List Int)) × (List Int) × (List Int) × (List Int))))
  | (v3, v4, v5, v7, v15, v70, v71, v78i0, v79, v80, r0, r512, r576, r4416, r1024, r384) =>
  cond (decide (v80 < v79)) (
   let x4 := (List.getD r576 (Int.toNat v78i0) ([] : List Int))
   cond ((decide (0 ≤ v80)) && (decide (v80 < ((List.length x4) : Int)))) (
    let x3 := (List.getD x4 (Int.toNat v80) 0)
    let x0 := ((decide (0 ≤ x3)) && (decide (x3 < ((List.length r512) : Int))))
    cond x0 (
     let x1 := (Int.toNat x3)
     let x5 := (Go.IntKind.wrap (Go.IntKind.i64 ) (v80 + 1))
     cond ((List.getD r512 x1 0) == 0) (
      cond x0 (
       let x2 := (x3 :: [])
       cond (decide (((List.length r1024) + (List.length x2)) ≤ 274877906944)) (
        some (.inl (v3, v4, v5, v7, v15, v70, v71, v78i0, v79, x5, r0, (List.set r512 x1 v15), r576, r4416, (r1024 ++ x2), r384))) none) none) (
      some (.inl (v3, v4, v5, v7, v15, v70, v71, v78i0, v79, x5, r0, r512, r576, r4416, r1024, r384)))) none) none) (
   some (.inr (v3, v4, v5, v7, v15, v70, v71, r0, r512, r576, r4416, r1024, r384)))
noncomputable def l10 (x : Int × Int × Int × Int × Int × Int × Int × Int × Int × Int × (List (List Int)) × (List Int) × (List (List Int)) × (List Int) × (List Int) × (List Int)) : Option ((Int × Int × Int × Int × Int × Int × Int × (List (List Int)) × (List Int) × (List (List Int)) × (List Int) × (List Int) × (List Int))) := lim l10.b x
theorem l10.eq : ∀ x, l10.b x = roundX (mkE tab es 169 [] []) (loopAt 10 code) (cutOf l10.A l10.c) (cutsOf l10.xs l10.y) x := fun x => by kernel_rfl
theorem l10.owed {R : Type} : owed (mkE (R := R) tab es 169 [] []) (loopAt 10 code) = [] := by kernel_rfl
theorem l10.ok (w0 : World) (M : Own) (h : Pinned M []) {R : Type} : SoundO prog w0 M 169 (.block 10 (.loop (loopAt 10 code))) (loopO (R := R) 10 (cutOf l10.A l10.c) (cutsOf l10.xs l10.y) l10) :=
  loop_ok tabOk uniOk mixed l10.eq (h.sub rfl) (h.sub rfl) fun x hx => by rw [l10.owed] at hx; exact absurd hx List.not_mem_nil

def l8.A : Ann := ⟨[(0, .slc 5000000 []), (3, .sc), (4, .sc), (5, .sc), (6, .slc 5000384 []), (7, .sc), (8, .slc 5000512 []), (9, .slc 5000576 []), (15, .sc), (16, .slc 5001024 []), (69, .slc 5004416 []), (70, .sc), (71, .sc)], [], [(5000000, false, 4), (5000512, true, 5), (5000576, true, 4), (5004416, true, 5), (5001024, true, 5), (5000384, true, 5)], []⟩
def l8.c : Cod uni (Int × Int × Int × Int × Int × Int × Int × (List (List Int)) × (List Int) × (List (List Int)) × (List Int) × (List Int) × (List Int)) := (codC (iInt .i64) (codC (iInt .i64) (codC (iInt .i64) (codC (iInt .i64) (codC (iInt .i64) (codC (iInt .i64) (codC (iInt .i64) (codC (iRow 4) (codC (iRow 5) (codC (iRow 4) (codC (iRow 5) (codC (iRow 5) (cod1 (iRow 5))))))))))))))
def l8.xs : List (AExit × Ann) := [((.exit 8), ⟨[(0, .slc 5000000 []), (3, .sc), (4, .sc), (5, .sc), (6, .slc 5000384 []), (7, .sc), (8, .slc 5000512 []), (9, .slc 5000576 []), (15, .sc), (16, .slc 5001024 [])], [], [(5000000, false, 4), (5000512, true, 5), (5000576, true, 4), (5001024, true, 5), (5000384, true, 5)], []⟩)]
def l8.y : Coy uni ((Int × Int × Int × Int × Int × (List (List Int)) × (List Int) × (List (List Int)) × (List Int) × (List Int))) := (coy1 (codC (iInt .i64) (codC (iInt .i64) (codC (iInt .i64) (codC (iInt .i64) (codC (iInt .i64) (codC (iRow 4) (codC (iRow 5) (codC (iRow 4) (codC (iRow 5) (cod1 (iRow 5))))))))))))
noncomputable def l8.b : Int × Int × Int × Int × Int × Int × Int × (List (List Int)) × (List Int) × (List (List Int)) × (List Int) × (List Int) × (List Int) → Option ((Int × Int × Int × Int × Int × Int × Int × (List (List Int)) × (List Int) × (List (List Int)) × (List Int) × (List Int) × (List Int)) ⊕ ((Int × Int × Int × Int × Int × (List (List Int)) × (List Int) × (List (List Int)) × (List Int) × (List Int))))
  | (v3, v4, v5, v7, v15, v70, v71, r0, r512, r576, r4416, r1024, r384) =>
  cond (decide (v71 < v70)) (
   cond ((decide (0 ≤ v71)) && (decide (v71 < ((List.length r4416) : Int)))) (
    let x0 := (List.getD r4416 (Int.toNat v71) 0)
    cond ((decide (0 ≤ x0)) && (decide (x0 < ((List.length r576) : Int)))) (
     (l10 (v3, v4, v5, v7, v15, v70, v71, x0, ((List.length (List.getD r576 (Int.toNat x0) ([] : List Int))) : Int), 0, r0, r512, r576, r4416, r1024, r384)).bind fun yl10 =>
     some (.inl (yl10.1, yl10.2.1, yl10.2.2.1, yl10.2.2.2.1, yl10.2.2.2.2.1, yl10.2.2.2.2.2.1, (Go.IntKind.wrap (Go.IntKind.i64 ) (yl10.2.2.2.2.2.2.1 + 1)), yl10.2.2.2.2.2.2.2.1, yl10.2.2.2.2.2.2.2.2.1, yl10.2.2.2.2.2.2.2.2.2.1, yl10.2.2.2.2.2.2.2.2.2.2.1, yl10.2.2.2.2.2.2.2.2.2.2.2.1, yl10.2.2.2.2.2.2.2.2.2.2.2.2))) none) none) (
   some (.inr (v3, v4, v5, v7, v15, r0, r512, r576, r1024, r384)))
noncomputable def l8 (x : Int × Int × Int × Int × Int × Int × Int × (List (List Int)) × (List Int) × (List (List Int)) × (List Int) × (List Int) × (List Int)) : Option ((Int × Int × Int × Int × Int × (List (List Int)) × (List Int) × (List (List Int)) × (List Int) × (List Int))) := lim l8.b x
theorem l8.eq : ∀ x, l8.b x = roundX (mkE tab es 169 [(10, some (loopO 10 (cutOf l10.A l10.c) (cutsOf l10.xs l10.y) l10))] []) (loopAt 8 code) (cutOf l8.A l8.c) (cutsOf l8.xs l8.y) x := fun x => by kernel_rfl
theorem l8.owed {R : Type} : owed (mkE (R := R) tab es 169 [(10, some (loopO 10 (cutOf l10.A l10.c) (cutsOf l10.xs l10.y) l10))] []) (loopAt 8 code) = [((.block 10 (.loop (loopAt 10 code))), (loopO (R := _) 10 (cutOf l10.A l10.c) (cutsOf l10.xs l10.y) l10))] := by kernel_rfl
theorem l8.ok (w0 : World) (M : Own) (h : Pinned M []) {R : Type} : SoundO prog w0 M 169 (.block 8 (.loop (loopAt 8 code))) (loopO (R := R) 8 (cutOf l8.A l8.c) (cutsOf l8.xs l8.y) l8) :=
  loop_ok tabOk uniOk mixed l8.eq (h.sub rfl) (h.sub rfl) fun x hx => by rw [l8.owed] at hx; rcases List.mem_cons.1 hx with rfl | hx; exact l10.ok w0 M h; exact absurd hx List.not_mem_nil

def l6.A : Ann := ⟨[(0, .slc 5000000 []), (3, .sc), (4, .sc), (5, .sc), (6, .slc 5000384 []), (7, .sc), (8, .slc 5000512 []), (9, .slc 5000576 []), (14, .slc 5000896 []), (15, .sc)], [], [(5000000, false, 4), (5000512, true, 5), (5000576, true, 4), (5000896, true, 5), (5000384, true, 5)], []⟩
def l6.c : Cod uni (Int × Int × Int × Int × Int × (List (List Int)) × (List Int) × (List (List Int)) × (List Int) × (List Int)) := (codC (iInt .i64) (codC (iInt .i64) (codC (iInt .i64) (codC (iInt .i64) (codC (iInt .i64) (codC (iRow 4) (codC (iRow 5) (codC (iRow 4) (codC (iRow 5) (cod1 (iRow 5)))))))))))
def l6.xs : List (AExit × Ann) := [((.exit 6), ⟨[(0, .slc 5000000 []), (3, .sc), (4, .sc), (5, .sc), (6, .slc 5000384 []), (7, .sc), (8, .slc 5000512 [])], [], [(5000000, false, 4), (5000512, true, 5), (5000384, true, 5)], []⟩)]
def l6.y : Coy uni ((Int × Int × Int × Int × (List (List Int)) × (List Int) × (List Int))) := (coy1 (codC (iInt .i64) (codC (iInt .i64) (codC (iInt .i64) (codC (iInt .i64) (codC (iRow 4) (codC (iRow 5) (cod1 (iRow 5)))))))))
noncomputable def l6.b : Int × Int × Int × Int × Int × (List (List Int)) × (List Int) × (List (List Int)) × (List Int) × (List Int) → Option ((Int × Int × Int × Int × Int × (List (List Int)) × (List Int) × (List (List Int)) × (List Int) × (List Int)) ⊕ ((Int × Int × Int × Int × (List (List Int)) × (List Int) × (List Int))))
  | (v3, v4, v5, v7, v15, r0, r512, r576, r896, r384) =>
  let x0 := ((List.length r896) : Int)
  cond (decide (x0 > 0)) (
   (l8 (v3, v4, v5, v7, v15, x0, 0, r0, r512, r576, r896, ([] : List Int), r384)).bind fun yl8 =>
   some (.inl (yl8.1, yl8.2.1, yl8.2.2.1, yl8.2.2.2.1, (Go.IntKind.wrap (Go.IntKind.i64 ) (yl8.2.2.2.2.1 + 1)), yl8.2.2.2.2.2.1, yl8.2.2.2.2.2.2.1, yl8.2.2.2.2.2.2.2.1, yl8.2.2.2.2.2.2.2.2.1, yl8.2.2.2.2.2.2.2.2.2))) (
   some (.inr (v3, v4, v5, v7, r0, r512, r384)))
noncomputable def l6 (x : Int × Int × Int × Int × Int × (List (List Int)) × (List Int) × (List (List Int)) × (List Int) × (List Int)) : Option ((Int × Int × Int × Int × (List (List Int)) × (List Int) × (List Int))) := lim l6.b x
theorem l6.eq : ∀ x, l6.b x = roundX (mkE tab es 169 [(8, some (loopO 8 (cutOf l8.A l8.c) (cutsOf l8.xs l8.y) l8))] []) (loopAt 6 code) (cutOf l6.A l6.c) (cutsOf l6.xs l6.y) x := fun x => by kernel_rfl
theorem l6.owed {R : Type} : owed (mkE (R := R) tab es 169 [(8, some (loopO 8 (cutOf l8.A l8.c) (cutsOf l8.xs l8.y) l8))] []) (loopAt 6 code) = [((.block 8 (.loop (loopAt 8 code))), (loopO (R := _) 8 (cutOf l8.A l8.c) (cutsOf l8.xs l8.y) l8))] := by kernel_rfl
theorem l6.ok (w0 : World) (M : Own) (h : Pinned M []) {R : Type} : SoundO prog w0 M 169 (.block 6 (.loop (loopAt 6 code))) (loopO (R := R) 6 (cutOf l6.A l6.c) (cutsOf l6.xs l6.y) l6) :=
  loop_ok tabOk uniOk mixed l6.eq (h.sub rfl) (h.sub rfl) fun x hx => by rw [l6.owed] at hx; rcases List.mem_cons.1 hx with rfl | hx; exact l8.ok w0 M h; exact absurd hx List.not_mem_nil

def l0.A : Ann := ⟨[(0, .slc 5000000 []), (3, .sc), (4, .sc), (5, .sc), (6, .slc 5000384 []), (7, .sc)], [], [(5000000, false, 4), (5000384, true, 5)], []⟩
def l0.c : Cod uni (Int × Int × Int × Int × (List (List Int)) × (List Int)) := (codC (iInt .i64) (codC (iInt .i64) (codC (iInt .i64) (codC (iInt .i64) (codC (iRow 4) (cod1 (iRow 5)))))))
def l0.xs : List (AExit × Ann) := [((.exit 0), ⟨[(0, .slc 5000000 []), (4, .sc), (5, .sc), (6, .slc 5000384 [])], [], [(5000000, false, 4), (5000384, true, 5)], []⟩)]
def l0.y : Coy uni ((Int × Int × (List (List Int)) × (List Int))) := (coy1 (codC (iInt .i64) (codC (iInt .i64) (codC (iRow 4) (cod1 (iRow 5))))))
noncomputable def l0.b : Int × Int × Int × Int × (List (List Int)) × (List Int) → Option ((Int × Int × Int × Int × (List (List Int)) × (List Int)) ⊕ ((Int × Int × (List (List Int)) × (List Int))))
  | (v3, v4, v5, v7, r0, r384) =>
  cond (decide (v7 < v3)) (
   let x1 := (((decide (0 ≤ v3)) && (decide (v3 ≤ v3))) && (decide (v3 ≤ 274877906944)))
   cond x1 (
    cond x1 (
     (l2 (v3, v4, v5, v7, ((List.length r0) : Int), 0, r0, (List.replicate (Int.toNat v3) 0), (List.replicate (Int.toNat v3) ([] : List Int)), r384)).bind fun yl2 =>
     (l6 (yl2.1, yl2.2.1, yl2.2.2.1, yl2.2.2.2.1, 1, yl2.2.2.2.2.1, yl2.2.2.2.2.2.1, yl2.2.2.2.2.2.2.1, (yl2.2.2.2.1 :: []), yl2.2.2.2.2.2.2.2)).bind fun yl6 =>
     let x0 := ((decide (0 ≤ yl6.2.2.2.1)) && (decide (yl6.2.2.2.1 < ((List.length yl6.2.2.2.2.2.1) : Int))))
     cond x0 (
      let x3 := (List.getD yl6.2.2.2.2.2.1 (Int.toNat yl6.2.2.2.1) 0)
      let x2 := (decide (x3 > 0))
      cond ((!(x2 && (!(yl6.2.1 == 0)))) || x0) (
       let x4 := (Go.IntKind.wrap (Go.IntKind.i64 ) (yl6.2.2.2.1 + 1))
       cond (x2 && ((yl6.2.1 == 0) || (decide (x3 < yl6.2.1)))) (
        cond x0 (
         some (.inl (yl6.1, x3, yl6.2.2.2.1, x4, yl6.2.2.2.2.1, yl6.2.2.2.2.2.1))) none) (
        some (.inl (yl6.1, yl6.2.1, yl6.2.2.1, x4, yl6.2.2.2.2.1, yl6.2.2.2.2.2.2)))) none) none) none) none) (
   some (.inr (v4, v5, r0, r384)))
noncomputable def l0 (x : Int × Int × Int × Int × (List (List Int)) × (List Int)) : Option ((Int × Int × (List (List Int)) × (List Int))) := lim l0.b x
theorem l0.eq : ∀ x, l0.b x = roundX (mkE tab es 169 [(2, some (loopO 2 (cutOf l2.A l2.c) (cutsOf l2.xs l2.y) l2)), (6, some (loopO 6 (cutOf l6.A l6.c) (cutsOf l6.xs l6.y) l6))] []) (loopAt 0 code) (cutOf l0.A l0.c) (cutsOf l0.xs l0.y) x := fun x => by kernel_rfl
theorem l0.owed {R : Type} : owed (mkE (R := R) tab es 169 [(2, some (loopO 2 (cutOf l2.A l2.c) (cutsOf l2.xs l2.y) l2)), (6, some (loopO 6 (cutOf l6.A l6.c) (cutsOf l6.xs l6.y) l6))] []) (loopAt 0 code) = [((.block 2 (.loop (loopAt 2 code))), (loopO (R := _) 2 (cutOf l2.A l2.c) (cutsOf l2.xs l2.y) l2)), ((.block 6 (.loop (loopAt 6 code))), (loopO (R := _) 6 (cutOf l6.A l6.c) (cutsOf l6.xs l6.y) l6))] := by kernel_rfl
theorem l0.ok (w0 : World) (M : Own) (h : Pinned M []) {R : Type} : SoundO prog w0 M 169 (.block 0 (.loop (loopAt 0 code))) (loopO (R := R) 0 (cutOf l0.A l0.c) (cutsOf l0.xs l0.y) l0) :=
  loop_ok tabOk uniOk mixed l0.eq (h.sub rfl) (h.sub rfl) fun x hx => by rw [l0.owed] at hx; rcases List.mem_cons.1 hx with rfl | hx; exact l2.ok w0 M h; rcases List.mem_cons.1 hx with rfl | hx; exact l6.ok w0 M h; exact absurd hx List.not_mem_nil

def l14.A : Ann := ⟨[(0, .slc 5000000 []), (6, .slc 5000384 []), (21, .slc 5001344 []), (22, .sc), (23, .sc), (141, .slc 5000000 [0]), (142, .sc), (143, .sc)], [], [(5000000, false, 4), (5000384, true, 5), (5001344, true, 5)], []⟩
def l14.c : Cod uni (Int × Int × Int × Int × Int × (List (List Int)) × (List Int) × (List Int)) := (codC (iInt .i64) (codC (iInt .i64) (codC (iInt .i64) (codC (iInt .i64) (codC (iInt .i64) (codC (iRow 4) (codC (iRow 5) (cod1 (iRow 5)))))))))
def l14.xs : List (AExit × Ann) := [((.exit 14), ⟨[(0, .slc 5000000 []), (6, .slc 5000384 []), (21, .slc 5001344 []), (22, .sc), (23, .sc)], [], [(5000000, false, 4), (5000384, true, 5), (5001344, true, 5)], []⟩)]
def l14.y : Coy uni ((Int × Int × (List (List Int)) × (List Int) × (List Int))) := (coy1 (codC (iInt .i64) (codC (iInt .i64) (codC (iRow 4) (codC (iRow 5) (cod1 (iRow 5)))))))
noncomputable def l14.b : Int × Int × Int × Int × Int × (List (List Int)) × (List Int) × (List Int) → Option ((Int × Int × Int × Int × Int × (List (List Int)) × (List Int) × (List Int)) ⊕ ((Int × Int × (List (List Int)) × (List Int) × (List Int))))
  | (v22, v23, v141i0, v142, v143, r0, r384, r1344) =>
  cond (decide (v143 < v142)) (
   let x1 := (List.getD r0 (Int.toNat v141i0) ([] : List Int))
   cond ((decide (0 ≤ v143)) && (decide (v143 < ((List.length x1) : Int)))) (
    let x0 := (List.getD x1 (Int.toNat v143) 0)
    cond ((decide (0 ≤ x0)) && (decide (x0 < ((List.length r384) : Int)))) (
     let x2 := (Go.IntKind.wrap (Go.IntKind.i64 ) (v143 + 1))
     cond (((List.getD r384 (Int.toNat x0) 0) == v22) && ((decide (v23 < 0)) || (decide (x0 < v23)))) (
      some (.inl (v22, x0, v141i0, v142, x2, r0, r384, r1344))) (
      some (.inl (v22, v23, v141i0, v142, x2, r0, r384, r1344)))) none) none) (
   some (.inr (v22, v23, r0, r384, r1344)))
noncomputable def l14 (x : Int × Int × Int × Int × Int × (List (List Int)) × (List Int) × (List Int)) : Option ((Int × Int × (List (List Int)) × (List Int) × (List Int))) := lim l14.b x
theorem l14.eq : ∀ x, l14.b x = roundX (mkE tab es 169 [] []) (loopAt 14 code) (cutOf l14.A l14.c) (cutsOf l14.xs l14.y) x := fun x => by kernel_rfl
theorem l14.owed {R : Type} : owed (mkE (R := R) tab es 169 [] []) (loopAt 14 code) = [] := by kernel_rfl
theorem l14.ok (w0 : World) (M : Own) (h : Pinned M []) {R : Type} : SoundO prog w0 M 169 (.block 14 (.loop (loopAt 14 code))) (loopO (R := R) 14 (cutOf l14.A l14.c) (cutsOf l14.xs l14.y) l14) :=
  loop_ok tabOk uniOk mixed l14.eq (h.sub rfl) (h.sub rfl) fun x hx => by rw [l14.owed] at hx; exact absurd hx List.not_mem_nil

def l12.A : Ann := ⟨[(0, .slc 5000000 []), (6, .slc 5000384 []), (21, .slc 5001344 []), (22, .sc)], [], [(5000000, false, 4), (5000384, true, 5), (5001344, true, 5)], []⟩
def l12.c : Cod uni (Int × (List (List Int)) × (List Int) × (List Int)) := (codC (iInt .i64) (codC (iRow 4) (codC (iRow 5) (cod1 (iRow 5)))))
def l12.xs : List (AExit × Ann) := [((.exit 12), ⟨[(21, .slc 5001344 [])], [], [(5001344, true, 5)], []⟩)]
def l12.y : Coy uni ((List Int)) := (coy1 (cod1 (iRow 5)))
noncomputable def l12.b : Int × (List (List Int)) × (List Int) × (List Int) → Option ((Int × (List (List Int)) × (List Int) × (List Int)) ⊕ ((List Int)))
  | (v22, r0, r384, r1344) =>
  cond (decide (v22 > 0)) (
   let x2 := ((List.length r1344) : Int)
   let x1 := (Go.IntKind.wrap (Go.IntKind.i64 ) (x2 - 1))
   cond ((decide (0 ≤ x1)) && (decide (x1 < x2))) (
    let x0 := (List.getD r1344 (Int.toNat x1) 0)
    cond ((decide (0 ≤ x0)) && (decide (x0 < ((List.length r0) : Int)))) (
     (l14 (v22, (-1), x0, ((List.length (List.getD r0 (Int.toNat x0) ([] : List Int))) : Int), 0, r0, r384, r1344)).bind fun yl14 =>
     cond (decide (((List.length yl14.2.2.2.2) + (List.length (yl14.2.1 :: []))) ≤ 274877906944)) (
      some (.inl ((Go.IntKind.wrap (Go.IntKind.i64 ) (yl14.1 - 1)), yl14.2.2.1, yl14.2.2.2.1, (yl14.2.2.2.2 ++ (yl14.2.1 :: []))))) none) none) none) (
   some (.inr r1344))
noncomputable def l12 (x : Int × (List (List Int)) × (List Int) × (List Int)) : Option ((List Int)) := lim l12.b x
theorem l12.eq : ∀ x, l12.b x = roundX (mkE tab es 169 [(14, some (loopO 14 (cutOf l14.A l14.c) (cutsOf l14.xs l14.y) l14))] []) (loopAt 12 code) (cutOf l12.A l12.c) (cutsOf l12.xs l12.y) x := fun x => by kernel_rfl
theorem l12.owed {R : Type} : owed (mkE (R := R) tab es 169 [(14, some (loopO 14 (cutOf l14.A l14.c) (cutsOf l14.xs l14.y) l14))] []) (loopAt 12 code) = [((.block 14 (.loop (loopAt 14 code))), (loopO (R := _) 14 (cutOf l14.A l14.c) (cutsOf l14.xs l14.y) l14))] := by kernel_rfl
theorem l12.ok (w0 : World) (M : Own) (h : Pinned M []) {R : Type} : SoundO prog w0 M 169 (.block 12 (.loop (loopAt 12 code))) (loopO (R := R) 12 (cutOf l12.A l12.c) (cutsOf l12.xs l12.y) l12) :=
  loop_ok tabOk uniOk mixed l12.eq (h.sub rfl) (h.sub rfl) fun x hx => by rw [l12.owed] at hx; rcases List.mem_cons.1 hx with rfl | hx; exact l14.ok w0 M h; exact absurd hx List.not_mem_nil

noncomputable def F : (List (List Int)) → Option ((Unit ⊕ (List Int)))
  | p0 =>
  (l0 (((List.length p0) : Int), 0, 0, 0, p0, ([] : List Int))).bind fun yl0 =>
  cond (yl0.1 == 0) (
   some (Sum.inl ())) (
   (l12 ((Go.IntKind.wrap (Go.IntKind.i64 ) (yl0.1 - 1)), yl0.2.2.1, yl0.2.2.2, (yl0.2.1 :: []))).bind fun yl12 =>
   some (Sum.inr yl12))
theorem F.eq : ∀ x, F x = runF (mkE tab es 169 [(0, some (loopO 0 (cutOf l0.A l0.c) (cutsOf l0.xs l0.y) l0)), (12, some (loopO 12 (cutOf l12.A l12.c) (cutsOf l12.xs l12.y) l12))] []) code [.row 4 0] [.sc] [.tmp 2] (Coz.dec cr) (cp.enc x) := fun x => by kernel_rfl
theorem F.owed : owed (mkE (R := (Unit ⊕ (List Int))) tab es 169 [(0, some (loopO 0 (cutOf l0.A l0.c) (cutsOf l0.xs l0.y) l0)), (12, some (loopO 12 (cutOf l12.A l12.c) (cutsOf l12.xs l12.y) l12))] []) code = [((.block 0 (.loop (loopAt 0 code))), (loopO (R := _) 0 (cutOf l0.A l0.c) (cutsOf l0.xs l0.y) l0)), ((.block 12 (.loop (loopAt 12 code))), (loopO (R := _) 12 (cutOf l12.A l12.c) (cutsOf l12.xs l12.y) l12))] := by kernel_rfl
theorem con : ∀ x y, F x = some y → Con prog 42 [.row 4 0] [.sc] (cp.enc x) (cr.enc y).1 (cr.enc y).2 :=
  func_ok (c := code) (n := 169) (pf := [.row 4 0]) (res := [.tmp 2]) tabOk uniOk mixed get (by kernel_rfl) (by kernel_rfl) (by kernel_rfl) (by decide) F.eq fun w0 M h x hx => by rw [F.owed] at hx; rcases List.mem_cons.1 hx with rfl | hx; exact l0.ok w0 M h; rcases List.mem_cons.1 hx with rfl | hx; exact l12.ok w0 M h; exact absurd hx List.not_mem_nil
noncomputable def ent : Ent prog uni := Ent.ofS 42 [.row 4 0] [.sc] cp cr F con fun args w => enters_of get (by kernel_rfl) rfl args w
end Go.Proofs.YtiogkndjoinpoaaDoor.AX.F42

/- The function 26 of the program in the small machine. No conditions. -/
namespace Go.Proofs.YtiogkndjoinpoaaDoor.AX.F26
open Go Go.Proofs.Tryd
noncomputable def code : Code := bodyOf f26
abbrev Y : Type := ((List Int) × Int × (List ByteArray))
def cp : Cod uni (List S53) := (cod1 (iRow 2))
def cr : Coz uni ((List Int) × Int × (List ByteArray)) := (cozR (codC (iRow 5) (codC (iInt .i64) (cod1 (iRow 1)))) (codD cod0))
noncomputable def es : List (Ent prog uni) := [F41.ent, F42.ent]
theorem get : prog.funcs[26]? = some f26 := by kernel_rfl

def l0.A : Ann := ⟨[(0, .slc 5000000 []), (35, .slc 5000000 []), (36, .sc), (37, .sc)], [], [(5000000, false, 2)], []⟩
def l0.c : Cod uni (Int × Int × (List S53)) := (codC (iInt .i64) (codC (iInt .i64) (cod1 (iRow 2))))
def l0.xs : List (AExit × Ann) := [(.ret, ⟨[(2, .nil), (3, .sc), (4, .slc 5000256 [])], [], [(5000256, true, 1)], []⟩), ((.exit 0), ⟨[(0, .slc 5000000 [])], [], [(5000000, false, 2)], []⟩)]
def l0.y : Coy uni ((Int × (List ByteArray)) ⊕ (List S53)) := (coyS (codC (iInt .i64) (cod1 (iRow 1))) (coy1 (cod1 (iRow 2))))
noncomputable def l0.b : Int × Int × (List S53) → Option ((Int × Int × (List S53)) ⊕ ((Int × (List ByteArray)) ⊕ (List S53)))
  | (v36, v37, r0) =>
  cond (decide (v37 < v36)) (
   cond ((decide (0 ≤ v37)) && (decide (v37 < ((List.length r0) : Int)))) (
    let x0 := (List.getD r0 (Int.toNat v37) z53)
    (F41.F (x0.f0, (x0.f1, (x0.f2, (x0.f3, (x0.f4, (x0.f5, (x0.f6, (x0.f7, (x0.f8, (x0.f9, (x0.f10, (x0.f11, (x0.f12, (x0.f13, x0.f14))))))))))))))).bind fun y41 =>
    cond (!y41) (
     some (.inr (.inl (1, (x0.f0 :: []))))) (
     some (.inl (v36, (Go.IntKind.wrap (Go.IntKind.i64 ) (v37 + 1)), r0)))) none) (
   some (.inr (.inr r0)))
noncomputable def l0 (x : Int × Int × (List S53)) : Option ((Int × (List ByteArray)) ⊕ (List S53)) := lim l0.b x
theorem l0.eq : ∀ x, l0.b x = roundX (mkE tab es 218 [] []) (loopAt 0 code) (cutOf l0.A l0.c) (cutsOf l0.xs l0.y) x := fun x => by kernel_rfl
theorem l0.owed {R : Type} : owed (mkE (R := R) tab es 218 [] []) (loopAt 0 code) = [] := by kernel_rfl
theorem l0.ok (w0 : World) (M : Own) (h : Pinned M []) {R : Type} : SoundO prog w0 M 218 (.block 0 (.loop (loopAt 0 code))) (loopO (R := R) 0 (cutOf l0.A l0.c) (cutsOf l0.xs l0.y) l0) :=
  loop_ok tabOk uniOk mixed l0.eq (h.sub rfl) (h.sub rfl) fun x hx => by rw [l0.owed] at hx; exact absurd hx List.not_mem_nil

def l2.A : Ann := ⟨[(0, .slc 5000000 []), (7, .mref 5000448), (49, .slc 5000000 []), (50, .sc), (51, .sc)], [], [(5000000, false, 2), (5000448, true, 8)], []⟩
def l2.c : Cod uni (Int × Int × (List S53) × (List S72)) := (codC (iInt .i64) (codC (iInt .i64) (codC (iRow 2) (cod1 (iRow 8)))))
def l2.xs : List (AExit × Ann) := [(.ret, ⟨[(2, .nil), (3, .sc), (4, .slc 5000256 [])], [], [(5000256, true, 1)], []⟩), ((.exit 2), ⟨[(0, .slc 5000000 []), (7, .mref 5000448)], [], [(5000000, false, 2), (5000448, true, 8)], []⟩)]
def l2.y : Coy uni ((Int × (List ByteArray)) ⊕ ((List S53) × (List S72))) := (coyS (codC (iInt .i64) (cod1 (iRow 1))) (coy1 (codC (iRow 2) (cod1 (iRow 8)))))
noncomputable def l2.b : Int × Int × (List S53) × (List S72) → Option ((Int × Int × (List S53) × (List S72)) ⊕ ((Int × (List ByteArray)) ⊕ ((List S53) × (List S72))))
  | (v50, v51, r0, r448) =>
  cond (decide (v51 < v50)) (
   cond ((decide (0 ≤ v51)) && (decide (v51 < ((List.length r0) : Int)))) (
    let x1 := (List.getD r0 (Int.toNat v51) z53)
    let x0 := (ByteArray.toList x1.f0)
    cond (mhas (U := uni) 8 (fun (e : Go.Proofs.YtiogkndjoinpoaaDoor.AX.S72) => (x0 == (ByteArray.toList e.f0))) r448) (
     some (.inr (.inl (7, (x1.f0 :: []))))) (
     some (.inl (v50, (Go.IntKind.wrap (Go.IntKind.i64 ) (v51 + 1)), r0, ((mput (U := uni) 8 (fun (e : Go.Proofs.YtiogkndjoinpoaaDoor.AX.S72) => (x0 == (ByteArray.toList e.f0))) (⟨x1.f0, v51⟩ : S72) r448) : List Go.Proofs.YtiogkndjoinpoaaDoor.AX.S72))))) none) (
   some (.inr (.inr (r0, r448))))
noncomputable def l2 (x : Int × Int × (List S53) × (List S72)) : Option ((Int × (List ByteArray)) ⊕ ((List S53) × (List S72))) := lim l2.b x
theorem l2.eq : ∀ x, l2.b x = roundX (mkE tab es 218 [] []) (loopAt 2 code) (cutOf l2.A l2.c) (cutsOf l2.xs l2.y) x := fun x => by kernel_rfl
theorem l2.owed {R : Type} : owed (mkE (R := R) tab es 218 [] []) (loopAt 2 code) = [] := by kernel_rfl
theorem l2.ok (w0 : World) (M : Own) (h : Pinned M []) {R : Type} : SoundO prog w0 M 218 (.block 2 (.loop (loopAt 2 code))) (loopO (R := R) 2 (cutOf l2.A l2.c) (cutsOf l2.xs l2.y) l2) :=
  loop_ok tabOk uniOk mixed l2.eq (h.sub rfl) (h.sub rfl) fun x hx => by rw [l2.owed] at hx; exact absurd hx List.not_mem_nil

def t29.A : Ann := ⟨[(0, .slc 5000000 []), (7, .mref 5000448), (12, .slc 5000768 []), (13, .sc), (14, .box 5000896 0), (75, .slc 5000000 []), (76, .sc), (77, .sc)], [(5000896, 54, [.sc, .sc, .sc, .sc, .sc, .sc, .sc, .sc, .sc, .sc, .sc, .sc, .sc, .sc, .sc])], [(5000000, false, 2), (5000448, true, 8), (5000768, true, 4)], []⟩
def t29.c : Cod uni (Int × Int × Int × ByteArray × ByteArray × ByteArray × Int × Int × Int × Int × Int × Int × Int × Int × Int × Int × Int × Int × (List S53) × (List S72) × (List (List Int))) := (codC (iInt .i64) (codC (iInt .i64) (codC (iInt .i64) (codC iStr (codC iStr (codC iStr (codC (iInt .i64) (codC (iInt .i64) (codC (iInt .i64) (codC (iInt .i64) (codC (iInt .i64) (codC (iInt .i64) (codC (iInt .i64) (codC (iInt .i64) (codC (iInt .i64) (codC (iInt .i64) (codC (iInt .i64) (codC (iInt .i64) (codC (iRow 2) (codC (iRow 8) (cod1 (iRow 4))))))))))))))))))))))
def t29.xs : List (AExit × Ann) := [(.ret, ⟨[(2, .nil), (3, .sc), (4, .slc 5000256 [])], [], [(5000256, true, 1)], []⟩), (.normal, ⟨[(0, .slc 5000000 []), (7, .mref 5000448), (12, .slc 5000768 []), (75, .slc 5000000 []), (76, .sc), (77, .sc)], [], [(5000000, false, 2), (5000448, true, 8), (5000768, true, 4)], []⟩)]
def t29.y : Coy uni ((Int × (List ByteArray)) ⊕ (Int × Int × (List S53) × (List S72) × (List (List Int)))) := (coyS (codC (iInt .i64) (cod1 (iRow 1))) (coy1 (codC (iInt .i64) (codC (iInt .i64) (codC (iRow 2) (codC (iRow 8) (cod1 (iRow 4))))))))
noncomputable def t29 : Int × Int × Int × ByteArray × ByteArray × ByteArray × Int × Int × Int × Int × Int × Int × Int × Int × Int × Int × Int × Int × (List S53) × (List S72) × (List (List Int)) → Option ((Int × (List ByteArray)) ⊕ (Int × Int × (List S53) × (List S72) × (List (List Int))))
  | (v13, v76, v77, b896_0, b896_1, b896_2, b896_3, b896_4, b896_5, b896_6, b896_7, b896_8, b896_9, b896_10, b896_11, b896_12, b896_13, b896_14, r0, r448, r768) =>
  cond (b896_3 == 3) (
   let x8 := (ByteArray.toList b896_2)
   let x4 := ((mfind (U := uni) 8 (fun (e : Go.Proofs.YtiogkndjoinpoaaDoor.AX.S72) => (x8 == (ByteArray.toList e.f0))) r448) : Go.Proofs.YtiogkndjoinpoaaDoor.AX.S72)
   let x0 := ((decide (0 ≤ x4.f1)) && (decide (x4.f1 < ((List.length r0) : Int))))
   let x5 := (!(mhas (U := uni) 8 (fun (e : Go.Proofs.YtiogkndjoinpoaaDoor.AX.S72) => (x8 == (ByteArray.toList e.f0))) r448))
   cond ((!(!x5)) || x0) (
    let x2 := (List.getD r0 (Int.toNat x4.f1) z53)
    let x1 := (x5 || (x2.f3 == 3))
    cond ((!(!x1)) || x0) (
     cond (x1 || (!((ByteArray.toList x2.f1) == (ByteArray.toList (ByteArray.mk (Array.mk ([] : List UInt8))))))) (
      some (.inl (6, (b896_0 :: (b896_2 :: []))))) (
      let x6 := ((decide (0 ≤ v13)) && (decide (v13 < ((List.length r768) : Int))))
      cond x6 (
       let x3 := (x4.f1 :: [])
       let x7 := (List.getD r768 (Int.toNat v13) ([] : List Int))
       cond (decide (((List.length x7) + (List.length x3)) ≤ 274877906944)) (
        cond x6 (
         cond (decide (v13 = v13)) (
          some (.inr (v76, v77, r0, r448, (List.set r768 (Int.toNat v13) (x7 ++ x3))))) none) none) none) none)) none) none) (
   some (.inr (v76, v77, r0, r448, r768)))
theorem t29.eq : ∀ x, t29 x = tailX (mkE tab es 218 [] []) (tailAt 29 code) (cutOf t29.A t29.c) (cutsOf t29.xs t29.y) x := fun x => by kernel_rfl
theorem t29.owed {R : Type} : owed (mkE (R := R) tab es 218 [] []) (tailAt 29 code) = [] := by kernel_rfl
theorem t29.ok (w0 : World) (M : Own) (h : Pinned M []) {R : Type} : SoundO prog w0 M 218 (tailAt 29 code) (tailO (R := R) (cutOf t29.A t29.c) (cutsOf t29.xs t29.y) t29) :=
  tail_ok tabOk uniOk mixed t29.eq (h.sub rfl) (h.sub rfl) fun x hx => by rw [t29.owed] at hx; exact absurd hx List.not_mem_nil

def l4.A : Ann := ⟨[(0, .slc 5000000 []), (7, .mref 5000448), (12, .slc 5000768 []), (75, .slc 5000000 []), (76, .sc), (77, .sc)], [], [(5000000, false, 2), (5000448, true, 8), (5000768, true, 4)], []⟩
def l4.c : Cod uni (Int × Int × (List S53) × (List S72) × (List (List Int))) := (codC (iInt .i64) (codC (iInt .i64) (codC (iRow 2) (codC (iRow 8) (cod1 (iRow 4))))))
def l4.xs : List (AExit × Ann) := [(.ret, ⟨[(2, .nil), (3, .sc), (4, .slc 5000256 [])], [], [(5000256, true, 1)], []⟩), ((.exit 4), ⟨[(0, .slc 5000000 []), (12, .slc 5000768 [])], [], [(5000000, false, 2), (5000768, true, 4)], []⟩)]
def l4.y : Coy uni ((Int × (List ByteArray)) ⊕ ((List S53) × (List (List Int)))) := (coyS (codC (iInt .i64) (cod1 (iRow 1))) (coy1 (codC (iRow 2) (cod1 (iRow 4)))))
noncomputable def l4.b : Int × Int × (List S53) × (List S72) × (List (List Int)) → Option ((Int × Int × (List S53) × (List S72) × (List (List Int))) ⊕ ((Int × (List ByteArray)) ⊕ ((List S53) × (List (List Int)))))
  | (v76, v77, r0, r448, r768) =>
  cond (decide (v77 < v76)) (
   cond ((decide (0 ≤ v77)) && (decide (v77 < ((List.length r0) : Int)))) (
    let x4 := (List.getD r0 (Int.toNat v77) z53)
    let x2 := (ByteArray.toList x4.f1)
    cond (!(x2 == (ByteArray.toList (ByteArray.mk (Array.mk ([] : List UInt8)))))) (
     cond (!(mhas (U := uni) 8 (fun (e : Go.Proofs.YtiogkndjoinpoaaDoor.AX.S72) => (x2 == (ByteArray.toList e.f0))) r448)) (
      some (.inr (.inl (6, (x4.f0 :: (x4.f1 :: [])))))) (
      let x1 := ((decide (0 ≤ v77)) && (decide (v77 < ((List.length r768) : Int))))
      cond x1 (
       let x0 := (((mfind (U := uni) 8 (fun (e : Go.Proofs.YtiogkndjoinpoaaDoor.AX.S72) => (x2 == (ByteArray.toList e.f0))) r448) : Go.Proofs.YtiogkndjoinpoaaDoor.AX.S72).f1 :: [])
       let x3 := (List.getD r768 (Int.toNat v77) ([] : List Int))
       cond (decide (((List.length x3) + (List.length x0)) ≤ 274877906944)) (
        cond x1 (
         cond (decide (v77 = v77)) (
          (t29 (v77, v76, v77, x4.f0, x4.f1, x4.f2, x4.f3, x4.f4, x4.f5, x4.f6, x4.f7, x4.f8, x4.f9, x4.f10, x4.f11, x4.f12, x4.f13, x4.f14, r0, r448, (List.set r768 (Int.toNat v77) (x3 ++ x0)))).bind fun q => match q with
          | (.inl yt29) =>
           some (.inr (.inl (yt29.1, yt29.2)))
          | (.inr yt29) =>
           some (.inl (yt29.1, (Go.IntKind.wrap (Go.IntKind.i64 ) (yt29.2.1 + 1)), yt29.2.2.1, yt29.2.2.2.1, yt29.2.2.2.2))) none) none) none) none)) (
     (t29 (v77, v76, v77, x4.f0, x4.f1, x4.f2, x4.f3, x4.f4, x4.f5, x4.f6, x4.f7, x4.f8, x4.f9, x4.f10, x4.f11, x4.f12, x4.f13, x4.f14, r0, r448, r768)).bind fun q => match q with
     | (.inl yt29) =>
      some (.inr (.inl (yt29.1, yt29.2)))
     | (.inr yt29) =>
      some (.inl (yt29.1, (Go.IntKind.wrap (Go.IntKind.i64 ) (yt29.2.1 + 1)), yt29.2.2.1, yt29.2.2.2.1, yt29.2.2.2.2)))) none) (
   some (.inr (.inr (r0, r768))))
noncomputable def l4 (x : Int × Int × (List S53) × (List S72) × (List (List Int))) : Option ((Int × (List ByteArray)) ⊕ ((List S53) × (List (List Int)))) := lim l4.b x
theorem l4.eq : ∀ x, l4.b x = roundX (mkE tab es 218 [] [(29, some (tailO (cutOf t29.A t29.c) (cutsOf t29.xs t29.y) t29))]) (loopAt 4 code) (cutOf l4.A l4.c) (cutsOf l4.xs l4.y) x := fun x => by kernel_rfl
theorem l4.owed {R : Type} : owed (mkE (R := R) tab es 218 [] [(29, some (tailO (cutOf t29.A t29.c) (cutsOf t29.xs t29.y) t29))]) (loopAt 4 code) = [((tailAt 29 code), (tailO (R := _) (cutOf t29.A t29.c) (cutsOf t29.xs t29.y) t29))] := by kernel_rfl
theorem l4.ok (w0 : World) (M : Own) (h : Pinned M []) {R : Type} : SoundO prog w0 M 218 (.block 4 (.loop (loopAt 4 code))) (loopO (R := R) 4 (cutOf l4.A l4.c) (cutsOf l4.xs l4.y) l4) :=
  loop_ok tabOk uniOk mixed l4.eq (h.sub rfl) (h.sub rfl) fun x hx => by rw [l4.owed] at hx; rcases List.mem_cons.1 hx with rfl | hx; exact t29.ok w0 M h; exact absurd hx List.not_mem_nil

def l6.A : Ann := ⟨[(0, .slc 5000000 []), (20, .slc 5001280 []), (157, .slc 5010048 []), (158, .sc), (159, .sc)], [], [(5000000, false, 2), (5010048, true, 5), (5001280, true, 1)], []⟩
def l6.c : Cod uni (Int × Int × (List S53) × (List Int) × (List ByteArray)) := (codC (iInt .i64) (codC (iInt .i64) (codC (iRow 2) (codC (iRow 5) (cod1 (iRow 1))))))
def l6.xs : List (AExit × Ann) := [((.exit 6), ⟨[(20, .slc 5001280 [])], [], [(5001280, true, 1)], []⟩)]
def l6.y : Coy uni ((List ByteArray)) := (coy1 (cod1 (iRow 1)))
noncomputable def l6.b : Int × Int × (List S53) × (List Int) × (List ByteArray) → Option ((Int × Int × (List S53) × (List Int) × (List ByteArray)) ⊕ ((List ByteArray)))
  | (v158, v159, r0, r10048, r1280) =>
  cond (decide (v159 < v158)) (
   cond ((decide (0 ≤ v159)) && (decide (v159 < ((List.length r10048) : Int)))) (
    let x1 := (List.getD r10048 (Int.toNat v159) 0)
    cond ((decide (0 ≤ x1)) && (decide (x1 < ((List.length r0) : Int)))) (
     let x0 := ((List.getD r0 (Int.toNat x1) z53).f0 :: [])
     cond (decide (((List.length r1280) + (List.length x0)) ≤ 274877906944)) (
      some (.inl (v158, (Go.IntKind.wrap (Go.IntKind.i64 ) (v159 + 1)), r0, r10048, (r1280 ++ x0)))) none) none) none) (
   some (.inr r1280))
noncomputable def l6 (x : Int × Int × (List S53) × (List Int) × (List ByteArray)) : Option ((List ByteArray)) := lim l6.b x
theorem l6.eq : ∀ x, l6.b x = roundX (mkE tab es 218 [] []) (loopAt 6 code) (cutOf l6.A l6.c) (cutsOf l6.xs l6.y) x := fun x => by kernel_rfl
theorem l6.owed {R : Type} : owed (mkE (R := R) tab es 218 [] []) (loopAt 6 code) = [] := by kernel_rfl
theorem l6.ok (w0 : World) (M : Own) (h : Pinned M []) {R : Type} : SoundO prog w0 M 218 (.block 6 (.loop (loopAt 6 code))) (loopO (R := R) 6 (cutOf l6.A l6.c) (cutsOf l6.xs l6.y) l6) :=
  loop_ok tabOk uniOk mixed l6.eq (h.sub rfl) (h.sub rfl) fun x hx => by rw [l6.owed] at hx; exact absurd hx List.not_mem_nil

def l12.A : Ann := ⟨[(0, .slc 5000000 []), (12, .slc 5000768 []), (23, .slc 5001472 []), (24, .slc 5001536 []), (25, .sc), (26, .sc), (182, .sc), (183, .sc), (194, .slc 5000768 [0]), (195, .sc), (196, .sc)], [], [(5000000, false, 2), (5000768, true, 4), (5001472, true, 6), (5001536, true, 5)], []⟩
def l12.c : Cod uni (Int × Bool × Int × Int × Int × Int × Int × (List S53) × (List (List Int)) × (List Bool) × (List Int)) := (codC (iInt .i64) (codC iBool (codC (iInt .i64) (codC (iInt .i64) (codC (iInt .i64) (codC (iInt .i64) (codC (iInt .i64) (codC (iRow 2) (codC (iRow 4) (codC (iRow 6) (cod1 (iRow 5))))))))))))
def l12.xs : List (AExit × Ann) := [((.exit 12), ⟨[(0, .slc 5000000 []), (12, .slc 5000768 []), (23, .slc 5001472 []), (24, .slc 5001536 []), (25, .sc), (26, .sc), (182, .sc), (183, .sc)], [], [(5000000, false, 2), (5000768, true, 4), (5001472, true, 6), (5001536, true, 5)], []⟩)]
def l12.y : Coy uni ((Int × Bool × Int × Int × (List S53) × (List (List Int)) × (List Bool) × (List Int))) := (coy1 (codC (iInt .i64) (codC iBool (codC (iInt .i64) (codC (iInt .i64) (codC (iRow 2) (codC (iRow 4) (codC (iRow 6) (cod1 (iRow 5))))))))))
noncomputable def l12.b : Int × Bool × Int × Int × Int × Int × Int × (List S53) × (List (List Int)) × (List Bool) × (List Int) → Option ((Int × Bool × Int × Int × Int × Int × Int × (List S53) × (List (List Int)) × (List Bool) × (List Int)) ⊕ ((Int × Bool × Int × Int × (List S53) × (List (List Int)) × (List Bool) × (List Int))))
  | (v25, v26, v182, v183, v194i0, v195, v196, r0, r768, r1472, r1536) =>
  cond (decide (v196 < v195)) (
   let x1 := (List.getD r768 (Int.toNat v194i0) ([] : List Int))
   cond ((decide (0 ≤ v196)) && (decide (v196 < ((List.length x1) : Int)))) (
    let x0 := (List.getD x1 (Int.toNat v196) 0)
    cond ((!v26) || ((decide (0 ≤ x0)) && (decide (x0 < ((List.length r1472) : Int))))) (
     some (.inl (v25, (v26 && (List.getD r1472 (Int.toNat x0) false)), v182, v183, v194i0, v195, (Go.IntKind.wrap (Go.IntKind.i64 ) (v196 + 1)), r0, r768, r1472, r1536))) none) none) (
   some (.inr (v25, v26, v182, v183, r0, r768, r1472, r1536)))
noncomputable def l12 (x : Int × Bool × Int × Int × Int × Int × Int × (List S53) × (List (List Int)) × (List Bool) × (List Int)) : Option ((Int × Bool × Int × Int × (List S53) × (List (List Int)) × (List Bool) × (List Int))) := lim l12.b x
theorem l12.eq : ∀ x, l12.b x = roundX (mkE tab es 218 [] []) (loopAt 12 code) (cutOf l12.A l12.c) (cutsOf l12.xs l12.y) x := fun x => by kernel_rfl
theorem l12.owed {R : Type} : owed (mkE (R := R) tab es 218 [] []) (loopAt 12 code) = [] := by kernel_rfl
theorem l12.ok (w0 : World) (M : Own) (h : Pinned M []) {R : Type} : SoundO prog w0 M 218 (.block 12 (.loop (loopAt 12 code))) (loopO (R := R) 12 (cutOf l12.A l12.c) (cutsOf l12.xs l12.y) l12) :=
  loop_ok tabOk uniOk mixed l12.eq (h.sub rfl) (h.sub rfl) fun x hx => by rw [l12.owed] at hx; exact absurd hx List.not_mem_nil

def l10.A : Ann := ⟨[(0, .slc 5000000 []), (12, .slc 5000768 []), (23, .slc 5001472 []), (24, .slc 5001536 []), (182, .sc), (183, .sc)], [], [(5000000, false, 2), (5000768, true, 4), (5001472, true, 6), (5001536, true, 5)], []⟩
def l10.c : Cod uni (Int × Int × (List S53) × (List (List Int)) × (List Bool) × (List Int)) := (codC (iInt .i64) (codC (iInt .i64) (codC (iRow 2) (codC (iRow 4) (codC (iRow 6) (cod1 (iRow 5)))))))
def l10.xs : List (AExit × Ann) := [((.exit 10), ⟨[(0, .slc 5000000 []), (12, .slc 5000768 []), (23, .slc 5001472 []), (24, .slc 5001536 [])], [], [(5000000, false, 2), (5000768, true, 4), (5001472, true, 6), (5001536, true, 5)], []⟩)]
def l10.y : Coy uni (((List S53) × (List (List Int)) × (List Bool) × (List Int))) := (coy1 (codC (iRow 2) (codC (iRow 4) (codC (iRow 6) (cod1 (iRow 5))))))
noncomputable def l10.b : Int × Int × (List S53) × (List (List Int)) × (List Bool) × (List Int) → Option ((Int × Int × (List S53) × (List (List Int)) × (List Bool) × (List Int)) ⊕ (((List S53) × (List (List Int)) × (List Bool) × (List Int))))
  | (v182, v183, r0, r768, r1472, r1536) =>
  cond (decide (v183 < v182)) (
   cond ((decide (0 ≤ v183)) && (decide (v183 < ((List.length r1472) : Int)))) (
    cond ((decide (0 ≤ v183)) && (decide (v183 < ((List.length r768) : Int)))) (
     (l12 (v183, (!(List.getD r1472 (Int.toNat v183) false)), v182, v183, v183, ((List.length (List.getD r768 (Int.toNat v183) ([] : List Int))) : Int), 0, r0, r768, r1472, r1536)).bind fun yl12 =>
     cond yl12.2.1 (
      cond ((decide (0 ≤ yl12.1)) && (decide (yl12.1 < ((List.length yl12.2.2.2.2.2.2.1) : Int)))) (
       cond (decide (((List.length yl12.2.2.2.2.2.2.2) + (List.length (yl12.1 :: []))) ≤ 274877906944)) (
        some (.inr (yl12.2.2.2.2.1, yl12.2.2.2.2.2.1, (List.set yl12.2.2.2.2.2.2.1 (Int.toNat yl12.1) true), (yl12.2.2.2.2.2.2.2 ++ (yl12.1 :: []))))) none) none) (
      some (.inl (yl12.2.2.1, (Go.IntKind.wrap (Go.IntKind.i64 ) (yl12.2.2.2.1 + 1)), yl12.2.2.2.2.1, yl12.2.2.2.2.2.1, yl12.2.2.2.2.2.2.1, yl12.2.2.2.2.2.2.2)))) none) none) (
   some (.inr (r0, r768, r1472, r1536)))
noncomputable def l10 (x : Int × Int × (List S53) × (List (List Int)) × (List Bool) × (List Int)) : Option (((List S53) × (List (List Int)) × (List Bool) × (List Int))) := lim l10.b x
theorem l10.eq : ∀ x, l10.b x = roundX (mkE tab es 218 [(12, some (loopO 12 (cutOf l12.A l12.c) (cutsOf l12.xs l12.y) l12))] []) (loopAt 10 code) (cutOf l10.A l10.c) (cutsOf l10.xs l10.y) x := fun x => by kernel_rfl
theorem l10.owed {R : Type} : owed (mkE (R := R) tab es 218 [(12, some (loopO 12 (cutOf l12.A l12.c) (cutsOf l12.xs l12.y) l12))] []) (loopAt 10 code) = [((.block 12 (.loop (loopAt 12 code))), (loopO (R := _) 12 (cutOf l12.A l12.c) (cutsOf l12.xs l12.y) l12))] := by kernel_rfl
theorem l10.ok (w0 : World) (M : Own) (h : Pinned M []) {R : Type} : SoundO prog w0 M 218 (.block 10 (.loop (loopAt 10 code))) (loopO (R := R) 10 (cutOf l10.A l10.c) (cutsOf l10.xs l10.y) l10) :=
  loop_ok tabOk uniOk mixed l10.eq (h.sub rfl) (h.sub rfl) fun x hx => by rw [l10.owed] at hx; rcases List.mem_cons.1 hx with rfl | hx; exact l12.ok w0 M h; exact absurd hx List.not_mem_nil

def l8.A : Ann := ⟨[(0, .slc 5000000 []), (12, .slc 5000768 []), (23, .slc 5001472 []), (24, .slc 5001536 [])], [], [(5000000, false, 2), (5000768, true, 4), (5001472, true, 6), (5001536, true, 5)], []⟩
def l8.c : Cod uni ((List S53) × (List (List Int)) × (List Bool) × (List Int)) := (codC (iRow 2) (codC (iRow 4) (codC (iRow 6) (cod1 (iRow 5)))))
def l8.xs : List (AExit × Ann) := [((.exit 8), ⟨[(24, .slc 5001536 [])], [], [(5001536, true, 5)], []⟩)]
def l8.y : Coy uni ((List Int)) := (coy1 (cod1 (iRow 5)))
noncomputable def l8.b : (List S53) × (List (List Int)) × (List Bool) × (List Int) → Option (((List S53) × (List (List Int)) × (List Bool) × (List Int)) ⊕ ((List Int)))
  | (r0, r768, r1472, r1536) =>
  let x0 := ((List.length r0) : Int)
  cond (decide (((List.length r1536) : Int) < x0)) (
   (l10 (x0, 0, r0, r768, r1472, r1536)).bind fun yl10 =>
   some (.inl (yl10.1, yl10.2.1, yl10.2.2.1, yl10.2.2.2))) (
   some (.inr r1536))
noncomputable def l8 (x : (List S53) × (List (List Int)) × (List Bool) × (List Int)) : Option ((List Int)) := lim l8.b x
theorem l8.eq : ∀ x, l8.b x = roundX (mkE tab es 218 [(10, some (loopO 10 (cutOf l10.A l10.c) (cutsOf l10.xs l10.y) l10))] []) (loopAt 8 code) (cutOf l8.A l8.c) (cutsOf l8.xs l8.y) x := fun x => by kernel_rfl
theorem l8.owed {R : Type} : owed (mkE (R := R) tab es 218 [(10, some (loopO 10 (cutOf l10.A l10.c) (cutsOf l10.xs l10.y) l10))] []) (loopAt 8 code) = [((.block 10 (.loop (loopAt 10 code))), (loopO (R := _) 10 (cutOf l10.A l10.c) (cutsOf l10.xs l10.y) l10))] := by kernel_rfl
theorem l8.ok (w0 : World) (M : Own) (h : Pinned M []) {R : Type} : SoundO prog w0 M 218 (.block 8 (.loop (loopAt 8 code))) (loopO (R := R) 8 (cutOf l8.A l8.c) (cutsOf l8.xs l8.y) l8) :=
  loop_ok tabOk uniOk mixed l8.eq (h.sub rfl) (h.sub rfl) fun x hx => by rw [l8.owed] at hx; rcases List.mem_cons.1 hx with rfl | hx; exact l10.ok w0 M h; exact absurd hx List.not_mem_nil

noncomputable def F : (List S53) → Option (((List Int) × Int × (List ByteArray)))
  | p0 =>
  let x3 := ((List.length p0) : Int)
  cond (decide (x3 > 4096)) (
   some (([] : List Int), (2, ([] : List ByteArray)))) (
   cond (decide (x3 > 30)) (
    some (([] : List Int), (10, ([] : List ByteArray)))) (
    (l0 (x3, 0, p0)).bind fun q => match q with
    | (.inl yl0) =>
     some (([] : List Int), (yl0.1, yl0.2))
    | (.inr yl0) =>
     (l2 (((List.length yl0) : Int), 0, yl0, ([] : List S72))).bind fun q => match q with
     | (.inl yl2) =>
      some (([] : List Int), (yl2.1, yl2.2))
     | (.inr yl2) =>
      let x0 := ((List.length yl2.1) : Int)
      cond (((decide (0 ≤ x0)) && (decide (x0 ≤ x0))) && (decide (x0 ≤ 274877906944))) (
       (l4 (x0, 0, yl2.1, yl2.2, (List.replicate (Int.toNat x0) ([] : List Int)))).bind fun q => match q with
       | (.inl yl4) =>
        some (([] : List Int), (yl4.1, yl4.2))
       | (.inr yl4) =>
        (F42.F yl4.2).bind fun q => match q with
        | (.inl y42) =>
         let x1 := ((List.length yl4.1) : Int)
         cond (((decide (0 ≤ x1)) && (decide (x1 ≤ x1))) && (decide (x1 ≤ 274877906944))) (
          (l8 (yl4.1, yl4.2, (List.replicate (Int.toNat x1) false), ([] : List Int))).bind fun yl8 =>
          some (yl8, (0, ([] : List ByteArray)))) none
        | (.inr y42) =>
         let x2 := ((List.length y42) : Int)
         cond (decide (0 < x2)) (
          (l6 (x2, 0, yl4.1, y42, ([] : List ByteArray))).bind fun yl6 =>
          some (([] : List Int), (9, yl6))) none) none))
theorem F.eq : ∀ x, F x = runF (mkE tab es 218 [(0, some (loopO 0 (cutOf l0.A l0.c) (cutsOf l0.xs l0.y) l0)), (2, some (loopO 2 (cutOf l2.A l2.c) (cutsOf l2.xs l2.y) l2)), (4, some (loopO 4 (cutOf l4.A l4.c) (cutsOf l4.xs l4.y) l4)), (6, some (loopO 6 (cutOf l6.A l6.c) (cutsOf l6.xs l6.y) l6)), (8, some (loopO 8 (cutOf l8.A l8.c) (cutsOf l8.xs l8.y) l8))] []) code [.row 2 0] [.row 5, .sc, .row 1] [.tmp 2, .tmp 3, .tmp 4] (Coz.dec cr) (cp.enc x) := fun x => by kernel_rfl
theorem F.owed : owed (mkE (R := ((List Int) × Int × (List ByteArray))) tab es 218 [(0, some (loopO 0 (cutOf l0.A l0.c) (cutsOf l0.xs l0.y) l0)), (2, some (loopO 2 (cutOf l2.A l2.c) (cutsOf l2.xs l2.y) l2)), (4, some (loopO 4 (cutOf l4.A l4.c) (cutsOf l4.xs l4.y) l4)), (6, some (loopO 6 (cutOf l6.A l6.c) (cutsOf l6.xs l6.y) l6)), (8, some (loopO 8 (cutOf l8.A l8.c) (cutsOf l8.xs l8.y) l8))] []) code = [((.block 0 (.loop (loopAt 0 code))), (loopO (R := _) 0 (cutOf l0.A l0.c) (cutsOf l0.xs l0.y) l0)), ((.block 2 (.loop (loopAt 2 code))), (loopO (R := _) 2 (cutOf l2.A l2.c) (cutsOf l2.xs l2.y) l2)), ((.block 4 (.loop (loopAt 4 code))), (loopO (R := _) 4 (cutOf l4.A l4.c) (cutsOf l4.xs l4.y) l4)), ((.block 6 (.loop (loopAt 6 code))), (loopO (R := _) 6 (cutOf l6.A l6.c) (cutsOf l6.xs l6.y) l6)), ((.block 8 (.loop (loopAt 8 code))), (loopO (R := _) 8 (cutOf l8.A l8.c) (cutsOf l8.xs l8.y) l8))] := by kernel_rfl
theorem con : ∀ x y, F x = some y → Con prog 26 [.row 2 0] [.row 5, .sc, .row 1] (cp.enc x) (cr.enc y).1 (cr.enc y).2 :=
  func_ok (c := code) (n := 218) (pf := [.row 2 0]) (res := [.tmp 2, .tmp 3, .tmp 4]) tabOk uniOk mixed get (by kernel_rfl) (by kernel_rfl) (by kernel_rfl) (by decide) F.eq fun w0 M h x hx => by rw [F.owed] at hx; rcases List.mem_cons.1 hx with rfl | hx; exact l0.ok w0 M h; rcases List.mem_cons.1 hx with rfl | hx; exact l2.ok w0 M h; rcases List.mem_cons.1 hx with rfl | hx; exact l4.ok w0 M h; rcases List.mem_cons.1 hx with rfl | hx; exact l6.ok w0 M h; rcases List.mem_cons.1 hx with rfl | hx; exact l8.ok w0 M h; exact absurd hx List.not_mem_nil
noncomputable def ent : Ent prog uni := Ent.of 26 [.row 2 0] [.row 5, .sc, .row 1] cp cr F con fun args w => enters_of get (by kernel_rfl) rfl args w
end Go.Proofs.YtiogkndjoinpoaaDoor.AX.F26

/- The function 21 of the program in the small machine. No conditions. -/
namespace Go.Proofs.YtiogkndjoinpoaaDoor.AX.F21
open Go Go.Proofs.Tryd
noncomputable def code : Code := bodyOf f21
abbrev Y : Type := ((List ByteArray) × Int)
def cp : Cod uni ((List S53) × ByteArray) := (codC (iRow 2) (cod1 iStr))
def cr : Coz uni ((List ByteArray) × Int) := (cozR (codC (iRow 1) (cod1 (iInt .i64))) (codD (codD cod0)))
noncomputable def es : List (Ent prog uni) := [F35.ent, F26.ent]
theorem get : prog.funcs[21]? = some f21 := by kernel_rfl

def l0.A0 : Ann := ⟨[(0, .slc 5000000 []), (1, .sc), (9, .mref 5000576), (10, .nil), (28, .slc 5001792 []), (29, .sc), (30, .sc)], [], [(5000000, false, 2), (5000576, true, 7), (5001792, true, 5)], []⟩
def l0.c0 : Cod uni (ByteArray × Int × Int × (List S53) × (List S66) × (List Int)) := (codC iStr (codC (iInt .i64) (codC (iInt .i64) (codC (iRow 2) (codC (iRow 7) (cod1 (iRow 5)))))))
def l0.A1 : Ann := ⟨[(0, .slc 5000000 []), (1, .sc), (9, .mref 5000576), (10, .slc 5000640 []), (28, .slc 5001792 []), (29, .sc), (30, .sc)], [], [(5000000, false, 2), (5000576, true, 7), (5000640, true, 1), (5001792, true, 5)], []⟩
def l0.c1 : Cod uni (ByteArray × Int × Int × (List S53) × (List S66) × (List ByteArray) × (List Int)) := (codC iStr (codC (iInt .i64) (codC (iInt .i64) (codC (iRow 2) (codC (iRow 7) (codC (iRow 1) (cod1 (iRow 5))))))))
def l0.cut : Cut uni ((ByteArray × Int × Int × (List S53) × (List S66) × (List Int)) ⊕ (ByteArray × Int × Int × (List S53) × (List S66) × (List ByteArray) × (List Int))) := (cutOf l0.A0 l0.c0).or (cutOf l0.A1 l0.c1)
def l0.xs : List (AExit × Ann) := [((.exit 0), ⟨[(10, .nil)], [], [], []⟩), ((.exit 0), ⟨[(10, .slc 5000640 [])], [], [(5000640, true, 1)], []⟩)]
def l0.y : Coy uni (Unit ⊕ (List ByteArray)) := (coyS cod0 (coy1 (cod1 (iRow 1))))
noncomputable def l0.b : ((ByteArray × Int × Int × (List S53) × (List S66) × (List Int)) ⊕ (ByteArray × Int × Int × (List S53) × (List S66) × (List ByteArray) × (List Int))) → Option (((ByteArray × Int × Int × (List S53) × (List S66) × (List Int)) ⊕ (ByteArray × Int × Int × (List S53) × (List S66) × (List ByteArray) × (List Int))) ⊕ (Unit ⊕ (List ByteArray)))
  | (.inl (v1, v29, v30, r0, r576, r1792)) =>
  cond (decide (v30 < v29)) (
   cond ((decide (0 ≤ v30)) && (decide (v30 < ((List.length r1792) : Int)))) (
    let x5 := (List.getD r1792 (Int.toNat v30) 0)
    cond ((decide (0 ≤ x5)) && (decide (x5 < ((List.length r0) : Int)))) (
     let x3 := (List.getD r0 (Int.toNat x5) z53)
     let x0 := (ByteArray.toList x3.f0)
     let x1 := (ByteArray.toList x3.f1)
     let x2 := (ByteArray.toList x3.f2)
     let x4 := (Go.IntKind.wrap (Go.IntKind.i64 ) (v30 + 1))
     cond (((x0 == (ByteArray.toList v1)) || ((!(x1 == (ByteArray.toList (ByteArray.mk (Array.mk ([] : List UInt8)))))) && ((mfind (U := uni) 7 (fun (e : Go.Proofs.YtiogkndjoinpoaaDoor.AX.S66) => (x1 == (ByteArray.toList e.f0))) r576) : Go.Proofs.YtiogkndjoinpoaaDoor.AX.S66).f1)) || ((!(x2 == (ByteArray.toList (ByteArray.mk (Array.mk ([] : List UInt8)))))) && ((mfind (U := uni) 7 (fun (e : Go.Proofs.YtiogkndjoinpoaaDoor.AX.S66) => (x2 == (ByteArray.toList e.f0))) r576) : Go.Proofs.YtiogkndjoinpoaaDoor.AX.S66).f1)) (
      some (.inl (.inr (v1, v29, x4, r0, ((mput (U := uni) 7 (fun (e : Go.Proofs.YtiogkndjoinpoaaDoor.AX.S66) => (x0 == (ByteArray.toList e.f0))) (⟨x3.f0, true⟩ : S66) r576) : List Go.Proofs.YtiogkndjoinpoaaDoor.AX.S66), (x3.f0 :: []), r1792)))) (
      some (.inl (.inl (v1, v29, x4, r0, r576, r1792))))) none) none) (
   some (.inr (.inl ())))
  | (.inr (v1, v29, v30, r0, r576, r640, r1792)) =>
  cond (decide (v30 < v29)) (
   cond ((decide (0 ≤ v30)) && (decide (v30 < ((List.length r1792) : Int)))) (
    let x6 := (List.getD r1792 (Int.toNat v30) 0)
    cond ((decide (0 ≤ x6)) && (decide (x6 < ((List.length r0) : Int)))) (
     let x4 := (List.getD r0 (Int.toNat x6) z53)
     let x0 := (ByteArray.toList x4.f0)
     let x1 := (ByteArray.toList x4.f1)
     let x2 := (ByteArray.toList x4.f2)
     let x5 := (Go.IntKind.wrap (Go.IntKind.i64 ) (v30 + 1))
     cond (((x0 == (ByteArray.toList v1)) || ((!(x1 == (ByteArray.toList (ByteArray.mk (Array.mk ([] : List UInt8)))))) && ((mfind (U := uni) 7 (fun (e : Go.Proofs.YtiogkndjoinpoaaDoor.AX.S66) => (x1 == (ByteArray.toList e.f0))) r576) : Go.Proofs.YtiogkndjoinpoaaDoor.AX.S66).f1)) || ((!(x2 == (ByteArray.toList (ByteArray.mk (Array.mk ([] : List UInt8)))))) && ((mfind (U := uni) 7 (fun (e : Go.Proofs.YtiogkndjoinpoaaDoor.AX.S66) => (x2 == (ByteArray.toList e.f0))) r576) : Go.Proofs.YtiogkndjoinpoaaDoor.AX.S66).f1)) (
      let x3 := (x4.f0 :: [])
      cond (decide (((List.length r640) + (List.length x3)) ≤ 274877906944)) (
       some (.inl (.inr (v1, v29, x5, r0, ((mput (U := uni) 7 (fun (e : Go.Proofs.YtiogkndjoinpoaaDoor.AX.S66) => (x0 == (ByteArray.toList e.f0))) (⟨x4.f0, true⟩ : S66) r576) : List Go.Proofs.YtiogkndjoinpoaaDoor.AX.S66), (r640 ++ x3), r1792)))) none) (
      some (.inl (.inr (v1, v29, x5, r0, r576, r640, r1792))))) none) none) (
   some (.inr (.inr r640)))
noncomputable def l0 (x : (ByteArray × Int × Int × (List S53) × (List S66) × (List Int)) ⊕ (ByteArray × Int × Int × (List S53) × (List S66) × (List ByteArray) × (List Int))) : Option (Unit ⊕ (List ByteArray)) := lim l0.b x
theorem l0.eq : ∀ x, l0.b x = roundX (mkE tab es 76 [] []) (loopAt 0 code) l0.cut (cutsOf l0.xs l0.y) x := fun x => by rcases x with x | x <;> kernel_rfl
theorem l0.owed {R : Type} : owed (mkE (R := R) tab es 76 [] []) (loopAt 0 code) = [] := by kernel_rfl
theorem l0.ok (w0 : World) (M : Own) (h : Pinned M []) {R : Type} : SoundO prog w0 M 76 (.block 0 (.loop (loopAt 0 code))) (loopO (R := R) 0 l0.cut (cutsOf l0.xs l0.y) l0) :=
  loop_ok tabOk uniOk mixed l0.eq (h.sub rfl) (h.sub rfl) fun x hx => by rw [l0.owed] at hx; exact absurd hx List.not_mem_nil

noncomputable def F : ((List S53) × ByteArray) → Option (((List ByteArray) × Int))
  | (p0, p1) =>
  (F35.F (p0, (([] : List ByteArray), (p1 :: [])))).bind fun y35 =>
  cond y35 (
   some (([] : List ByteArray), 2)) (
   (F26.F p0).bind fun y26 =>
   cond (y26.2.1 != 0) (
    some (([] : List ByteArray), y26.2.1)) (
    (l0 (.inl (p1, ((List.length y26.1) : Int), 0, p0, ([] : List S66), y26.1))).bind fun q => match q with
    | (.inl yl0) =>
     some (([] : List ByteArray), 8)
    | (.inr yl0) =>
     cond (decide (0 < ((List.length yl0) : Int))) (
      some (yl0, 0)) none))
theorem F.eq : ∀ x, F x = runF (mkE tab es 76 [(0, some (loopO 0 l0.cut (cutsOf l0.xs l0.y) l0))] []) code [.row 2 0, .sc] [.row 1, .sc] [.tmp 4, .tmp 5] (Coz.dec cr) (cp.enc x) := fun x => by kernel_rfl
theorem F.owed : owed (mkE (R := ((List ByteArray) × Int)) tab es 76 [(0, some (loopO 0 l0.cut (cutsOf l0.xs l0.y) l0))] []) code = [((.block 0 (.loop (loopAt 0 code))), (loopO (R := _) 0 l0.cut (cutsOf l0.xs l0.y) l0))] := by kernel_rfl
theorem con : ∀ x y, F x = some y → Con prog 21 [.row 2 0, .sc] [.row 1, .sc] (cp.enc x) (cr.enc y).1 (cr.enc y).2 :=
  func_ok (c := code) (n := 76) (pf := [.row 2 0, .sc]) (res := [.tmp 4, .tmp 5]) tabOk uniOk mixed get (by kernel_rfl) (by kernel_rfl) (by kernel_rfl) (by decide) F.eq fun w0 M h x hx => by rw [F.owed] at hx; rcases List.mem_cons.1 hx with rfl | hx; exact l0.ok w0 M h; exact absurd hx List.not_mem_nil
noncomputable def ent : Ent prog uni := Ent.of 21 [.row 2 0, .sc] [.row 1, .sc] cp cr F con fun args w => enters_of get (by kernel_rfl) rfl args w
end Go.Proofs.YtiogkndjoinpoaaDoor.AX.F21

/- The function 10 of the program in the small machine. No conditions. -/
namespace Go.Proofs.YtiogkndjoinpoaaDoor.AX.F10
open Go Go.Proofs.Tryd
noncomputable def code : Code := bodyOf f10
abbrev Y : Type := Bool
def cp : Cod uni ((List ByteArray) × (List ByteArray)) := (codC (iRow 1) (cod1 (iRow 1)))
def cr : Coz uni Bool := (cozR (cod1 iBool) (codD (codD cod0)))
noncomputable def es : List (Ent prog uni) := []
theorem get : prog.funcs[10]? = some f10 := by kernel_rfl

def l0.A : Ann := ⟨[(0, .slc 5000000 []), (1, .slc 5000064 []), (5, .sc)], [], [(5000000, false, 1), (5000064, false, 1)], []⟩
def l0.c : Cod uni (Int × (List ByteArray) × (List ByteArray)) := (codC (iInt .i64) (codC (iRow 1) (cod1 (iRow 1))))
def l0.xs : List (AExit × Ann) := [(.ret, ⟨[(4, .sc)], [], [], []⟩), ((.exit 0), ⟨[], [], [], []⟩)]
def l0.y : Coy uni (Bool ⊕ Unit) := (coyS (cod1 iBool) (coy1 cod0))
noncomputable def l0.b : Int × (List ByteArray) × (List ByteArray) → Option ((Int × (List ByteArray) × (List ByteArray)) ⊕ (Bool ⊕ Unit))
  | (v5, r0, r64) =>
  let x0 := (decide (v5 < ((List.length r0) : Int)))
  cond x0 (
   cond ((decide (0 ≤ v5)) && x0) (
    cond ((decide (0 ≤ v5)) && (decide (v5 < ((List.length r64) : Int)))) (
     cond (!((ByteArray.toList (List.getD r0 (Int.toNat v5) (ByteArray.mk (Array.mk ([] : List UInt8))))) == (ByteArray.toList (List.getD r64 (Int.toNat v5) (ByteArray.mk (Array.mk ([] : List UInt8))))))) (
      some (.inr (.inl false))) (
      some (.inl ((Go.IntKind.wrap (Go.IntKind.i64 ) (v5 + 1)), r0, r64)))) none) none) (
   some (.inr (.inr ())))
noncomputable def l0 (x : Int × (List ByteArray) × (List ByteArray)) : Option (Bool ⊕ Unit) := lim l0.b x
theorem l0.eq : ∀ x, l0.b x = roundX (mkE tab es 26 [] []) (loopAt 0 code) (cutOf l0.A l0.c) (cutsOf l0.xs l0.y) x := fun x => by kernel_rfl
theorem l0.owed {R : Type} : owed (mkE (R := R) tab es 26 [] []) (loopAt 0 code) = [] := by kernel_rfl
theorem l0.ok (w0 : World) (M : Own) (h : Pinned M []) {R : Type} : SoundO prog w0 M 26 (.block 0 (.loop (loopAt 0 code))) (loopO (R := R) 0 (cutOf l0.A l0.c) (cutsOf l0.xs l0.y) l0) :=
  loop_ok tabOk uniOk mixed l0.eq (h.sub rfl) (h.sub rfl) fun x hx => by rw [l0.owed] at hx; exact absurd hx List.not_mem_nil

noncomputable def F : ((List ByteArray) × (List ByteArray)) → Option (Bool)
  | (p0, p1) =>
  cond (((List.length p0) : Int) != ((List.length p1) : Int)) (
   some false) (
   (l0 (0, p0, p1)).bind fun q => match q with
   | (.inl yl0) =>
    some yl0
   | (.inr yl0) =>
    some true)
theorem F.eq : ∀ x, F x = runF (mkE tab es 26 [(0, some (loopO 0 (cutOf l0.A l0.c) (cutsOf l0.xs l0.y) l0))] []) code [.row 1 0, .row 1 0] [.sc] [.tmp 4] (Coz.dec cr) (cp.enc x) := fun x => by kernel_rfl
theorem F.owed : owed (mkE (R := Bool) tab es 26 [(0, some (loopO 0 (cutOf l0.A l0.c) (cutsOf l0.xs l0.y) l0))] []) code = [((.block 0 (.loop (loopAt 0 code))), (loopO (R := _) 0 (cutOf l0.A l0.c) (cutsOf l0.xs l0.y) l0))] := by kernel_rfl
theorem con : ∀ x y, F x = some y → Con prog 10 [.row 1 0, .row 1 0] [.sc] (cp.enc x) (cr.enc y).1 (cr.enc y).2 :=
  func_ok (c := code) (n := 26) (pf := [.row 1 0, .row 1 0]) (res := [.tmp 4]) tabOk uniOk mixed get (by kernel_rfl) (by kernel_rfl) (by kernel_rfl) (by decide) F.eq fun w0 M h x hx => by rw [F.owed] at hx; rcases List.mem_cons.1 hx with rfl | hx; exact l0.ok w0 M h; exact absurd hx List.not_mem_nil
noncomputable def ent : Ent prog uni := Ent.of 10 [.row 1 0, .row 1 0] [.sc] cp cr F con fun args w => enters_of get (by kernel_rfl) rfl args w
end Go.Proofs.YtiogkndjoinpoaaDoor.AX.F10

/- The function 43 of the program in the small machine. No conditions. -/
namespace Go.Proofs.YtiogkndjoinpoaaDoor.AX.F43
open Go Go.Proofs.Tryd
noncomputable def code : Code := bodyOf f43
abbrev Y : Type := Bool
def cp : Cod uni ((Int × Int × Int × Int × Int × Int) × (Int × Int × Int × Int × Int × Int)) := (codC (iAgg (codC (iInt .i64) (codC (iInt .i64) (codC (iInt .i64) (codC (iInt .i64) (codC (iInt .i64) (cod1 (iInt .i64)))))))) (cod1 (iAgg (codC (iInt .i64) (codC (iInt .i64) (codC (iInt .i64) (codC (iInt .i64) (codC (iInt .i64) (cod1 (iInt .i64))))))))))
def cr : Coz uni Bool := (cozR (cod1 iBool) (codD (codD cod0)))
noncomputable def es : List (Ent prog uni) := []
theorem get : prog.funcs[43]? = some f43 := by kernel_rfl

noncomputable def F : ((Int × Int × Int × Int × Int × Int) × (Int × Int × Int × Int × Int × Int)) → Option (Bool)
  | ((p0_0, p0_1, p0_2, p0_3, p0_4, p0_5), (p1_0, p1_1, p1_2, p1_3, p1_4, p1_5)) =>
  cond (p0_0 != p1_0) (
   some false) (
   cond (p0_1 != p1_1) (
    some false) (
    cond (p0_2 != p1_2) (
     some false) (
     cond (p0_3 != p1_3) (
      some false) (
      cond (p0_4 != p1_4) (
       some false) (
       cond (p0_5 != p1_5) (
        some false) (
        some true))))))
theorem F.eq : ∀ x, F x = runF (mkE tab es 35 [] []) code [.agg [.sc, .sc, .sc, .sc, .sc, .sc], .agg [.sc, .sc, .sc, .sc, .sc, .sc]] [.sc] [.tmp 4] (Coz.dec cr) (cp.enc x) := fun x => by kernel_rfl
theorem F.owed : owed (mkE (R := Bool) tab es 35 [] []) code = [] := by kernel_rfl
theorem con : ∀ x y, F x = some y → Con prog 43 [.agg [.sc, .sc, .sc, .sc, .sc, .sc], .agg [.sc, .sc, .sc, .sc, .sc, .sc]] [.sc] (cp.enc x) (cr.enc y).1 (cr.enc y).2 :=
  func_ok (c := code) (n := 35) (pf := [.agg [.sc, .sc, .sc, .sc, .sc, .sc], .agg [.sc, .sc, .sc, .sc, .sc, .sc]]) (res := [.tmp 4]) tabOk uniOk mixed get (by kernel_rfl) (by kernel_rfl) (by kernel_rfl) (by decide) F.eq fun w0 M h x hx => by rw [F.owed] at hx; exact absurd hx List.not_mem_nil
noncomputable def ent : Ent prog uni := Ent.of 43 [.agg [.sc, .sc, .sc, .sc, .sc, .sc], .agg [.sc, .sc, .sc, .sc, .sc, .sc]] [.sc] cp cr F con fun args w => enters_of get (by kernel_rfl) rfl args w
end Go.Proofs.YtiogkndjoinpoaaDoor.AX.F43

/- The function 27 of the program in the small machine. No conditions. -/
namespace Go.Proofs.YtiogkndjoinpoaaDoor.AX.F27
open Go Go.Proofs.Tryd
noncomputable def code : Code := bodyOf f27
abbrev Y : Type := Bool
def cp : Cod uni ((ByteArray × ByteArray × ByteArray × Int × Int × Int × Int × Int × Int × Int × Int × Int × Int × Int × Int) × (ByteArray × ByteArray × ByteArray × Int × Int × Int × Int × Int × Int × Int × Int × Int × Int × Int × Int)) := (codC (iAgg (codC iStr (codC iStr (codC iStr (codC (iInt .i64) (codC (iInt .i64) (codC (iInt .i64) (codC (iInt .i64) (codC (iInt .i64) (codC (iInt .i64) (codC (iInt .i64) (codC (iInt .i64) (codC (iInt .i64) (codC (iInt .i64) (codC (iInt .i64) (cod1 (iInt .i64))))))))))))))))) (cod1 (iAgg (codC iStr (codC iStr (codC iStr (codC (iInt .i64) (codC (iInt .i64) (codC (iInt .i64) (codC (iInt .i64) (codC (iInt .i64) (codC (iInt .i64) (codC (iInt .i64) (codC (iInt .i64) (codC (iInt .i64) (codC (iInt .i64) (codC (iInt .i64) (cod1 (iInt .i64)))))))))))))))))))
def cr : Coz uni Bool := (cozR (cod1 iBool) (codD (codD cod0)))
noncomputable def es : List (Ent prog uni) := [F43.ent]
theorem get : prog.funcs[27]? = some f27 := by kernel_rfl

noncomputable def F : ((ByteArray × ByteArray × ByteArray × Int × Int × Int × Int × Int × Int × Int × Int × Int × Int × Int × Int) × (ByteArray × ByteArray × ByteArray × Int × Int × Int × Int × Int × Int × Int × Int × Int × Int × Int × Int)) → Option (Bool)
  | ((p0_0, p0_1, p0_2, p0_3, p0_4, p0_5, p0_6, p0_7, p0_8, p0_9, p0_10, p0_11, p0_12, p0_13, p0_14), (p1_0, p1_1, p1_2, p1_3, p1_4, p1_5, p1_6, p1_7, p1_8, p1_9, p1_10, p1_11, p1_12, p1_13, p1_14)) =>
  cond (!((ByteArray.toList p0_0) == (ByteArray.toList p1_0))) (
   some false) (
   cond (!((ByteArray.toList p0_1) == (ByteArray.toList p1_1))) (
    some false) (
    cond (!((ByteArray.toList p0_2) == (ByteArray.toList p1_2))) (
     some false) (
     cond (p0_3 != p1_3) (
      some false) (
      cond (p0_4 != p1_4) (
       some false) (
       (F43.F ((p0_5, (p0_6, (p0_7, (p0_8, (p0_9, p0_10))))), (p1_5, (p1_6, (p1_7, (p1_8, (p1_9, p1_10))))))).bind fun y43 =>
       cond (!y43) (
        some false) (
        cond (p0_11 != p1_11) (
         some false) (
         cond (p0_12 != p1_12) (
          some false) (
          cond (p0_13 != p1_13) (
           some false) (
           cond (p0_14 != p1_14) (
            some false) (
            some true))))))))))
theorem F.eq : ∀ x, F x = runF (mkE tab es 56 [] []) code [.agg [.sc, .sc, .sc, .sc, .sc, .sc, .sc, .sc, .sc, .sc, .sc, .sc, .sc, .sc, .sc], .agg [.sc, .sc, .sc, .sc, .sc, .sc, .sc, .sc, .sc, .sc, .sc, .sc, .sc, .sc, .sc]] [.sc] [.tmp 4] (Coz.dec cr) (cp.enc x) := fun x => by kernel_rfl
theorem F.owed : owed (mkE (R := Bool) tab es 56 [] []) code = [] := by kernel_rfl
theorem con : ∀ x y, F x = some y → Con prog 27 [.agg [.sc, .sc, .sc, .sc, .sc, .sc, .sc, .sc, .sc, .sc, .sc, .sc, .sc, .sc, .sc], .agg [.sc, .sc, .sc, .sc, .sc, .sc, .sc, .sc, .sc, .sc, .sc, .sc, .sc, .sc, .sc]] [.sc] (cp.enc x) (cr.enc y).1 (cr.enc y).2 :=
  func_ok (c := code) (n := 56) (pf := [.agg [.sc, .sc, .sc, .sc, .sc, .sc, .sc, .sc, .sc, .sc, .sc, .sc, .sc, .sc, .sc], .agg [.sc, .sc, .sc, .sc, .sc, .sc, .sc, .sc, .sc, .sc, .sc, .sc, .sc, .sc, .sc]]) (res := [.tmp 4]) tabOk uniOk mixed get (by kernel_rfl) (by kernel_rfl) (by kernel_rfl) (by decide) F.eq fun w0 M h x hx => by rw [F.owed] at hx; exact absurd hx List.not_mem_nil
noncomputable def ent : Ent prog uni := Ent.of 27 [.agg [.sc, .sc, .sc, .sc, .sc, .sc, .sc, .sc, .sc, .sc, .sc, .sc, .sc, .sc, .sc], .agg [.sc, .sc, .sc, .sc, .sc, .sc, .sc, .sc, .sc, .sc, .sc, .sc, .sc, .sc, .sc]] [.sc] cp cr F con fun args w => enters_of get (by kernel_rfl) rfl args w
end Go.Proofs.YtiogkndjoinpoaaDoor.AX.F27

/- The function 11 of the program in the small machine. No conditions. -/
namespace Go.Proofs.YtiogkndjoinpoaaDoor.AX.F11
open Go Go.Proofs.Tryd
noncomputable def code : Code := bodyOf f11
abbrev Y : Type := Bool
def cp : Cod uni ((List S53) × (List S53)) := (codC (iRow 2) (cod1 (iRow 2)))
def cr : Coz uni Bool := (cozR (cod1 iBool) (codD (codD cod0)))
noncomputable def es : List (Ent prog uni) := [F27.ent]
theorem get : prog.funcs[11]? = some f11 := by kernel_rfl

def l0.A : Ann := ⟨[(0, .slc 5000000 []), (1, .slc 5000064 []), (5, .sc)], [], [(5000000, false, 2), (5000064, false, 2)], []⟩
def l0.c : Cod uni (Int × (List S53) × (List S53)) := (codC (iInt .i64) (codC (iRow 2) (cod1 (iRow 2))))
def l0.xs : List (AExit × Ann) := [(.ret, ⟨[(4, .sc)], [], [], []⟩), ((.exit 0), ⟨[], [], [], []⟩)]
def l0.y : Coy uni (Bool ⊕ Unit) := (coyS (cod1 iBool) (coy1 cod0))
noncomputable def l0.b : Int × (List S53) × (List S53) → Option ((Int × (List S53) × (List S53)) ⊕ (Bool ⊕ Unit))
  | (v5, r0, r64) =>
  let x0 := (decide (v5 < ((List.length r0) : Int)))
  cond x0 (
   cond ((decide (0 ≤ v5)) && x0) (
    cond ((decide (0 ≤ v5)) && (decide (v5 < ((List.length r64) : Int)))) (
     let x1 := (List.getD r64 (Int.toNat v5) z53)
     let x2 := (List.getD r0 (Int.toNat v5) z53)
     (F27.F ((x2.f0, (x2.f1, (x2.f2, (x2.f3, (x2.f4, (x2.f5, (x2.f6, (x2.f7, (x2.f8, (x2.f9, (x2.f10, (x2.f11, (x2.f12, (x2.f13, x2.f14)))))))))))))), (x1.f0, (x1.f1, (x1.f2, (x1.f3, (x1.f4, (x1.f5, (x1.f6, (x1.f7, (x1.f8, (x1.f9, (x1.f10, (x1.f11, (x1.f12, (x1.f13, x1.f14)))))))))))))))).bind fun y27 =>
     cond (!y27) (
      some (.inr (.inl false))) (
      some (.inl ((Go.IntKind.wrap (Go.IntKind.i64 ) (v5 + 1)), r0, r64)))) none) none) (
   some (.inr (.inr ())))
noncomputable def l0 (x : Int × (List S53) × (List S53)) : Option (Bool ⊕ Unit) := lim l0.b x
theorem l0.eq : ∀ x, l0.b x = roundX (mkE tab es 27 [] []) (loopAt 0 code) (cutOf l0.A l0.c) (cutsOf l0.xs l0.y) x := fun x => by kernel_rfl
theorem l0.owed {R : Type} : owed (mkE (R := R) tab es 27 [] []) (loopAt 0 code) = [] := by kernel_rfl
theorem l0.ok (w0 : World) (M : Own) (h : Pinned M []) {R : Type} : SoundO prog w0 M 27 (.block 0 (.loop (loopAt 0 code))) (loopO (R := R) 0 (cutOf l0.A l0.c) (cutsOf l0.xs l0.y) l0) :=
  loop_ok tabOk uniOk mixed l0.eq (h.sub rfl) (h.sub rfl) fun x hx => by rw [l0.owed] at hx; exact absurd hx List.not_mem_nil

noncomputable def F : ((List S53) × (List S53)) → Option (Bool)
  | (p0, p1) =>
  cond (((List.length p0) : Int) != ((List.length p1) : Int)) (
   some false) (
   (l0 (0, p0, p1)).bind fun q => match q with
   | (.inl yl0) =>
    some yl0
   | (.inr yl0) =>
    some true)
theorem F.eq : ∀ x, F x = runF (mkE tab es 27 [(0, some (loopO 0 (cutOf l0.A l0.c) (cutsOf l0.xs l0.y) l0))] []) code [.row 2 0, .row 2 0] [.sc] [.tmp 4] (Coz.dec cr) (cp.enc x) := fun x => by kernel_rfl
theorem F.owed : owed (mkE (R := Bool) tab es 27 [(0, some (loopO 0 (cutOf l0.A l0.c) (cutsOf l0.xs l0.y) l0))] []) code = [((.block 0 (.loop (loopAt 0 code))), (loopO (R := _) 0 (cutOf l0.A l0.c) (cutsOf l0.xs l0.y) l0))] := by kernel_rfl
theorem con : ∀ x y, F x = some y → Con prog 11 [.row 2 0, .row 2 0] [.sc] (cp.enc x) (cr.enc y).1 (cr.enc y).2 :=
  func_ok (c := code) (n := 27) (pf := [.row 2 0, .row 2 0]) (res := [.tmp 4]) tabOk uniOk mixed get (by kernel_rfl) (by kernel_rfl) (by kernel_rfl) (by decide) F.eq fun w0 M h x hx => by rw [F.owed] at hx; rcases List.mem_cons.1 hx with rfl | hx; exact l0.ok w0 M h; exact absurd hx List.not_mem_nil
noncomputable def ent : Ent prog uni := Ent.of 11 [.row 2 0, .row 2 0] [.sc] cp cr F con fun args w => enters_of get (by kernel_rfl) rfl args w
end Go.Proofs.YtiogkndjoinpoaaDoor.AX.F11

/- The function 28 of the program in the small machine. No conditions. -/
namespace Go.Proofs.YtiogkndjoinpoaaDoor.AX.F28
open Go Go.Proofs.Tryd
noncomputable def code : Code := bodyOf f28
abbrev Y : Type := ByteArray
def cp : Cod uni Int := (cod1 (iInt .i64))
def cr : Coz uni ByteArray := (cozR (cod1 iStr) (codD cod0))
noncomputable def es : List (Ent prog uni) := []
theorem get : prog.funcs[28]? = some f28 := by kernel_rfl

def l0.A : Ann := ⟨[(0, .sc), (3, .sc)], [], [], []⟩
def l0.c : Cod uni (Int × ByteArray) := (codC (iInt .i64) (cod1 iStr))
def l0.xs : List (AExit × Ann) := [((.exit 0), ⟨[(3, .sc)], [], [], []⟩)]
def l0.y : Coy uni (ByteArray) := (coy1 (cod1 iStr))
noncomputable def l0.b : Int × ByteArray → Option ((Int × ByteArray) ⊕ (ByteArray))
  | (v0, v3) =>
  cond (decide (v0 > 0)) (
   let x0 := (strRow (U := uni) 3 ((Go.IntKind.wrap (Go.IntKind.u8 ) (Go.IntKind.wrap (Go.IntKind.i64 ) (48 + (Int.tmod v0 10)))) :: []))
   cond (decide (((ByteArray.size x0) + (ByteArray.size v3)) ≤ 274877906944)) (
    some (.inl ((Go.IntKind.wrap (Go.IntKind.i64 ) (Int.tdiv v0 10)), (x0 ++ v3)))) none) (
   some (.inr v3))
noncomputable def l0 (x : Int × ByteArray) : Option (ByteArray) := lim l0.b x
theorem l0.eq : ∀ x, l0.b x = roundX (mkE tab es 20 [] []) (loopAt 0 code) (cutOf l0.A l0.c) (cutsOf l0.xs l0.y) x := fun x => by kernel_rfl
theorem l0.owed {R : Type} : owed (mkE (R := R) tab es 20 [] []) (loopAt 0 code) = [] := by kernel_rfl
theorem l0.ok (w0 : World) (M : Own) (h : Pinned M []) {R : Type} : SoundO prog w0 M 20 (.block 0 (.loop (loopAt 0 code))) (loopO (R := R) 0 (cutOf l0.A l0.c) (cutsOf l0.xs l0.y) l0) :=
  loop_ok tabOk uniOk mixed l0.eq (h.sub rfl) (h.sub rfl) fun x hx => by rw [l0.owed] at hx; exact absurd hx List.not_mem_nil

noncomputable def F : Int → Option (ByteArray)
  | p0 =>
  cond (decide (p0 ≤ 0)) (
   some (ByteArray.mk (Array.mk (109 :: (48 :: []))))) (
   (l0 (p0, (ByteArray.mk (Array.mk ([] : List UInt8))))).bind fun yl0 =>
   cond (decide (((ByteArray.size (ByteArray.mk (Array.mk (109 :: [])))) + (ByteArray.size yl0)) ≤ 274877906944)) (
    some ((ByteArray.mk (Array.mk (109 :: []))) ++ yl0)) none)
theorem F.eq : ∀ x, F x = runF (mkE tab es 20 [(0, some (loopO 0 (cutOf l0.A l0.c) (cutsOf l0.xs l0.y) l0))] []) code [.sc] [.sc] [.tmp 2] (Coz.dec cr) (cp.enc x) := fun x => by kernel_rfl
theorem F.owed : owed (mkE (R := ByteArray) tab es 20 [(0, some (loopO 0 (cutOf l0.A l0.c) (cutsOf l0.xs l0.y) l0))] []) code = [((.block 0 (.loop (loopAt 0 code))), (loopO (R := _) 0 (cutOf l0.A l0.c) (cutsOf l0.xs l0.y) l0))] := by kernel_rfl
theorem con : ∀ x y, F x = some y → Con prog 28 [.sc] [.sc] (cp.enc x) (cr.enc y).1 (cr.enc y).2 :=
  func_ok (c := code) (n := 20) (pf := [.sc]) (res := [.tmp 2]) tabOk uniOk mixed get (by kernel_rfl) (by kernel_rfl) (by kernel_rfl) (by decide) F.eq fun w0 M h x hx => by rw [F.owed] at hx; rcases List.mem_cons.1 hx with rfl | hx; exact l0.ok w0 M h; exact absurd hx List.not_mem_nil
noncomputable def ent : Ent prog uni := Ent.of 28 [.sc] [.sc] cp cr F con fun args w => enters_of get (by kernel_rfl) rfl args w
end Go.Proofs.YtiogkndjoinpoaaDoor.AX.F28

/- The function 12 of the program in the small machine. No conditions. -/
namespace Go.Proofs.YtiogkndjoinpoaaDoor.AX.F12
open Go Go.Proofs.Tryd
noncomputable def code : Code := bodyOf f12
abbrev Y : Type := (Int × ((List S53) × Unit))
def cp : Cod uni ((List S53) × Int) := (codC (iRow 2) (cod1 (iInt .i64)))
def cr : Coz uni (Int × ((List S53) × Unit)) := (cozRM (cod1 (iInt .i64)) (codC (iRow 2) (codD cod0)))
noncomputable def es : List (Ent prog uni) := [F28.ent]
theorem get : prog.funcs[12]? = some f12 := by kernel_rfl

def t32.A : Ann := ⟨[(0, .slc 4194304 []), (1, .sc), (5, .sc)], [], [(4194304, true, 2)], [4194304]⟩
def t32.c : Cod uni (Int × Int × (List S53)) := (codC (iInt .i64) (codC (iInt .i64) (cod1 (iRow 2))))
def t32.xs : List (AExit × Ann) := [(.normal, ⟨[(0, .slc 4194304 []), (1, .sc), (5, .sc)], [], [(4194304, true, 2)], [4194304]⟩)]
def t32.y : Coy uni ((Int × Int × (List S53))) := (coy1 (codC (iInt .i64) (codC (iInt .i64) (cod1 (iRow 2)))))
noncomputable def t32 : Int × Int × (List S53) → Option ((Int × Int × (List S53)))
  | (v1, v5, r94304) =>
  cond ((decide (0 ≤ v5)) && (decide (v5 < ((List.length r94304) : Int)))) (
   let x0 := (List.getD r94304 (Int.toNat v5) z53)
   some ((Go.IntKind.wrap (Go.IntKind.i64 ) (v1 + 1)), v5, (List.set r94304 (Int.toNat v5) (⟨x0.f0, x0.f1, x0.f2, x0.f3, x0.f4, x0.f5, x0.f6, x0.f7, x0.f8, x0.f9, x0.f10, x0.f11, x0.f12, x0.f13, v1⟩ : S53)))) none
theorem t32.eq : ∀ x, t32 x = tailX (mkE tab es 127 [] []) (tailAt 32 code) (cutOf t32.A t32.c) (cutsOf t32.xs t32.y) x := fun x => by kernel_rfl
theorem t32.owed {R : Type} : owed (mkE (R := R) tab es 127 [] []) (tailAt 32 code) = [] := by kernel_rfl
theorem t32.ok (w0 : World) (M : Own) (h : Pinned M [4194304]) {R : Type} : SoundO prog w0 M 127 (tailAt 32 code) (tailO (R := R) (cutOf t32.A t32.c) (cutsOf t32.xs t32.y) t32) :=
  tail_ok tabOk uniOk mixed t32.eq (h.sub rfl) (h.sub rfl) fun x hx => by rw [t32.owed] at hx; exact absurd hx List.not_mem_nil

def t29.A : Ann := ⟨[(0, .slc 4194304 []), (1, .sc), (5, .sc)], [], [(4194304, true, 2)], [4194304]⟩
def t29.c : Cod uni (Int × Int × (List S53)) := (codC (iInt .i64) (codC (iInt .i64) (cod1 (iRow 2))))
def t29.xs : List (AExit × Ann) := [(.normal, ⟨[(0, .slc 4194304 []), (1, .sc), (5, .sc)], [], [(4194304, true, 2)], [4194304]⟩)]
def t29.y : Coy uni ((Int × Int × (List S53))) := (coy1 (codC (iInt .i64) (codC (iInt .i64) (cod1 (iRow 2)))))
noncomputable def t29 : Int × Int × (List S53) → Option ((Int × Int × (List S53)))
  | (v1, v5, r94304) =>
  cond ((decide (0 ≤ v5)) && (decide (v5 < ((List.length r94304) : Int)))) (
   let x0 := (Go.IntKind.wrap (Go.IntKind.i64 ) (v1 + 1))
   let x1 := (List.getD r94304 (Int.toNat v5) z53)
   (t32 ((Go.IntKind.wrap (Go.IntKind.i64 ) (x0 + 1)), v5, (List.set r94304 (Int.toNat v5) (⟨x1.f0, x1.f1, x1.f2, x1.f3, x1.f4, x1.f5, x1.f6, x1.f7, x1.f8, x1.f9, x1.f10, x1.f11, x1.f12, x0, x1.f14⟩ : S53)))).bind fun yt32 =>
   some (yt32.1, yt32.2.1, yt32.2.2)) none
theorem t29.eq : ∀ x, t29 x = tailX (mkE tab es 127 [] [(32, some (tailO (cutOf t32.A t32.c) (cutsOf t32.xs t32.y) t32))]) (tailAt 29 code) (cutOf t29.A t29.c) (cutsOf t29.xs t29.y) x := fun x => by kernel_rfl
theorem t29.owed {R : Type} : owed (mkE (R := R) tab es 127 [] [(32, some (tailO (cutOf t32.A t32.c) (cutsOf t32.xs t32.y) t32))]) (tailAt 29 code) = [((tailAt 32 code), (tailO (R := _) (cutOf t32.A t32.c) (cutsOf t32.xs t32.y) t32))] := by kernel_rfl
theorem t29.ok (w0 : World) (M : Own) (h : Pinned M [4194304]) {R : Type} : SoundO prog w0 M 127 (tailAt 29 code) (tailO (R := R) (cutOf t29.A t29.c) (cutsOf t29.xs t29.y) t29) :=
  tail_ok tabOk uniOk mixed t29.eq (h.sub rfl) (h.sub rfl) fun x hx => by rw [t29.owed] at hx; rcases List.mem_cons.1 hx with rfl | hx; exact t32.ok w0 M h; exact absurd hx List.not_mem_nil

def t26.A : Ann := ⟨[(0, .slc 4194304 []), (1, .sc), (5, .sc)], [], [(4194304, true, 2)], [4194304]⟩
def t26.c : Cod uni (Int × Int × (List S53)) := (codC (iInt .i64) (codC (iInt .i64) (cod1 (iRow 2))))
def t26.xs : List (AExit × Ann) := [(.normal, ⟨[(0, .slc 4194304 []), (1, .sc), (5, .sc)], [], [(4194304, true, 2)], [4194304]⟩)]
def t26.y : Coy uni ((Int × Int × (List S53))) := (coy1 (codC (iInt .i64) (codC (iInt .i64) (cod1 (iRow 2)))))
noncomputable def t26 : Int × Int × (List S53) → Option ((Int × Int × (List S53)))
  | (v1, v5, r94304) =>
  cond ((decide (0 ≤ v5)) && (decide (v5 < ((List.length r94304) : Int)))) (
   let x3 := (List.getD r94304 (Int.toNat v5) z53)
   let x1 := (List.set r94304 (Int.toNat v5) (⟨x3.f0, x3.f1, x3.f2, x3.f3, x3.f4, x3.f5, x3.f6, x3.f7, x3.f8, x3.f9, x3.f10, v1, x3.f12, x3.f13, x3.f14⟩ : S53))
   cond ((decide (0 ≤ v5)) && (decide (v5 < ((List.length x1) : Int)))) (
    let x0 := (List.getD x1 (Int.toNat v5) z53)
    let x2 := (Go.IntKind.wrap (Go.IntKind.i64 ) (v1 + 1))
    (t29 (x2, v5, (List.set x1 (Int.toNat v5) (⟨x0.f0, x0.f1, x0.f2, x0.f3, x0.f4, x0.f5, x0.f6, x0.f7, x0.f8, x0.f9, x0.f10, x0.f11, x2, x0.f13, x0.f14⟩ : S53)))).bind fun yt29 =>
    some (yt29.1, yt29.2.1, yt29.2.2)) none) none
theorem t26.eq : ∀ x, t26 x = tailX (mkE tab es 127 [] [(29, some (tailO (cutOf t29.A t29.c) (cutsOf t29.xs t29.y) t29))]) (tailAt 26 code) (cutOf t26.A t26.c) (cutsOf t26.xs t26.y) x := fun x => by kernel_rfl
theorem t26.owed {R : Type} : owed (mkE (R := R) tab es 127 [] [(29, some (tailO (cutOf t29.A t29.c) (cutsOf t29.xs t29.y) t29))]) (tailAt 26 code) = [((tailAt 29 code), (tailO (R := _) (cutOf t29.A t29.c) (cutsOf t29.xs t29.y) t29))] := by kernel_rfl
theorem t26.ok (w0 : World) (M : Own) (h : Pinned M [4194304]) {R : Type} : SoundO prog w0 M 127 (tailAt 26 code) (tailO (R := R) (cutOf t26.A t26.c) (cutsOf t26.xs t26.y) t26) :=
  tail_ok tabOk uniOk mixed t26.eq (h.sub rfl) (h.sub rfl) fun x hx => by rw [t26.owed] at hx; rcases List.mem_cons.1 hx with rfl | hx; exact t29.ok w0 M h; exact absurd hx List.not_mem_nil

def t23.A : Ann := ⟨[(0, .slc 4194304 []), (1, .sc), (5, .sc)], [], [(4194304, true, 2)], [4194304]⟩
def t23.c : Cod uni (Int × Int × (List S53)) := (codC (iInt .i64) (codC (iInt .i64) (cod1 (iRow 2))))
def t23.xs : List (AExit × Ann) := [(.normal, ⟨[(0, .slc 4194304 []), (1, .sc), (5, .sc)], [], [(4194304, true, 2)], [4194304]⟩)]
def t23.y : Coy uni ((Int × Int × (List S53))) := (coy1 (codC (iInt .i64) (codC (iInt .i64) (cod1 (iRow 2)))))
noncomputable def t23 : Int × Int × (List S53) → Option ((Int × Int × (List S53)))
  | (v1, v5, r94304) =>
  cond ((decide (0 ≤ v5)) && (decide (v5 < ((List.length r94304) : Int)))) (
   let x0 := (Go.IntKind.wrap (Go.IntKind.i64 ) (v1 + 1))
   let x1 := (List.getD r94304 (Int.toNat v5) z53)
   (t26 ((Go.IntKind.wrap (Go.IntKind.i64 ) (x0 + 1)), v5, (List.set r94304 (Int.toNat v5) (⟨x1.f0, x1.f1, x1.f2, x1.f3, x1.f4, x1.f5, x1.f6, x1.f7, x1.f8, x1.f9, x0, x1.f11, x1.f12, x1.f13, x1.f14⟩ : S53)))).bind fun yt26 =>
   some (yt26.1, yt26.2.1, yt26.2.2)) none
theorem t23.eq : ∀ x, t23 x = tailX (mkE tab es 127 [] [(26, some (tailO (cutOf t26.A t26.c) (cutsOf t26.xs t26.y) t26))]) (tailAt 23 code) (cutOf t23.A t23.c) (cutsOf t23.xs t23.y) x := fun x => by kernel_rfl
theorem t23.owed {R : Type} : owed (mkE (R := R) tab es 127 [] [(26, some (tailO (cutOf t26.A t26.c) (cutsOf t26.xs t26.y) t26))]) (tailAt 23 code) = [((tailAt 26 code), (tailO (R := _) (cutOf t26.A t26.c) (cutsOf t26.xs t26.y) t26))] := by kernel_rfl
theorem t23.ok (w0 : World) (M : Own) (h : Pinned M [4194304]) {R : Type} : SoundO prog w0 M 127 (tailAt 23 code) (tailO (R := R) (cutOf t23.A t23.c) (cutsOf t23.xs t23.y) t23) :=
  tail_ok tabOk uniOk mixed t23.eq (h.sub rfl) (h.sub rfl) fun x hx => by rw [t23.owed] at hx; rcases List.mem_cons.1 hx with rfl | hx; exact t26.ok w0 M h; exact absurd hx List.not_mem_nil

def t20.A : Ann := ⟨[(0, .slc 4194304 []), (1, .sc), (5, .sc)], [], [(4194304, true, 2)], [4194304]⟩
def t20.c : Cod uni (Int × Int × (List S53)) := (codC (iInt .i64) (codC (iInt .i64) (cod1 (iRow 2))))
def t20.xs : List (AExit × Ann) := [(.normal, ⟨[(0, .slc 4194304 []), (1, .sc), (5, .sc)], [], [(4194304, true, 2)], [4194304]⟩)]
def t20.y : Coy uni ((Int × Int × (List S53))) := (coy1 (codC (iInt .i64) (codC (iInt .i64) (cod1 (iRow 2)))))
noncomputable def t20 : Int × Int × (List S53) → Option ((Int × Int × (List S53)))
  | (v1, v5, r94304) =>
  cond ((decide (0 ≤ v5)) && (decide (v5 < ((List.length r94304) : Int)))) (
   let x3 := (List.getD r94304 (Int.toNat v5) z53)
   let x1 := (List.set r94304 (Int.toNat v5) (⟨x3.f0, x3.f1, x3.f2, x3.f3, x3.f4, x3.f5, x3.f6, x3.f7, v1, x3.f9, x3.f10, x3.f11, x3.f12, x3.f13, x3.f14⟩ : S53))
   cond ((decide (0 ≤ v5)) && (decide (v5 < ((List.length x1) : Int)))) (
    let x0 := (List.getD x1 (Int.toNat v5) z53)
    let x2 := (Go.IntKind.wrap (Go.IntKind.i64 ) (v1 + 1))
    (t23 (x2, v5, (List.set x1 (Int.toNat v5) (⟨x0.f0, x0.f1, x0.f2, x0.f3, x0.f4, x0.f5, x0.f6, x0.f7, x0.f8, x2, x0.f10, x0.f11, x0.f12, x0.f13, x0.f14⟩ : S53)))).bind fun yt23 =>
    some (yt23.1, yt23.2.1, yt23.2.2)) none) none
theorem t20.eq : ∀ x, t20 x = tailX (mkE tab es 127 [] [(23, some (tailO (cutOf t23.A t23.c) (cutsOf t23.xs t23.y) t23))]) (tailAt 20 code) (cutOf t20.A t20.c) (cutsOf t20.xs t20.y) x := fun x => by kernel_rfl
theorem t20.owed {R : Type} : owed (mkE (R := R) tab es 127 [] [(23, some (tailO (cutOf t23.A t23.c) (cutsOf t23.xs t23.y) t23))]) (tailAt 20 code) = [((tailAt 23 code), (tailO (R := _) (cutOf t23.A t23.c) (cutsOf t23.xs t23.y) t23))] := by kernel_rfl
theorem t20.ok (w0 : World) (M : Own) (h : Pinned M [4194304]) {R : Type} : SoundO prog w0 M 127 (tailAt 20 code) (tailO (R := R) (cutOf t20.A t20.c) (cutsOf t20.xs t20.y) t20) :=
  tail_ok tabOk uniOk mixed t20.eq (h.sub rfl) (h.sub rfl) fun x hx => by rw [t20.owed] at hx; rcases List.mem_cons.1 hx with rfl | hx; exact t23.ok w0 M h; exact absurd hx List.not_mem_nil

def t17.A : Ann := ⟨[(0, .slc 4194304 []), (1, .sc), (5, .sc)], [], [(4194304, true, 2)], [4194304]⟩
def t17.c : Cod uni (Int × Int × (List S53)) := (codC (iInt .i64) (codC (iInt .i64) (cod1 (iRow 2))))
def t17.xs : List (AExit × Ann) := [(.normal, ⟨[(0, .slc 4194304 []), (1, .sc), (5, .sc)], [], [(4194304, true, 2)], [4194304]⟩)]
def t17.y : Coy uni ((Int × Int × (List S53))) := (coy1 (codC (iInt .i64) (codC (iInt .i64) (cod1 (iRow 2)))))
noncomputable def t17 : Int × Int × (List S53) → Option ((Int × Int × (List S53)))
  | (v1, v5, r94304) =>
  cond ((decide (0 ≤ v5)) && (decide (v5 < ((List.length r94304) : Int)))) (
   let x0 := (Go.IntKind.wrap (Go.IntKind.i64 ) (v1 + 1))
   let x1 := (List.getD r94304 (Int.toNat v5) z53)
   (t20 ((Go.IntKind.wrap (Go.IntKind.i64 ) (x0 + 1)), v5, (List.set r94304 (Int.toNat v5) (⟨x1.f0, x1.f1, x1.f2, x1.f3, x1.f4, x1.f5, x1.f6, x0, x1.f8, x1.f9, x1.f10, x1.f11, x1.f12, x1.f13, x1.f14⟩ : S53)))).bind fun yt20 =>
   some (yt20.1, yt20.2.1, yt20.2.2)) none
theorem t17.eq : ∀ x, t17 x = tailX (mkE tab es 127 [] [(20, some (tailO (cutOf t20.A t20.c) (cutsOf t20.xs t20.y) t20))]) (tailAt 17 code) (cutOf t17.A t17.c) (cutsOf t17.xs t17.y) x := fun x => by kernel_rfl
theorem t17.owed {R : Type} : owed (mkE (R := R) tab es 127 [] [(20, some (tailO (cutOf t20.A t20.c) (cutsOf t20.xs t20.y) t20))]) (tailAt 17 code) = [((tailAt 20 code), (tailO (R := _) (cutOf t20.A t20.c) (cutsOf t20.xs t20.y) t20))] := by kernel_rfl
theorem t17.ok (w0 : World) (M : Own) (h : Pinned M [4194304]) {R : Type} : SoundO prog w0 M 127 (tailAt 17 code) (tailO (R := R) (cutOf t17.A t17.c) (cutsOf t17.xs t17.y) t17) :=
  tail_ok tabOk uniOk mixed t17.eq (h.sub rfl) (h.sub rfl) fun x hx => by rw [t17.owed] at hx; rcases List.mem_cons.1 hx with rfl | hx; exact t20.ok w0 M h; exact absurd hx List.not_mem_nil

def t14.A : Ann := ⟨[(0, .slc 4194304 []), (1, .sc), (5, .sc)], [], [(4194304, true, 2)], [4194304]⟩
def t14.c : Cod uni (Int × Int × (List S53)) := (codC (iInt .i64) (codC (iInt .i64) (cod1 (iRow 2))))
def t14.xs : List (AExit × Ann) := [(.normal, ⟨[(0, .slc 4194304 []), (1, .sc), (5, .sc)], [], [(4194304, true, 2)], [4194304]⟩)]
def t14.y : Coy uni ((Int × Int × (List S53))) := (coy1 (codC (iInt .i64) (codC (iInt .i64) (cod1 (iRow 2)))))
noncomputable def t14 : Int × Int × (List S53) → Option ((Int × Int × (List S53)))
  | (v1, v5, r94304) =>
  cond ((decide (0 ≤ v5)) && (decide (v5 < ((List.length r94304) : Int)))) (
   let x3 := (List.getD r94304 (Int.toNat v5) z53)
   let x1 := (List.set r94304 (Int.toNat v5) (⟨x3.f0, x3.f1, x3.f2, x3.f3, x3.f4, v1, x3.f6, x3.f7, x3.f8, x3.f9, x3.f10, x3.f11, x3.f12, x3.f13, x3.f14⟩ : S53))
   cond ((decide (0 ≤ v5)) && (decide (v5 < ((List.length x1) : Int)))) (
    let x0 := (List.getD x1 (Int.toNat v5) z53)
    let x2 := (Go.IntKind.wrap (Go.IntKind.i64 ) (v1 + 1))
    (t17 (x2, v5, (List.set x1 (Int.toNat v5) (⟨x0.f0, x0.f1, x0.f2, x0.f3, x0.f4, x0.f5, x2, x0.f7, x0.f8, x0.f9, x0.f10, x0.f11, x0.f12, x0.f13, x0.f14⟩ : S53)))).bind fun yt17 =>
    some (yt17.1, yt17.2.1, yt17.2.2)) none) none
theorem t14.eq : ∀ x, t14 x = tailX (mkE tab es 127 [] [(17, some (tailO (cutOf t17.A t17.c) (cutsOf t17.xs t17.y) t17))]) (tailAt 14 code) (cutOf t14.A t14.c) (cutsOf t14.xs t14.y) x := fun x => by kernel_rfl
theorem t14.owed {R : Type} : owed (mkE (R := R) tab es 127 [] [(17, some (tailO (cutOf t17.A t17.c) (cutsOf t17.xs t17.y) t17))]) (tailAt 14 code) = [((tailAt 17 code), (tailO (R := _) (cutOf t17.A t17.c) (cutsOf t17.xs t17.y) t17))] := by kernel_rfl
theorem t14.ok (w0 : World) (M : Own) (h : Pinned M [4194304]) {R : Type} : SoundO prog w0 M 127 (tailAt 14 code) (tailO (R := R) (cutOf t14.A t14.c) (cutsOf t14.xs t14.y) t14) :=
  tail_ok tabOk uniOk mixed t14.eq (h.sub rfl) (h.sub rfl) fun x hx => by rw [t14.owed] at hx; rcases List.mem_cons.1 hx with rfl | hx; exact t17.ok w0 M h; exact absurd hx List.not_mem_nil

def t11.A : Ann := ⟨[(0, .slc 4194304 []), (1, .sc), (5, .sc)], [], [(4194304, true, 2)], [4194304]⟩
def t11.c : Cod uni (Int × Int × (List S53)) := (codC (iInt .i64) (codC (iInt .i64) (cod1 (iRow 2))))
def t11.xs : List (AExit × Ann) := [(.normal, ⟨[(0, .slc 4194304 []), (1, .sc), (5, .sc)], [], [(4194304, true, 2)], [4194304]⟩)]
def t11.y : Coy uni ((Int × Int × (List S53))) := (coy1 (codC (iInt .i64) (codC (iInt .i64) (cod1 (iRow 2)))))
noncomputable def t11 : Int × Int × (List S53) → Option ((Int × Int × (List S53)))
  | (v1, v5, r94304) =>
  cond ((decide (0 ≤ v5)) && (decide (v5 < ((List.length r94304) : Int)))) (
   let x0 := (Go.IntKind.wrap (Go.IntKind.i64 ) (v1 + 1))
   let x1 := (List.getD r94304 (Int.toNat v5) z53)
   (t14 ((Go.IntKind.wrap (Go.IntKind.i64 ) (x0 + 1)), v5, (List.set r94304 (Int.toNat v5) (⟨x1.f0, x1.f1, x1.f2, x1.f3, x0, x1.f5, x1.f6, x1.f7, x1.f8, x1.f9, x1.f10, x1.f11, x1.f12, x1.f13, x1.f14⟩ : S53)))).bind fun yt14 =>
   some (yt14.1, yt14.2.1, yt14.2.2)) none
theorem t11.eq : ∀ x, t11 x = tailX (mkE tab es 127 [] [(14, some (tailO (cutOf t14.A t14.c) (cutsOf t14.xs t14.y) t14))]) (tailAt 11 code) (cutOf t11.A t11.c) (cutsOf t11.xs t11.y) x := fun x => by kernel_rfl
theorem t11.owed {R : Type} : owed (mkE (R := R) tab es 127 [] [(14, some (tailO (cutOf t14.A t14.c) (cutsOf t14.xs t14.y) t14))]) (tailAt 11 code) = [((tailAt 14 code), (tailO (R := _) (cutOf t14.A t14.c) (cutsOf t14.xs t14.y) t14))] := by kernel_rfl
theorem t11.ok (w0 : World) (M : Own) (h : Pinned M [4194304]) {R : Type} : SoundO prog w0 M 127 (tailAt 11 code) (tailO (R := R) (cutOf t11.A t11.c) (cutsOf t11.xs t11.y) t11) :=
  tail_ok tabOk uniOk mixed t11.eq (h.sub rfl) (h.sub rfl) fun x hx => by rw [t11.owed] at hx; rcases List.mem_cons.1 hx with rfl | hx; exact t14.ok w0 M h; exact absurd hx List.not_mem_nil

def t8.A : Ann := ⟨[(0, .slc 4194304 []), (1, .sc), (5, .sc)], [], [(4194304, true, 2)], [4194304]⟩
def t8.c : Cod uni (Int × Int × (List S53)) := (codC (iInt .i64) (codC (iInt .i64) (cod1 (iRow 2))))
def t8.xs : List (AExit × Ann) := [(.normal, ⟨[(0, .slc 4194304 []), (1, .sc), (5, .sc)], [], [(4194304, true, 2)], [4194304]⟩)]
def t8.y : Coy uni ((Int × Int × (List S53))) := (coy1 (codC (iInt .i64) (codC (iInt .i64) (cod1 (iRow 2)))))
noncomputable def t8 : Int × Int × (List S53) → Option ((Int × Int × (List S53)))
  | (v1, v5, r94304) =>
  (F28.F v1).bind fun y28 =>
  cond ((decide (0 ≤ v5)) && (decide (v5 < ((List.length r94304) : Int)))) (
   let x3 := (List.getD r94304 (Int.toNat v5) z53)
   let x1 := (List.set r94304 (Int.toNat v5) (⟨x3.f0, x3.f1, y28, x3.f3, x3.f4, x3.f5, x3.f6, x3.f7, x3.f8, x3.f9, x3.f10, x3.f11, x3.f12, x3.f13, x3.f14⟩ : S53))
   cond ((decide (0 ≤ v5)) && (decide (v5 < ((List.length x1) : Int)))) (
    let x0 := (List.getD x1 (Int.toNat v5) z53)
    let x2 := (Go.IntKind.wrap (Go.IntKind.i64 ) (v1 + 1))
    (t11 (x2, v5, (List.set x1 (Int.toNat v5) (⟨x0.f0, x0.f1, x0.f2, x2, x0.f4, x0.f5, x0.f6, x0.f7, x0.f8, x0.f9, x0.f10, x0.f11, x0.f12, x0.f13, x0.f14⟩ : S53)))).bind fun yt11 =>
    some (yt11.1, yt11.2.1, yt11.2.2)) none) none
theorem t8.eq : ∀ x, t8 x = tailX (mkE tab es 127 [] [(11, some (tailO (cutOf t11.A t11.c) (cutsOf t11.xs t11.y) t11))]) (tailAt 8 code) (cutOf t8.A t8.c) (cutsOf t8.xs t8.y) x := fun x => by kernel_rfl
theorem t8.owed {R : Type} : owed (mkE (R := R) tab es 127 [] [(11, some (tailO (cutOf t11.A t11.c) (cutsOf t11.xs t11.y) t11))]) (tailAt 8 code) = [((tailAt 11 code), (tailO (R := _) (cutOf t11.A t11.c) (cutsOf t11.xs t11.y) t11))] := by kernel_rfl
theorem t8.ok (w0 : World) (M : Own) (h : Pinned M [4194304]) {R : Type} : SoundO prog w0 M 127 (tailAt 8 code) (tailO (R := R) (cutOf t8.A t8.c) (cutsOf t8.xs t8.y) t8) :=
  tail_ok tabOk uniOk mixed t8.eq (h.sub rfl) (h.sub rfl) fun x hx => by rw [t8.owed] at hx; rcases List.mem_cons.1 hx with rfl | hx; exact t11.ok w0 M h; exact absurd hx List.not_mem_nil

def l0.A : Ann := ⟨[(0, .slc 4194304 []), (1, .sc), (5, .sc)], [], [(4194304, true, 2)], [4194304]⟩
def l0.c : Cod uni (Int × Int × (List S53)) := (codC (iInt .i64) (codC (iInt .i64) (cod1 (iRow 2))))
def l0.xs : List (AExit × Ann) := [((.exit 0), ⟨[(0, .slc 4194304 []), (1, .sc)], [], [(4194304, true, 2)], [4194304]⟩)]
def l0.y : Coy uni ((Int × (List S53))) := (coy1 (codC (iInt .i64) (cod1 (iRow 2))))
noncomputable def l0.b : Int × Int × (List S53) → Option ((Int × Int × (List S53)) ⊕ ((Int × (List S53))))
  | (v1, v5, r94304) =>
  let x2 := (decide (v5 < ((List.length r94304) : Int)))
  cond x2 (
   (F28.F v1).bind fun y28 =>
   cond ((decide (0 ≤ v5)) && x2) (
    let x3 := (Go.IntKind.wrap (Go.IntKind.i64 ) (v1 + 1))
    (F28.F x3).bind fun y28x2 =>
    let x4 := (List.getD r94304 (Int.toNat v5) z53)
    let x1 := (List.set r94304 (Int.toNat v5) (⟨y28, x4.f1, x4.f2, x4.f3, x4.f4, x4.f5, x4.f6, x4.f7, x4.f8, x4.f9, x4.f10, x4.f11, x4.f12, x4.f13, x4.f14⟩ : S53))
    cond ((decide (0 ≤ v5)) && (decide (v5 < ((List.length x1) : Int)))) (
     let x0 := (List.getD x1 (Int.toNat v5) z53)
     (t8 ((Go.IntKind.wrap (Go.IntKind.i64 ) (x3 + 1)), v5, (List.set x1 (Int.toNat v5) (⟨x0.f0, y28x2, x0.f2, x0.f3, x0.f4, x0.f5, x0.f6, x0.f7, x0.f8, x0.f9, x0.f10, x0.f11, x0.f12, x0.f13, x0.f14⟩ : S53)))).bind fun yt8 =>
     some (.inl (yt8.1, (Go.IntKind.wrap (Go.IntKind.i64 ) (yt8.2.1 + 1)), yt8.2.2))) none) none) (
   some (.inr (v1, r94304)))
noncomputable def l0 (x : Int × Int × (List S53)) : Option ((Int × (List S53))) := lim l0.b x
theorem l0.eq : ∀ x, l0.b x = roundX (mkE tab es 127 [] [(8, some (tailO (cutOf t8.A t8.c) (cutsOf t8.xs t8.y) t8))]) (loopAt 0 code) (cutOf l0.A l0.c) (cutsOf l0.xs l0.y) x := fun x => by kernel_rfl
theorem l0.owed {R : Type} : owed (mkE (R := R) tab es 127 [] [(8, some (tailO (cutOf t8.A t8.c) (cutsOf t8.xs t8.y) t8))]) (loopAt 0 code) = [((tailAt 8 code), (tailO (R := _) (cutOf t8.A t8.c) (cutsOf t8.xs t8.y) t8))] := by kernel_rfl
theorem l0.ok (w0 : World) (M : Own) (h : Pinned M [4194304]) {R : Type} : SoundO prog w0 M 127 (.block 0 (.loop (loopAt 0 code))) (loopO (R := R) 0 (cutOf l0.A l0.c) (cutsOf l0.xs l0.y) l0) :=
  loop_ok tabOk uniOk mixed l0.eq (h.sub rfl) (h.sub rfl) fun x hx => by rw [l0.owed] at hx; rcases List.mem_cons.1 hx with rfl | hx; exact t8.ok w0 M h; exact absurd hx List.not_mem_nil

noncomputable def F : ((List S53) × Int) → Option ((Int × ((List S53) × Unit)))
  | (p0, p1) =>
  (l0 (p1, 0, p0)).bind fun yl0 =>
  some (yl0.1, (yl0.2, ()))
theorem F.eq : ∀ x, F x = runF (mkE tab es 127 [(0, some (loopO 0 (cutOf l0.A l0.c) (cutsOf l0.xs l0.y) l0))] []) code [.row 2 1, .sc] [.sc] [.tmp 4] (Coz.dec cr) (cp.enc x) := fun x => by kernel_rfl
theorem F.owed : owed (mkE (R := (Int × ((List S53) × Unit))) tab es 127 [(0, some (loopO 0 (cutOf l0.A l0.c) (cutsOf l0.xs l0.y) l0))] []) code = [((.block 0 (.loop (loopAt 0 code))), (loopO (R := _) 0 (cutOf l0.A l0.c) (cutsOf l0.xs l0.y) l0))] := by kernel_rfl
theorem con : ∀ x y, F x = some y → Con prog 12 [.row 2 1, .sc] [.sc] (cp.enc x) (cr.enc y).1 (cr.enc y).2 :=
  func_ok (c := code) (n := 127) (pf := [.row 2 1, .sc]) (res := [.tmp 4]) tabOk uniOk mixed get (by kernel_rfl) (by kernel_rfl) (by kernel_rfl) (by decide) F.eq fun w0 M h x hx => by rw [F.owed] at hx; rcases List.mem_cons.1 hx with rfl | hx; exact l0.ok w0 M h; exact absurd hx List.not_mem_nil
noncomputable def ent : Ent prog uni := Ent.of 12 [.row 2 1, .sc] [.sc] cp cr F con fun args w => enters_of get (by kernel_rfl) rfl args w
end Go.Proofs.YtiogkndjoinpoaaDoor.AX.F12

/- The function 13 of the program in the small machine. No conditions. -/
namespace Go.Proofs.YtiogkndjoinpoaaDoor.AX.F13
open Go Go.Proofs.Tryd
noncomputable def code : Code := bodyOf f13
abbrev Y : Type := (Int × ((List ByteArray) × Unit))
def cp : Cod uni ((List ByteArray) × Int) := (codC (iRow 1) (cod1 (iInt .i64)))
def cr : Coz uni (Int × ((List ByteArray) × Unit)) := (cozRM (cod1 (iInt .i64)) (codC (iRow 1) (codD cod0)))
noncomputable def es : List (Ent prog uni) := [F28.ent]
theorem get : prog.funcs[13]? = some f13 := by kernel_rfl

def l0.A : Ann := ⟨[(0, .slc 4194304 []), (1, .sc), (5, .sc)], [], [(4194304, true, 1)], [4194304]⟩
def l0.c : Cod uni (Int × Int × (List ByteArray)) := (codC (iInt .i64) (codC (iInt .i64) (cod1 (iRow 1))))
def l0.xs : List (AExit × Ann) := [((.exit 0), ⟨[(0, .slc 4194304 []), (1, .sc)], [], [(4194304, true, 1)], [4194304]⟩)]
def l0.y : Coy uni ((Int × (List ByteArray))) := (coy1 (codC (iInt .i64) (cod1 (iRow 1))))
noncomputable def l0.b : Int × Int × (List ByteArray) → Option ((Int × Int × (List ByteArray)) ⊕ ((Int × (List ByteArray))))
  | (v1, v5, r94304) =>
  let x0 := (decide (v5 < ((List.length r94304) : Int)))
  cond x0 (
   (F28.F v1).bind fun y28 =>
   cond ((decide (0 ≤ v5)) && x0) (
    some (.inl ((Go.IntKind.wrap (Go.IntKind.i64 ) (v1 + 1)), (Go.IntKind.wrap (Go.IntKind.i64 ) (v5 + 1)), (List.set r94304 (Int.toNat v5) y28)))) none) (
   some (.inr (v1, r94304)))
noncomputable def l0 (x : Int × Int × (List ByteArray)) : Option ((Int × (List ByteArray))) := lim l0.b x
theorem l0.eq : ∀ x, l0.b x = roundX (mkE tab es 20 [] []) (loopAt 0 code) (cutOf l0.A l0.c) (cutsOf l0.xs l0.y) x := fun x => by kernel_rfl
theorem l0.owed {R : Type} : owed (mkE (R := R) tab es 20 [] []) (loopAt 0 code) = [] := by kernel_rfl
theorem l0.ok (w0 : World) (M : Own) (h : Pinned M [4194304]) {R : Type} : SoundO prog w0 M 20 (.block 0 (.loop (loopAt 0 code))) (loopO (R := R) 0 (cutOf l0.A l0.c) (cutsOf l0.xs l0.y) l0) :=
  loop_ok tabOk uniOk mixed l0.eq (h.sub rfl) (h.sub rfl) fun x hx => by rw [l0.owed] at hx; exact absurd hx List.not_mem_nil

noncomputable def F : ((List ByteArray) × Int) → Option ((Int × ((List ByteArray) × Unit)))
  | (p0, p1) =>
  (l0 (p1, 0, p0)).bind fun yl0 =>
  some (yl0.1, (yl0.2, ()))
theorem F.eq : ∀ x, F x = runF (mkE tab es 20 [(0, some (loopO 0 (cutOf l0.A l0.c) (cutsOf l0.xs l0.y) l0))] []) code [.row 1 1, .sc] [.sc] [.tmp 4] (Coz.dec cr) (cp.enc x) := fun x => by kernel_rfl
theorem F.owed : owed (mkE (R := (Int × ((List ByteArray) × Unit))) tab es 20 [(0, some (loopO 0 (cutOf l0.A l0.c) (cutsOf l0.xs l0.y) l0))] []) code = [((.block 0 (.loop (loopAt 0 code))), (loopO (R := _) 0 (cutOf l0.A l0.c) (cutsOf l0.xs l0.y) l0))] := by kernel_rfl
theorem con : ∀ x y, F x = some y → Con prog 13 [.row 1 1, .sc] [.sc] (cp.enc x) (cr.enc y).1 (cr.enc y).2 :=
  func_ok (c := code) (n := 20) (pf := [.row 1 1, .sc]) (res := [.tmp 4]) tabOk uniOk mixed get (by kernel_rfl) (by kernel_rfl) (by kernel_rfl) (by decide) F.eq fun w0 M h x hx => by rw [F.owed] at hx; rcases List.mem_cons.1 hx with rfl | hx; exact l0.ok w0 M h; exact absurd hx List.not_mem_nil
noncomputable def ent : Ent prog uni := Ent.of 13 [.row 1 1, .sc] [.sc] cp cr F con fun args w => enters_of get (by kernel_rfl) rfl args w
end Go.Proofs.YtiogkndjoinpoaaDoor.AX.F13

/- The function 14 of the program in the small machine. No conditions. -/
namespace Go.Proofs.YtiogkndjoinpoaaDoor.AX.F14
open Go Go.Proofs.Tryd
noncomputable def code : Code := bodyOf f14
abbrev Y : Type := Int
def cp : Cod uni ((List ByteArray) × Int) := (codC (iRow 1) (cod1 (iInt .i64)))
def cr : Coz uni Int := (cozR (cod1 (iInt .i64)) (codD (codD cod0)))
noncomputable def es : List (Ent prog uni) := [F28.ent]
theorem get : prog.funcs[14]? = some f14 := by kernel_rfl

def l0.A : Ann := ⟨[(0, .slc 5000000 []), (1, .sc), (5, .sc)], [], [(5000000, false, 1)], []⟩
def l0.c : Cod uni (Int × Int × (List ByteArray)) := (codC (iInt .i64) (codC (iInt .i64) (cod1 (iRow 1))))
def l0.xs : List (AExit × Ann) := [(.ret, ⟨[(4, .sc)], [], [], []⟩), ((.exit 0), ⟨[(1, .sc)], [], [], []⟩)]
def l0.y : Coy uni (Int ⊕ Int) := (coyS (cod1 (iInt .i64)) (coy1 (cod1 (iInt .i64))))
noncomputable def l0.b : Int × Int × (List ByteArray) → Option ((Int × Int × (List ByteArray)) ⊕ (Int ⊕ Int))
  | (v1, v5, r0) =>
  let x0 := (decide (v5 < ((List.length r0) : Int)))
  cond x0 (
   cond ((decide (0 ≤ v5)) && x0) (
    (F28.F v1).bind fun y28 =>
    cond (!((ByteArray.toList (List.getD r0 (Int.toNat v5) (ByteArray.mk (Array.mk ([] : List UInt8))))) == (ByteArray.toList y28))) (
     some (.inr (.inl (-1)))) (
     some (.inl ((Go.IntKind.wrap (Go.IntKind.i64 ) (v1 + 1)), (Go.IntKind.wrap (Go.IntKind.i64 ) (v5 + 1)), r0)))) none) (
   some (.inr (.inr v1)))
noncomputable def l0 (x : Int × Int × (List ByteArray)) : Option (Int ⊕ Int) := lim l0.b x
theorem l0.eq : ∀ x, l0.b x = roundX (mkE tab es 22 [] []) (loopAt 0 code) (cutOf l0.A l0.c) (cutsOf l0.xs l0.y) x := fun x => by kernel_rfl
theorem l0.owed {R : Type} : owed (mkE (R := R) tab es 22 [] []) (loopAt 0 code) = [] := by kernel_rfl
theorem l0.ok (w0 : World) (M : Own) (h : Pinned M []) {R : Type} : SoundO prog w0 M 22 (.block 0 (.loop (loopAt 0 code))) (loopO (R := R) 0 (cutOf l0.A l0.c) (cutsOf l0.xs l0.y) l0) :=
  loop_ok tabOk uniOk mixed l0.eq (h.sub rfl) (h.sub rfl) fun x hx => by rw [l0.owed] at hx; exact absurd hx List.not_mem_nil

noncomputable def F : ((List ByteArray) × Int) → Option (Int)
  | (p0, p1) =>
  (l0 (p1, 0, p0)).bind fun q => match q with
  | (.inl yl0) =>
   some yl0
  | (.inr yl0) =>
   some yl0
theorem F.eq : ∀ x, F x = runF (mkE tab es 22 [(0, some (loopO 0 (cutOf l0.A l0.c) (cutsOf l0.xs l0.y) l0))] []) code [.row 1 0, .sc] [.sc] [.tmp 4] (Coz.dec cr) (cp.enc x) := fun x => by kernel_rfl
theorem F.owed : owed (mkE (R := Int) tab es 22 [(0, some (loopO 0 (cutOf l0.A l0.c) (cutsOf l0.xs l0.y) l0))] []) code = [((.block 0 (.loop (loopAt 0 code))), (loopO (R := _) 0 (cutOf l0.A l0.c) (cutsOf l0.xs l0.y) l0))] := by kernel_rfl
theorem con : ∀ x y, F x = some y → Con prog 14 [.row 1 0, .sc] [.sc] (cp.enc x) (cr.enc y).1 (cr.enc y).2 :=
  func_ok (c := code) (n := 22) (pf := [.row 1 0, .sc]) (res := [.tmp 4]) tabOk uniOk mixed get (by kernel_rfl) (by kernel_rfl) (by kernel_rfl) (by decide) F.eq fun w0 M h x hx => by rw [F.owed] at hx; rcases List.mem_cons.1 hx with rfl | hx; exact l0.ok w0 M h; exact absurd hx List.not_mem_nil
noncomputable def ent : Ent prog uni := Ent.of 14 [.row 1 0, .sc] [.sc] cp cr F con fun args w => enters_of get (by kernel_rfl) rfl args w
end Go.Proofs.YtiogkndjoinpoaaDoor.AX.F14

/- The function 5 of the program in the small machine. No conditions. -/
namespace Go.Proofs.YtiogkndjoinpoaaDoor.AX.F5
open Go Go.Proofs.Tryd
noncomputable def code : Code := bodyOf f5
abbrev Y : Type := Bool
def cp : Cod uni ((List S45) × ByteArray) := (codC (iRow 0) (cod1 iStr))
def cr : Coz uni Bool := (cozR (cod1 iBool) (codD (codD cod0)))
noncomputable def es : List (Ent prog uni) := [F6.ent, F8.ent, F20.ent, F21.ent, F10.ent, F11.ent, F12.ent, F13.ent, F14.ent]
theorem get : prog.funcs[5]? = some f5 := by kernel_rfl

noncomputable def F : ((List S45) × ByteArray) → Option (Bool)
  | (p0, p1) =>
  cond (decide (((ByteArray.size p1) : Int) > 1048576)) (
   some true) (
   (F6.F (p0, 1048576)).bind fun y6 =>
   cond (decide (y6 < 0)) (
    some true) (
    (F8.F p0).bind fun y8 =>
    (F20.F (y8, p1)).bind fun y20 =>
    (F8.F p0).bind fun y8x2 =>
    (F21.F (y8x2, p1)).bind fun y21 =>
    let x0 := (F10.F (y21.1, y20.1))
    x0.bind fun y10 =>
    cond ((!y10) || (y21.2 != y20.2)) (
     some false) (
     (F8.F p0).bind fun y8x3 =>
     (F11.F (y8x2, y8x3)).bind fun y11 =>
     cond (!y11) (
      some false) (
      (F12.F (y8x2, 1)).bind fun y12 =>
      cond (!(decide (y12.1 < 0))) (
       x0.bind fun y10x2 =>
       cond (((decide (y12.1 < 0)) || (!y10x2)) || (y21.2 != y20.2)) (
        some false) (
        (F13.F (y21.1, 1)).bind fun y13 =>
        (F14.F (y13.2.1, 1)).bind fun y14 =>
        cond (decide (y14 < 0)) (
         some false) (
         cond (y14 != y13.1) (
          some false) (
          (F8.F p0).bind fun y8x4 =>
          (F21.F (y8x4, p1)).bind fun y21x2 =>
          (F10.F (y21x2.1, y20.1)).bind fun y10x3 =>
          cond ((!y10x3) || (y21x2.2 != y20.2)) (
           some false) (
           (F14.F (y13.2.1, 1)).bind fun y14x2 =>
           cond (decide (y14x2 < 0)) (
            some false) (
            cond (y14x2 != y13.1) (
             some false) (
             some true))))))) (
       cond (((decide (y12.1 < 0)) || true) || (y21.2 != y20.2)) (
        some false) (
        (F13.F (y21.1, 1)).bind fun y13 =>
        (F14.F (y13.2.1, 1)).bind fun y14 =>
        cond (decide (y14 < 0)) (
         some false) (
         cond (y14 != y13.1) (
          some false) (
          (F8.F p0).bind fun y8x4 =>
          (F21.F (y8x4, p1)).bind fun y21x2 =>
          (F10.F (y21x2.1, y20.1)).bind fun y10x2 =>
          cond ((!y10x2) || (y21x2.2 != y20.2)) (
           some false) (
           (F14.F (y13.2.1, 1)).bind fun y14x2 =>
           cond (decide (y14x2 < 0)) (
            some false) (
            cond (y14x2 != y13.1) (
             some false) (
             some true)))))))))))
theorem F.eq : ∀ x, F x = runF (mkE tab es 104 [] []) code [.row 0 0, .sc] [.sc] [.tmp 4] (Coz.dec cr) (cp.enc x) := fun x => by kernel_rfl
theorem F.owed : owed (mkE (R := Bool) tab es 104 [] []) code = [] := by kernel_rfl
theorem con : ∀ x y, F x = some y → Con prog 5 [.row 0 0, .sc] [.sc] (cp.enc x) (cr.enc y).1 (cr.enc y).2 :=
  func_ok (c := code) (n := 104) (pf := [.row 0 0, .sc]) (res := [.tmp 4]) tabOk uniOk mixed get (by kernel_rfl) (by kernel_rfl) (by kernel_rfl) (by decide) F.eq fun w0 M h x hx => by rw [F.owed] at hx; exact absurd hx List.not_mem_nil
noncomputable def ent : Ent prog uni := Ent.of 5 [.row 0 0, .sc] [.sc] cp cr F con fun args w => enters_of get (by kernel_rfl) rfl args w
end Go.Proofs.YtiogkndjoinpoaaDoor.AX.F5

/- Circles of a graph in which each one leads to one at most. No conditions. -/
namespace Go.Proofs.YtiogkndjoinpoaaDoor.AX

theorem pigeon : ∀ (n : Nat) (g : Nat → Nat), (∀ i, i ≤ n → g i < n) → ∃ i j, i < j ∧ j ≤ n ∧ g i = g j
  | 0, g, h => absurd (h 0 (Nat.le_refl 0)) (by omega)
  | n + 1, g, h => by
    by_cases hc : ∃ i, i ≤ n ∧ g i = g (n + 1)
    · obtain ⟨i, hi, he⟩ := hc
      exact ⟨i, n + 1, by omega, Nat.le_refl _, he⟩
    · have hne : ∀ i, i ≤ n → g i ≠ g (n + 1) := fun i hi he => hc ⟨i, hi, he⟩
      obtain ⟨i, j, h1, h2, h3⟩ := pigeon n (fun i => if g i = n then g (n + 1) else g i) (fun i hi => by
        have a := h i (by omega)
        have b := h (n + 1) (Nat.le_refl _)
        have c := hne i hi
        split <;> omega)
      have a := hne i (by omega)
      have b := hne j (by omega)
      refine ⟨i, j, h1, by omega, ?_⟩
      split at h3 <;> split at h3 <;> omega

/-- k steps from a. -/
def it (f : Nat → Option Nat) : Nat → Nat → Option Nat
  | 0, a => some a
  | k + 1, a => (f a).bind (it f k)

theorem it_add (f : Nat → Option Nat) : ∀ (k l a : Nat), it f (k + l) a = (it f k a).bind (it f l)
  | 0, l, a => by rw [Nat.zero_add]; rfl
  | k + 1, l, a => by
    rw [show k + 1 + l = (k + l) + 1 by omega]
    unfold it
    cases f a with
    | none => rfl
    | some b => exact it_add f k l b

theorem it_succ (f : Nat → Option Nat) (k a : Nat) : it f (k + 1) a = (it f k a).bind f := by
  rw [it_add]
  cases it f k a with
  | none => rfl
  | some b =>
    show it f 1 b = f b
    unfold it
    cases f b <;> rfl

/-- d is the number of steps (one at least) from a to s, 0: never. -/
def IsD (f : Nat → Option Nat) (s a d : Nat) : Prop := (d = 0 → ∀ k, 1 ≤ k → it f k a ≠ some s) ∧ (0 < d → it f d a = some s ∧ ∀ j, 1 ≤ j → j < d → it f j a ≠ some s)

theorem IsD.uniq {f : Nat → Option Nat} {s a d e : Nat} (h : IsD f s a d) (g : IsD f s a e) : d = e := by
  by_cases hd : d = 0
  · by_cases he : e = 0
    · omega
    · exact absurd (g.2 (by omega)).1 (h.1 hd e (by omega))
  · by_cases he : e = 0
    · exact absurd (h.2 (by omega)).1 (g.1 he d (by omega))
    · have h2 := h.2 (by omega)
      have g2 := g.2 (by omega)
      rcases Nat.lt_trichotomy d e with hl | hl | hl
      · exact absurd h2.1 (g2.2 d (by omega) hl)
      · exact hl
      · exact absurd g2.1 (h2.2 e (by omega) hl)

/-- One step on, it is one step less. -/
theorem IsD.step {f : Nat → Option Nat} {s a d : Nat} (h : IsD f s a (d + 1)) (hd : 0 < d) : ∃ b, f a = some b ∧ IsD f s b d := by
  obtain ⟨h1, h2⟩ := h.2 (by omega)
  cases hf : f a with
  | none => unfold it at h1; rw [hf] at h1; cases h1
  | some b =>
    have hb : ∀ k, it f (k + 1) a = it f k b := fun k => by show (f a).bind _ = _; rw [hf]; rfl
    refine ⟨b, rfl, ⟨fun h => by omega, fun _ => ⟨by rw [← hb]; exact h1, fun j j1 j2 e => ?_⟩⟩⟩
    exact h2 (j + 1) (by omega) (by omega) (by rw [hb]; exact e)

/-- Where the way comes to one it has met, it never comes to s. -/
theorem it_never {f : Nat → Option Nat} {s m j : Nat} (hj : 1 ≤ j) (hm : j ≤ m) (he : it f (m + 1) s = it f j s) (hn : ∀ k, 1 ≤ k → k ≤ m → it f k s ≠ some s) : ∀ k, 1 ≤ k → it f k s ≠ some s := by
  intro k
  induction k using Nat.strongRecOn with
  | ind k ih =>
    intro h1
    by_cases hk : k ≤ m
    · exact hn k h1 hk
    · have : it f k s = it f (k - (m + 1 - j)) s := by
        have e1 : k = (m + 1) + (k - (m + 1)) := by omega
        have e2 : k - (m + 1 - j) = j + (k - (m + 1)) := by omega
        rw [e2, it_add, ← he, ← it_add, ← e1]
      rw [this]
      exact ih _ (by omega) (by omega)

theorem it_none {f : Nat → Option Nat} {a m : Nat} (h : it f m a = none) : ∀ k, m ≤ k → it f k a = none := by
  intro k hk
  rw [show k = m + (k - m) by omega, it_add, h]
  rfl

/-- With no circle and one that is not done there is one that is not done and leads to none that is not done. -/
theorem some_ready {f : Nat → Option Nat} {n : Nat} (hf : ∀ i j, f i = some j → j < n) (hn : ∀ s, s < n → ∀ k, 1 ≤ k → it f k s ≠ some s) (done : Nat → Bool) {i : Nat} (hi : i < n) (hd : done i = false) :
    ∃ a, a < n ∧ done a = false ∧ ∀ b, f a = some b → done b = true := by
  apply Classical.byContradiction
  intro hc
  have key : ∀ a, a < n → done a = false → ∃ b, f a = some b ∧ b < n ∧ done b = false := fun a ha hd => by
    apply Classical.byContradiction
    intro h
    apply hc
    refine ⟨a, ha, hd, fun b hb => ?_⟩
    cases hdb : done b with
    | true => rfl
    | false => exact absurd ⟨b, hb, hf a b hb, hdb⟩ h
  have run : ∀ k, ∃ b, it f k i = some b ∧ b < n ∧ done b = false := by
    intro k
    induction k with
    | zero => exact ⟨i, rfl, hi, hd⟩
    | succ k ih =>
      obtain ⟨b, h1, h2, h3⟩ := ih
      obtain ⟨c, g1, g2, g3⟩ := key b h2 h3
      exact ⟨c, by rw [it_succ, h1]; exact g1, g2, g3⟩
  obtain ⟨p, q, h1, h2, h3⟩ := pigeon n (fun k => (it f k i).getD 0) (fun k _ => by
    obtain ⟨b, e, hb, _⟩ := run k
    rw [e]
    exact hb)
  obtain ⟨x, ex, hx, _⟩ := run p
  obtain ⟨y, ey, hy, _⟩ := run q
  rw [ex, ey] at h3
  have hxy : x = y := h3
  subst hxy
  refine hn x hx (q - p) (by omega) ?_
  have : it f q i = it f (q - p) x := by
    rw [show q = p + (q - p) by omega, it_add, ex]
    simp
  rw [← this]; exact ey

end Go.Proofs.YtiogkndjoinpoaaDoor.AX

/- Small facts for plain laws. No conditions. -/
namespace Go.Proofs.YtiogkndjoinpoaaDoor.AX
open Go

theorem w64 {x : Int} (h0 : -9223372036854775808 ≤ x) (h1 : x < 9223372036854775808) : IntKind.wrap .i64 x = x := by
  unfold IntKind.wrap
  simp [IntKind.signed, IntKind.bits]
  omega

/- Not by rfl: a proof by simp then names each step, and the kernel need not find them. -/
theorem bS {α β : Type} {x : α} {f : α → Option β} : (some x).bind f = f x := by simp
theorem bN {α β : Type} {f : α → Option β} : (none : Option α).bind f = none := by simp
theorem cT {α : Type} {a b : α} : cond true a b = a := by simp
theorem cF {α : Type} {a b : α} : cond false a b = b := by simp

theorem dT {p : Prop} [Decidable p] (h : p) : decide p = true := decide_eq_true h
theorem dF {p : Prop} [Decidable p] (h : ¬ p) : decide p = false := decide_eq_false h

section
variable {α : Type} [BEq α] [LawfulBEq α] {a b : α}
theorem qT (h : a = b) : (a == b) = true := by simp [h]
theorem qF (h : ¬ a = b) : (a == b) = false := by simpa using h
theorem nT (h : ¬ a = b) : (a != b) = true := by simp [bne, qF h]
theorem nF (h : a = b) : (a != b) = false := by simp [bne, h]
end

theorem lim_in {X Y : Type} {f : X → Option (X ⊕ Y)} {x x' : X} (h : f x = some (.inl x')) : lim f x = lim f x' := by rw [lim_step, h]; rfl
theorem lim_out {X Y : Type} {f : X → Option (X ⊕ Y)} {x : X} {y : Y} (h : f x = some (.inr y)) : lim f x = some y := by rw [lim_step, h]; rfl

/-- So many rounds, told one by one. -/
theorem lim_to {X Y : Type} {f : X → Option (X ⊕ Y)} (s : Nat → X) : ∀ (n : Nat), (∀ i, i < n → f (s i) = some (.inl (s (i + 1)))) → lim f (s 0) = lim f (s n)
  | 0, _ => rfl
  | n + 1, h => by rw [lim_to s n fun i hi => h i (by omega), lim_in (h n (by omega))]
theorem lim_run {X Y : Type} {f : X → Option (X ⊕ Y)} (s : Nat → X) (n : Nat) {y : Y} (h : ∀ i, i < n → f (s i) = some (.inl (s (i + 1)))) (hn : f (s n) = some (.inr y)) : lim f (s 0) = some y := by
  rw [lim_to s n h, lim_out hn]

/-- A row looked through, until one falls. -/
theorem lim_scan {X Y α : Type} {f : X → Option (X ⊕ Y)} (s : Nat → X) (l : List α) (d : α) (p : α → Bool) {y z : Y} (h : ∀ i, i < l.length → f (s i) = some (if p (l.getD i d) then .inl (s (i + 1)) else .inr y)) (hn : f (s l.length) = some (.inr z)) :
    lim f (s 0) = some (if l.all p then z else y) := by
  have main : ∀ (n i : Nat), l.length - i ≤ n → i ≤ l.length → lim f (s i) = some (if (l.drop i).all p then z else y) := by
    intro n
    induction n with
    | zero =>
      intro i hi hi2
      have : i = l.length := by omega
      subst this
      rw [lim_out hn]; simp
    | succ n ih =>
      intro i hi hi2
      by_cases e : i = l.length
      · subst e; rw [lim_out hn]; simp
      · have hlt : i < l.length := by omega
        have hd : l.drop i = l.getD i d :: l.drop (i + 1) := by simp [List.getD, hlt]
        rw [hd, List.all_cons]
        cases hp : p (l.getD i d) with
        | true => rw [lim_in (x' := s (i + 1)) (by rw [h i hlt, hp]; rfl), ih (i + 1) (by omega) (by omega)]; simp
        | false => rw [lim_out (y := y) (by rw [h i hlt, hp]; rfl)]; simp
  simpa using main l.length 0 (by omega) (by omega)

/-- A row gone through, with something carried along. -/
theorem lim_fold {X Y α A : Type} {f : X → Option (X ⊕ Y)} (s : Nat → A → X) (l : List α) (d : α) (g : A → α → A) (I : A → Prop) {z : A → Y} (a0 : A) (h0 : I a0) (hI : ∀ a i, i < l.length → I a → I (g a (l.getD i d))) (h : ∀ i a, i < l.length → I a → f (s i a) = some (.inl (s (i + 1) (g a (l.getD i d))))) (hn : ∀ a, I a → f (s l.length a) = some (.inr (z a))) :
    lim f (s 0 a0) = some (z (l.foldl g a0)) := by
  have main : ∀ (n i : Nat) (a : A), l.length - i ≤ n → i ≤ l.length → I a → lim f (s i a) = some (z ((l.drop i).foldl g a)) := by
    intro n
    induction n with
    | zero =>
      intro i a hi hi2 ha
      have : i = l.length := by omega
      subst this
      rw [lim_out (hn a ha)]; simp
    | succ n ih =>
      intro i a hi hi2 ha
      by_cases e : i = l.length
      · subst e; rw [lim_out (hn a ha)]; simp
      · have hlt : i < l.length := by omega
        have hd : l.drop i = l.getD i d :: l.drop (i + 1) := by simp [List.getD, hlt]
        rw [hd, List.foldl_cons, lim_in (h i a hlt ha), ih (i + 1) _ (by omega) (by omega) (hI a i hlt ha)]
  simpa using main l.length 0 a0 (by omega) (by omega) h0

/-- .. with a way out. -/
def goL {α A Y : Type} (g : A → α → A ⊕ Y) : List α → A → A ⊕ Y
  | [], a => .inl a
  | x :: r, a => match g a x with
    | .inl a' => goL g r a'
    | .inr y => .inr y
theorem lim_go {X Y α A B : Type} {f : X → Option (X ⊕ Y)} (s : Nat → A → X) (l : List α) (d : α) (g : A → α → A ⊕ B) (I : A → Prop) {z : A → Y} {o : B → Y} (a0 : A) (h0 : I a0) (hI : ∀ a i a', i < l.length → I a → g a (l.getD i d) = .inl a' → I a')
    (h : ∀ i a, i < l.length → I a → f (s i a) = some (match g a (l.getD i d) with | .inl a' => .inl (s (i + 1) a') | .inr y => .inr (o y))) (hn : ∀ a, I a → f (s l.length a) = some (.inr (z a))) :
    lim f (s 0 a0) = some (Sum.elim z o (goL g l a0)) := by
  have main : ∀ (n i : Nat) (a : A), l.length - i ≤ n → i ≤ l.length → I a → lim f (s i a) = some (Sum.elim z o (goL g (l.drop i) a)) := by
    intro n
    induction n with
    | zero =>
      intro i a hi hi2 ha
      have : i = l.length := by omega
      subst this
      rw [lim_out (hn a ha)]; simp [goL]
    | succ n ih =>
      intro i a hi hi2 ha
      by_cases e : i = l.length
      · subst e; rw [lim_out (hn a ha)]; simp [goL]
      · have hlt : i < l.length := by omega
        have hd : l.drop i = l.getD i d :: l.drop (i + 1) := by simp [List.getD, hlt]
        have hf := h i a hlt ha
        rw [hd, goL]
        cases hg : g a (l.getD i d) with
        | inl a' => rw [hg] at hf; rw [lim_in hf, ih (i + 1) a' (by omega) (by omega) (hI a i a' hlt ha hg)]
        | inr y => rw [hg] at hf; rw [lim_out hf]; rfl
  simpa using main l.length 0 a0 (by omega) (by omega) h0

theorem getD_lt {α : Type} {l : List α} {i : Nat} {d : α} (h : i < l.length) : l.getD i d = l[i] := by simp [List.getD, h]

theorem set_self {α : Type} {l : List α} {i : Nat} {d : α} : l.set i (l.getD i d) = l := by
  by_cases h : i < l.length
  · rw [getD_lt h, List.set_getElem_self]
  · rw [List.set_eq_of_length_le (by omega)]

theorem getD_set {α : Type} {l : List α} {i : Nat} {d x : α} (h : i < l.length) : (l.set i x).getD i d = x := by simp [List.getD, h]

theorem set_app {α : Type} {p r : List α} {x y : α} {i : Nat} (h : i = p.length) : (p ++ x :: r).set i y = p ++ y :: r := by subst h; simp

theorem drop_cons {α : Type} {l : List α} {i : Nat} (h : i < l.length) : l.drop i = l[i] :: l.drop (i + 1) := by simp

section
variable {A B E : Type}

/-- A row laid anew, as far as i. -/
def upTo (c : A → B) (z : B) (l : List A) (i : Nat) : List B := (l.take i).map c ++ List.replicate (l.length - i) z
theorem upTo_zero {c : A → B} {z : B} {l : List A} : upTo c z l 0 = List.replicate l.length z := by simp [upTo]
theorem upTo_all {c : A → B} {z : B} {l : List A} : upTo c z l l.length = l.map c := by simp [upTo]
theorem upTo_len {c : A → B} {z : B} {l : List A} {i : Nat} (h : i ≤ l.length) : (upTo c z l i).length = l.length := by simp [upTo]; omega
theorem upTo_set {c : A → B} {z : B} {l : List A} {i : Nat} {d : A} (h : i < l.length) : (upTo c z l i).set i (c (l.getD i d)) = upTo c z l (i + 1) := by
  unfold upTo
  rw [show l.length - i = (l.length - (i + 1)) + 1 by omega, List.replicate_succ, set_app (by simp; omega), getD_lt h, ← List.take_append_getElem h, List.map_append, List.append_assoc]
  rfl

/-- Each element turned, with a number that counts on. -/
def mkL (g : Int → E → E) (c : E → Int) : Int → List E → List E
  | _, [] => []
  | k, x :: r => g k x :: mkL g c (k + c x) r
def mkK (c : E → Int) : Int → List E → Int
  | k, [] => k
  | k, x :: r => mkK c (k + c x) r
theorem mkL_len {g : Int → E → E} {c : E → Int} : ∀ {k : Int} {l : List E}, (mkL g c k l).length = l.length
  | _, [] => rfl
  | _, _ :: _ => by simp [mkL, mkL_len]
theorem mkL_app {g : Int → E → E} {c : E → Int} : ∀ {k : Int} {l r : List E}, mkL g c k (l ++ r) = mkL g c k l ++ mkL g c (mkK c k l) r
  | _, [], _ => rfl
  | k, x :: l, r => by simp [mkL, mkK, mkL_app]
theorem mkK_app {c : E → Int} : ∀ {k : Int} {l r : List E}, mkK c k (l ++ r) = mkK c (mkK c k l) r
  | _, [], _ => rfl
  | k, x :: l, r => by simp [mkK, mkK_app]
theorem mkK_take {c : E → Int} {k : Int} {l : List E} {i : Nat} {d : E} (h : i < l.length) : mkK c k (l.take (i + 1)) = mkK c k (l.take i) + c (l.getD i d) := by
  rw [← List.take_append_getElem h, mkK_app, getD_lt h]; rfl
theorem mkK_const {n : Int} : ∀ {k : Int} {l : List E}, mkK (fun _ => n) k l = k + n * l.length
  | k, [] => by simp [mkK]
  | k, x :: l => by
    simp only [mkK, mkK_const, List.length_cons]
    rw [show ((l.length + 1 : Nat) : Int) = (l.length : Int) + 1 from rfl, Int.mul_add, Int.mul_one]; omega
theorem mkK_le {c : E → Int} (hc : ∀ x, 0 ≤ c x) : ∀ {k : Int} {l : List E}, k ≤ mkK c k l
  | k, [] => Int.le_refl _
  | k, x :: l => by
    have := mkK_le hc (k := k + c x) (l := l)
    have := hc x
    simp only [mkK]; omega
def mkAt (g : Int → E → E) (c : E → Int) (k : Int) (l : List E) (i : Nat) : List E := mkL g c k (l.take i) ++ l.drop i
theorem mkAt_zero {g : Int → E → E} {c : E → Int} {k : Int} {l : List E} : mkAt g c k l 0 = l := by simp [mkAt, mkL]
theorem mkAt_all {g : Int → E → E} {c : E → Int} {k : Int} {l : List E} : mkAt g c k l l.length = mkL g c k l := by simp [mkAt]
theorem mkAt_len {g : Int → E → E} {c : E → Int} {k : Int} {l : List E} {i : Nat} : (mkAt g c k l i).length = l.length := by simp [mkAt, mkL_len]; omega
theorem mkAt_get {g : Int → E → E} {c : E → Int} {k : Int} {l : List E} {i : Nat} {d : E} (h : i < l.length) : (mkAt g c k l i).getD i d = l.getD i d := by
  unfold mkAt
  have : (mkL g c k (l.take i)).length = i := by rw [mkL_len]; simp; omega
  rw [getD_lt (by simp [this]; omega), getD_lt h, List.getElem_append_right (by omega)]
  simp [this]
theorem mkAt_set {g : Int → E → E} {c : E → Int} {k : Int} {l : List E} {i : Nat} {d : E} (h : i < l.length) : (mkAt g c k l i).set i (g (mkK c k (l.take i)) (l.getD i d)) = mkAt g c k l (i + 1) := by
  unfold mkAt
  rw [drop_cons h, set_app (by rw [mkL_len]; simp; omega), getD_lt h, ← List.take_append_getElem h, mkL_app, List.append_assoc]
  rfl
theorem mkL_get {g : Int → E → E} {c : E → Int} : ∀ {k : Int} {l : List E} {i : Nat} {d : E}, i < l.length → (mkL g c k l).getD i d = g (mkK c k (l.take i)) (l.getD i d)
  | k, x :: l, 0, d, _ => by simp [mkL, mkK]
  | k, x :: l, i + 1, d, h => by
    have := mkL_get (g := g) (c := c) (k := k + c x) (l := l) (i := i) (d := d) (by simpa using h)
    simpa [mkL, mkK, List.getD] using this
end


/-- Two rows compared, element by element. -/
theorem eq_rows {E : Type} {p q : List E} (d : E) (hl : p.length = q.length) : p = q ∨ ∃ i, i < p.length ∧ (∀ j, j < i → p.getD j d = q.getD j d) ∧ p.getD i d ≠ q.getD i d := by
  induction p generalizing q with
  | nil => cases q with
    | nil => exact .inl rfl
    | cons _ _ => simp at hl
  | cons x p ih =>
    cases q with
    | nil => simp at hl
    | cons y q =>
      by_cases h : x = y
      · subst h
        rcases ih (by simpa using hl) with h | ⟨i, h1, h2, h3⟩
        · exact .inl (by rw [h])
        · refine .inr ⟨i + 1, by simpa using h1, fun j hj => ?_, by simpa using h3⟩
          cases j with
          | zero => rfl
          | succ j => simpa using h2 j (by omega)
      · exact .inr ⟨0, by simp, fun j hj => by omega, by simpa using h⟩

end Go.Proofs.YtiogkndjoinpoaaDoor.AX

/- The reference's circles. No conditions. -/
namespace Go.Proofs.YtiogkndjoinpoaaDoor.AX
open Go

/-- To which one leads. -/
def nx (to : List (List Int)) (i : Nat) : Option Nat := (to.getD i []).head?.map Int.toNat
/-- Each leads to one at most. -/
structure FG (to : List (List Int)) : Prop where
  n : to.length ≤ 1000
  row : ∀ i, to.getD i [] = [] ∨ ∃ j : Nat, j < to.length ∧ to.getD i [] = [(j : Int)]

theorem FG.cases {to : List (List Int)} (h : FG to) (i : Nat) : (nx to i = none ∧ to.getD i [] = []) ∨ ∃ j : Nat, j < to.length ∧ nx to i = some j ∧ to.getD i [] = [(j : Int)] := by
  rcases h.row i with e | ⟨j, hj, e⟩
  · exact .inl ⟨by unfold nx; rw [e]; rfl, e⟩
  · exact .inr ⟨j, hj, by unfold nx; rw [e]; simp, e⟩
theorem FG.lt {to : List (List Int)} (h : FG to) {i j : Nat} (e : nx to i = some j) : j < to.length := by
  rcases h.cases i with ⟨e1, _⟩ | ⟨k, hk, e1, _⟩
  · rw [e1] at e; cases e
  · rw [e1] at e; injection e with e; omega
theorem FG.row_of {to : List (List Int)} (h : FG to) {i j : Nat} (e : nx to i = some j) : to.getD i [] = [(j : Int)] := by
  rcases h.cases i with ⟨e1, _⟩ | ⟨k, hk, e1, e2⟩
  · rw [e1] at e; cases e
  · rw [e1] at e; injection e with e; subst e; exact e2
theorem FG.row_none {to : List (List Int)} (h : FG to) {i : Nat} (e : nx to i = none) : to.getD i [] = [] := by
  rcases h.cases i with ⟨_, e1⟩ | ⟨k, hk, e1, e2⟩
  · exact e1
  · rw [e1] at e; cases e
theorem FG.it_lt {to : List (List Int)} (h : FG to) {s : Nat} (hs : s < to.length) : ∀ {k b : Nat}, it (nx to) k s = some b → b < to.length
  | 0, b, e => by injection e with e; omega
  | k + 1, b, e => by
    rw [it_succ] at e
    cases h1 : it (nx to) k s with
    | none => rw [h1] at e; cases e
    | some c => rw [h1] at e; exact h.lt e

def unseen : List Bool → Nat
  | [] => 0
  | b :: l => (if b = true then 0 else 1) + unseen l
theorem unseen_set : ∀ {l : List Bool} {i : Nat}, i < l.length → l.getD i false = false → unseen (l.set i true) + 1 = unseen l
  | [], i, h, _ => by simp at h
  | b :: l, 0, _, h => by
    have : b = false := by simpa using h
    subst this
    simp [unseen]; omega
  | b :: l, i + 1, h, e => by
    have := unseen_set (l := l) (i := i) (by simpa using h) (by simpa using e)
    simp only [List.set_cons_succ, unseen]
    omega

theorem F39.l6_ok {to : List (List Int)} (hg : FG to) (v1 v8 : Int) (at_ t : Nat) (ha : at_ < to.length) (rows next : List (List Int)) (seen : List Bool) :
    F39.l6 (v1, v8, (at_ : Int), (t : Int), false, 0, to, rows, seen, next) = some (v1, v8, (at_ : Int), (t : Int), decide (nx to at_ = some t), to, rows, seen, next) := by
  have d0 : decide ((0 : Int) ≤ (at_ : Int)) = true := dT (by omega)
  have d1 : decide ((at_ : Int) < (to.length : Int)) = true := dT (by omega)
  rcases hg.cases at_ with ⟨e1, e2⟩ | ⟨j, hj, e1, e2⟩
  · have d2 : decide ((0 : Int) < (([] : List Int).length : Int)) = false := dF (by simp)
    rw [e1]
    have d3 : decide ((none : Option Nat) = some t) = false := dF (by simp)
    rw [d3]
    unfold F39.l6
    exact lim_out (by simp only [F39.l6.b, d0, d1, Bool.and_self, cT, cF, Int.toNat_natCast, e2, d2])
  · have d2 : decide ((0 : Int) < (([(j : Int)] : List Int).length : Int)) = true := dT (by simp)
    have d4 : decide ((1 : Int) < (([(j : Int)] : List Int).length : Int)) = false := dF (by simp)
    have w : Go.IntKind.wrap .i64 (0 + 1) = 1 := by decide
    have d5 : decide ((0 : Int) ≤ 0) = true := rfl
    have g : List.getD [(j : Int)] (Int.toNat 0) 0 = (j : Int) := rfl
    have e3 : (false || ((j : Int) == (t : Int))) = decide (nx to at_ = some t) := by
      rw [e1, Bool.false_or]
      by_cases h : j = t
      · subst h; simp
      · rw [qF (by omega), dF (by simpa using h)]
    unfold F39.l6
    refine (lim_in (x' := (v1, v8, (at_ : Int), (t : Int), decide (nx to at_ = some t), 1, to, rows, seen, next)) (by simp only [F39.l6.b, d0, d1, Bool.and_self, cT, cF, Int.toNat_natCast, e2, d2, d5, Bool.not_false, Bool.not_true, Bool.or_true, Bool.false_or, g, e3, w])).trans ?_
    exact lim_out (by simp only [F39.l6.b, d0, d1, Bool.and_self, cT, cF, Int.toNat_natCast, e2, d4])

/-- What a round over all does to what is seen and to the next rows. -/
def hop (to : List (List Int)) (s at_ t : Nat) (i : Int) (rows next : List (List Int)) (seen : List Bool) : (Int × List (List Int)) ⊕ (List Bool × List (List Int)) :=
  match nx to at_ with
  | none => .inr (seen, next)
  | some b => if b < t then .inr (seen, next) else if b = s then .inl (i, rows) else if seen.getD b false = true then .inr (seen, next) else .inr (seen.set b true, next ++ [rows.getD i.toNat [] ++ [(b : Int)]])

theorem F39.l4_ok {to : List (List Int)} (hg : FG to) (s at_ : Nat) (ha : at_ < to.length) (i : Nat) (rows : List (List Int)) (hi : i < rows.length) (hr : rows.length ≤ 1000) (hrl : (rows.getD i []).length ≤ 2000) :
    ∀ (m t : Nat) (seen : List Bool) (next : List (List Int)), t + m = to.length → seen.length = to.length → next.length ≤ 1000 →
    F39.l4 ((s : Int), (i : Int), (at_ : Int), (t : Int), to, rows, seen, next) = some (match hop to s at_ t i rows next seen with | .inl x => .inl x | .inr y => .inr ((s : Int), (i : Int), to, rows, y.1, y.2))
  | 0, t, seen, next, ht, hs, hn => by
    have d : decide ((t : Int) < (to.length : Int)) = false := dF (by omega)
    have hh : hop to s at_ t i rows next seen = .inr (seen, next) := by
      unfold hop
      rcases hg.cases at_ with ⟨e1, e2⟩ | ⟨j, hj, e1, e2⟩
      · rw [e1]
      · rw [e1]; dsimp only; rw [if_pos (by omega)]
    rw [hh]
    unfold F39.l4
    exact lim_out (by simp only [F39.l4.b, d, cF])
  | m + 1, t, seen, next, ht, hs, hn => by
    have hn0 := hg.n
    have d : decide ((t : Int) < (to.length : Int)) = true := dT (by omega)
    have d1 : decide ((0 : Int) ≤ (t : Int)) = true := dT (by omega)
    have d2 : decide ((t : Int) < (seen.length : Int)) = true := dT (by omega)
    have d3 : decide ((0 : Int) ≤ (i : Int)) = true := dT (by omega)
    have d4 : decide ((i : Int) < (rows.length : Int)) = true := dT (by omega)
    have w : Go.IntKind.wrap .i64 ((t : Int) + 1) = ((t + 1 : Nat) : Int) := by rw [w64 (by omega) (by omega)]; rfl
    have l6 := fun v8 => F39.l6_ok hg (s : Int) v8 at_ t ha rows next seen
    by_cases hnx : nx to at_ = some t
    · have dn : decide (nx to at_ = some t) = true := dT hnx
      rw [dn] at l6
      by_cases hts : t = s
      · have hh : hop to s at_ t i rows next seen = .inl ((i : Int), rows) := by
          unfold hop; rw [hnx]; dsimp only; rw [if_neg (by omega), if_pos hts]
        rw [hh]
        have q : ((t : Int) == (s : Int)) = true := qT (by omega)
        unfold F39.l4
        exact lim_out (by simp only [F39.l4.b, d, cT, l6, bS, q, Bool.and_self, d3, d4])
      · have q : ((t : Int) == (s : Int)) = false := qF (by omega)
        cases hse : seen.getD t false with
        | true =>
          have hh : hop to s at_ t i rows next seen = hop to s at_ (t + 1) i rows next seen := by
            unfold hop; rw [hnx]; dsimp only; rw [if_neg (by omega), if_neg hts, if_pos hse, if_pos (by omega)]
          rw [hh, ← F39.l4_ok hg s at_ ha i rows hi hr hrl m (t + 1) seen next (by omega) hs hn]
          unfold F39.l4
          exact lim_in (by simp only [F39.l4.b, d, cT, cF, l6, bS, q, Bool.and_self, Bool.true_and, Bool.and_false, d1, d2, d3, d4, Bool.not_true, Bool.or_true, Int.toNat_natCast, hse, w])
        | false =>
          have hh : hop to s at_ t i rows next seen = hop to s at_ (t + 1) i rows (next ++ [rows.getD i [] ++ [(t : Int)]]) (seen.set t true) := by
            unfold hop; rw [hnx]; dsimp only; rw [if_neg (by omega), if_neg hts, if_neg (by rw [hse]; decide), if_pos (by omega)]
            simp
          have d5 : decide ((([] : List Int).length + (rows.getD i []).length) ≤ 274877906944) = true := dT (by simp only [List.nil_append, List.length_append, List.length_cons, List.length_nil]; omega)
          have d6 : decide ((rows.getD i []).length + ((t : Int) :: ([] : List Int)).length ≤ 274877906944) = true := dT (by simp only [List.nil_append, List.length_append, List.length_cons, List.length_nil]; omega)
          have d7 : decide ((next.length + ((rows.getD i [] ++ ((t : Int) :: ([] : List Int))) :: ([] : List (List Int))).length) ≤ 274877906944) = true := dT (by simp only [List.nil_append, List.length_append, List.length_cons, List.length_nil]; omega)
          have hlen : (next ++ [rows.getD i [] ++ [(t : Int)]]).length ≤ 1000 ∨ True := .inr trivial
          rw [hh]
          -- the rest changes nothing more
          have hrest : ∀ (m' t' : Nat) (seen' : List Bool) (next' : List (List Int)), t' + m' = to.length → t < t' → F39.l4 ((s : Int), (i : Int), (at_ : Int), (t' : Int), to, rows, seen', next') = some (.inr ((s : Int), (i : Int), to, rows, seen', next')) := by
            intro m'
            induction m' with
            | zero =>
              intro t' seen' next' h1 h2
              have d : decide ((t' : Int) < (to.length : Int)) = false := dF (by omega)
              unfold F39.l4
              exact lim_out (by simp only [F39.l4.b, d, cF])
            | succ m' ih =>
              intro t' seen' next' h1 h2
              have d : decide ((t' : Int) < (to.length : Int)) = true := dT (by omega)
              have w : Go.IntKind.wrap .i64 ((t' : Int) + 1) = ((t' + 1 : Nat) : Int) := by rw [w64 (by omega) (by omega)]; rfl
              have l6 := F39.l6_ok hg (s : Int) (i : Int) at_ t' ha rows next' seen'
              rw [show decide (nx to at_ = some t') = false from dF (by rw [hnx]; simp; omega)] at l6
              rw [← ih (t' + 1) seen' next' (by omega) (by omega)]
              unfold F39.l4
              exact lim_in (by simp only [F39.l4.b, d, cT, cF, l6, bS, Bool.false_and, Bool.not_false, Bool.true_or, w])
          have hh2 : hop to s at_ (t + 1) i rows (next ++ [rows.getD i [] ++ [(t : Int)]]) (seen.set t true) = .inr (seen.set t true, next ++ [rows.getD i [] ++ [(t : Int)]]) := by
            unfold hop; rw [hnx]; dsimp only; rw [if_pos (by omega)]
          rw [hh2]
          show _ = some (Sum.inr ((s : Int), (i : Int), to, rows, seen.set t true, next ++ [rows.getD i [] ++ [(t : Int)]]))
          rw [← hrest m (t + 1) (seen.set t true) (next ++ [rows.getD i [] ++ [(t : Int)]]) (by omega) (by omega)]
          unfold F39.l4
          exact lim_in (by simp only [F39.l4.b, d, cT, cF, l6, bS, q, Bool.and_self, Bool.true_and, Bool.and_false, d1, d2, d3, d4, Bool.not_true, Bool.not_false, Bool.or_true, Int.toNat_natCast, hse, w, d5, d6, d7, List.nil_append])
    · have dn : decide (nx to at_ = some t) = false := dF hnx
      rw [dn] at l6
      have hh : hop to s at_ t i rows next seen = hop to s at_ (t + 1) i rows next seen := by
        unfold hop
        cases hx : nx to at_ with
        | none => rfl
        | some b =>
          dsimp only
          have : b ≠ t := fun e => hnx (by rw [hx, e])
          by_cases hb : b < t
          · rw [if_pos hb, if_pos (by omega)]
          · have hb2 : ¬ b < t + 1 := by omega
            simp only [hb, hb2, if_false]
      rw [hh, ← F39.l4_ok hg s at_ ha i rows hi hr hrl m (t + 1) seen next (by omega) hs hn]
      unfold F39.l4
      exact lim_in (by simp only [F39.l4.b, d, cT, cF, l6, bS, Bool.false_and, Bool.not_false, Bool.true_or, w])

/-- The way of m steps from s. -/
def pth (f : Nat → Option Nat) (s m : Nat) : List Int := (List.range (m + 1)).map fun k => (((it f k s).getD 0 : Nat) : Int)
theorem pth_len {f : Nat → Option Nat} {s m : Nat} : (pth f s m).length = m + 1 := by simp [pth]
theorem pth_succ {f : Nat → Option Nat} {s m b : Nat} (h : it f (m + 1) s = some b) : pth f s (m + 1) = pth f s m ++ [(b : Int)] := by
  unfold pth
  rw [List.range_succ, List.map_append]
  simp [h]
theorem pth_last {f : Nat → Option Nat} {s m b : Nat} (h : it f m s = some b) : (pth f s m).getD m 0 = (b : Int) := by
  unfold pth
  rw [getD_lt (by simp)]
  simp [h]

/-- The shortest way back to s; none: no way. -/
def CircOf (f : Nat → Option Nat) (s : Nat) (r : List Int) : Prop :=
  (r = [] ∧ IsD f s s 0) ∨ ∃ m, r = pth f s m ∧ IsD f s s (m + 1)

theorem F39.l2_ok {to : List (List Int)} (hg : FG to) (s m at_ : Nat) (hm : m ≤ 1000) (ha : at_ < to.length) (he : it (nx to) m s = some at_) (seen : List Bool) (hs : seen.length = to.length) :
    F39.l2 ((s : Int), 0, to, [pth (nx to) s m], seen, []) = some (match hop to s at_ 0 0 [pth (nx to) s m] [] seen with | .inl x => .inl x | .inr y => .inr ((s : Int), to, y.1, y.2)) := by
  have hl : (pth (nx to) s m).length = m + 1 := pth_len
  have hla := pth_last he
  have hg0 : List.getD [pth (nx to) s m] (Int.toNat 0) ([] : List Int) = pth (nx to) s m := rfl
  have d1 : decide ((0 : Int) < ([pth (nx to) s m].length : Int)) = true := dT (by simp)
  have d2 : decide ((1 : Int) < ([pth (nx to) s m].length : Int)) = false := dF (by simp)
  have d0 : decide ((0 : Int) ≤ 0) = true := rfl
  have w : Go.IntKind.wrap .i64 (((pth (nx to) s m).length : Int) - 1) = (m : Int) := by rw [w64 (by omega) (by omega)]; omega
  have w1 : Go.IntKind.wrap .i64 (0 + 1) = 1 := by decide
  have d3 : decide ((0 : Int) ≤ (m : Int)) = true := dT (by omega)
  have d4 : decide ((m : Int) < ((pth (nx to) s m).length : Int)) = true := dT (by omega)
  have l4 := F39.l4_ok hg s at_ ha 0 [pth (nx to) s m] (by simp) (by simp) (by show (pth (nx to) s m).length ≤ 2000; omega) to.length 0 seen [] (by omega) hs (by simp)
  rw [show ((0 : Nat) : Int) = 0 from rfl] at l4
  cases hh : hop to s at_ 0 0 [pth (nx to) s m] [] seen with
  | inl x =>
    rw [hh] at l4
    unfold F39.l2
    exact lim_out (by simp only [F39.l2.b, d1, d0, Bool.and_self, cT, hg0, w, d3, d4, Int.toNat_natCast, hla, l4, bS])
  | inr y =>
    rw [hh] at l4
    unfold F39.l2
    refine (lim_in (x' := ((s : Int), 1, to, [pth (nx to) s m], y.1, y.2)) (by simp only [F39.l2.b, d1, d0, Bool.and_self, cT, hg0, w, d3, d4, Int.toNat_natCast, hla, l4, bS, w1])).trans ?_
    exact lim_out (by simp only [F39.l2.b, d2, cF])

theorem F39.l0_ok {to : List (List Int)} (hg : FG to) {s : Nat} (hsl : s < to.length) : ∀ (z m at_ : Nat) (seen : List Bool), unseen seen = z → m + z = to.length → it (nx to) m s = some at_ → seen.length = to.length →
    (∀ k, 1 ≤ k → k ≤ m → it (nx to) k s ≠ some s) → (∀ b, b < to.length → (seen.getD b false = true ↔ ∃ k, 1 ≤ k ∧ k ≤ m ∧ it (nx to) k s = some b)) →
    ∃ y, F39.l0 ((s : Int), to, [pth (nx to) s m], seen) = some y ∧ CircOf (nx to) s (match y with | .inl q => List.getD q.2 q.1.toNat [] | .inr _ => []) := by
  intro z
  induction z using Nat.strongRecOn with
  | ind z ih =>
    intro m at_ seen hz hmz he hs hn hseen
    have hn0 := hg.n
    have ha : at_ < to.length := hg.it_lt hsl he
    have l2 := F39.l2_ok hg s m at_ (by omega) ha he seen hs
    have d1 : decide (([pth (nx to) s m].length : Int) > 0) = true := dT (by simp)
    have d2 : decide ((([] : List (List Int)).length : Int) > 0) = false := dF (by simp)
    have hsucc : it (nx to) (m + 1) s = nx to at_ := by rw [it_succ, he]; rfl
    have stop : ∀ (seen' : List Bool), hop to s at_ 0 0 [pth (nx to) s m] [] seen = .inr (seen', []) → (∀ k, 1 ≤ k → it (nx to) k s ≠ some s) → ∃ y, F39.l0 ((s : Int), to, [pth (nx to) s m], seen) = some y ∧ CircOf (nx to) s (match y with | .inl q => List.getD q.2 q.1.toNat [] | .inr _ => []) := fun seen' hh hne => by
      rw [hh] at l2
      refine ⟨.inr (), ?_, .inl ⟨rfl, fun _ => hne, fun h => by omega⟩⟩
      unfold F39.l0
      refine (lim_in (x' := ((s : Int), to, [], seen')) (by simp only [F39.l0.b, d1, cT, l2, bS])).trans ?_
      exact lim_out (by simp only [F39.l0.b, d2, cF])
    cases hx : nx to at_ with
    | none =>
      refine stop seen (by unfold hop; rw [hx]) fun k hk e => ?_
      by_cases h : k ≤ m
      · exact hn k hk h e
      · rw [it_none (by rw [hsucc]; exact hx) k (by omega)] at e; cases e
    | some b =>
      have hb : b < to.length := hg.lt hx
      by_cases hbs : b = s
      · subst hbs
        have hh : hop to b at_ 0 0 [pth (nx to) b m] [] seen = .inl (0, [pth (nx to) b m]) := by
          unfold hop; rw [hx]; dsimp only; rw [if_neg (by omega), if_pos rfl]
        rw [hh] at l2
        refine ⟨.inl (0, [pth (nx to) b m]), ?_, .inr ⟨m, rfl, fun h => by omega, fun _ => ⟨by rw [hsucc]; exact hx, fun j h1 h2 => hn j h1 (by omega)⟩⟩⟩
        unfold F39.l0
        exact lim_out (by simp only [F39.l0.b, d1, cT, l2, bS])
      · cases hse : seen.getD b false with
        | true =>
          refine stop seen (by unfold hop; rw [hx]; dsimp only; rw [if_neg (by omega), if_neg hbs, if_pos hse]) ?_
          obtain ⟨j, j1, j2, j3⟩ := (hseen b hb).1 hse
          exact it_never j1 j2 (by rw [hsucc, hx, j3]) hn
        | false =>
          have hh : hop to s at_ 0 0 [pth (nx to) s m] [] seen = .inr (seen.set b true, [pth (nx to) s (m + 1)]) := by
            unfold hop; rw [hx]; dsimp only; rw [if_neg (by omega), if_neg hbs, if_neg (by rw [hse]; decide), pth_succ (b := b) (by rw [hsucc]; exact hx)]
            rfl
          rw [hh] at l2
          have hu := unseen_set (l := seen) (i := b) (by omega) hse
          obtain ⟨y, y1, y2⟩ := ih (unseen (seen.set b true)) (by omega) (m + 1) b (seen.set b true) rfl (by omega) (by rw [hsucc]; exact hx) (by simpa using hs)
            (fun k k1 k2 e => by
              by_cases h : k ≤ m
              · exact hn k k1 h e
              · have : k = m + 1 := by omega
                subst this
                rw [hsucc, hx] at e; injection e with e; exact hbs e)
            (fun c hc => by
              by_cases hcb : c = b
              · subst hcb
                rw [getD_set (by omega)]
                exact ⟨fun _ => ⟨m + 1, by omega, by omega, by rw [hsucc]; exact hx⟩, fun _ => rfl⟩
              · have : (seen.set b true).getD c false = seen.getD c false := by
                  simp only [List.getD, List.getElem?_set_ne (show b ≠ c from fun e => hcb e.symm)]
                rw [this, hseen c hc]
                constructor
                · rintro ⟨k, k1, k2, k3⟩; exact ⟨k, k1, by omega, k3⟩
                · rintro ⟨k, k1, k2, k3⟩
                  refine ⟨k, k1, ?_, k3⟩
                  apply Classical.byContradiction
                  intro h
                  have : k = m + 1 := by omega
                  subst this
                  rw [hsucc, hx] at k3; injection k3 with k3; exact hcb k3.symm)
          refine ⟨y, ?_, y2⟩
          rw [← y1]
          unfold F39.l0
          exact lim_in (by simp only [F39.l0.b, d1, cT, l2, bS])

theorem unseen_rep : ∀ n : Nat, unseen (List.replicate n false) = n
  | 0 => rfl
  | n + 1 => by rw [List.replicate_succ, unseen, unseen_rep n]; simp; omega

theorem F39.ok {to : List (List Int)} (hg : FG to) {s : Nat} (hs : s < to.length) : ∃ r, F39.F (to, (s : Int)) = some r ∧ CircOf (nx to) s r := by
  have hn0 := hg.n
  obtain ⟨y, y1, y2⟩ := F39.l0_ok hg hs to.length 0 s (List.replicate to.length false) (unseen_rep _) (by omega) rfl (by simp) (fun k h1 h2 => by omega) (fun b hb => by
    constructor
    · intro h; rw [getD_lt (by simpa using hb)] at h; simp at h
    · rintro ⟨k, h1, h2, _⟩; omega)
  have d0 : (((decide (0 ≤ (to.length : Int))) && (decide ((to.length : Int) ≤ (to.length : Int)))) && (decide ((to.length : Int) ≤ 274877906944))) = true := by simp; omega
  refine ⟨_, ?_, y2⟩
  have e0 : F39.l0 ((s : Int), to, (((s : Int) :: []) :: []), List.replicate to.length false) = some y := y1
  simp only [F39.F, d0, cT, Int.toNat_natCast, e0, bS]
  cases y <;> rfl

theorem CircOf.uniq {f : Nat → Option Nat} {s : Nat} {r r' : List Int} (h : CircOf f s r) (h' : CircOf f s r') : r = r' := by
  rcases h with ⟨rfl, h⟩ | ⟨m, rfl, h⟩ <;> rcases h' with ⟨rfl, h'⟩ | ⟨m', rfl, h'⟩
  · rfl
  · have := h.uniq h'; omega
  · have := h.uniq h'; omega
  · have := h.uniq h'; rw [show m = m' by omega]

end Go.Proofs.YtiogkndjoinpoaaDoor.AX

/- The program's circles. No conditions. -/
namespace Go.Proofs.YtiogkndjoinpoaaDoor.AX
open Go

theorem decTr : decide True = true := by simp

def zeros : List Int → Nat
  | [] => 0
  | x :: l => (if x = 0 then 1 else 0) + zeros l
theorem zeros_set {k : Int} (hk : k ≠ 0) : ∀ {l : List Int} {i : Nat}, i < l.length → l.getD i 0 = 0 → zeros (l.set i k) + 1 = zeros l
  | [], i, h, _ => by simp at h
  | x :: l, 0, _, h => by
    have : x = 0 := by simpa using h
    subst this
    simp [zeros, hk]; omega
  | x :: l, i + 1, h, e => by
    have := zeros_set hk (l := l) (i := i) (by simpa using h) (by simpa using e)
    simp only [List.set_cons_succ, zeros]
    omega
theorem zeros_rep : ∀ n : Nat, zeros (List.replicate n 0) = n
  | 0 => rfl
  | n + 1 => by rw [List.replicate_succ, zeros, zeros_rep n]; simp; omega
theorem getD_set_ne {α : Type} {l : List α} {i j : Nat} {d x : α} (h : i ≠ j) : (l.set i x).getD j d = l.getD j d := by
  simp only [List.getD, List.getElem?_set_ne h]

/- Who leads to each. -/
def addB (to back : List (List Int)) (a : Nat) : List (List Int) := match nx to a with
  | none => back
  | some b => back.set b (back.getD b [] ++ [(a : Int)])

structure BackTo (to back : List (List Int)) (m : Nat) : Prop where
  len : back.length = to.length
  short : ∀ b, (back.getD b []).length ≤ m
  mem : ∀ b, b < to.length → ∀ x, x ∈ back.getD b [] ↔ ∃ a : Nat, a < m ∧ x = (a : Int) ∧ nx to a = some b

theorem BackTo.zero (to : List (List Int)) : BackTo to (List.replicate to.length []) 0 := by
  have h0 : ∀ b, (List.replicate to.length ([] : List Int)).getD b [] = [] := fun b => by
    simp only [List.getD, List.getElem?_replicate]
    split <;> rfl
  exact ⟨by simp, fun b => by rw [h0]; exact Nat.le_refl _, fun b hb x => by rw [h0]; simp⟩

theorem BackTo.add {to back : List (List Int)} {m : Nat} (hg : FG to) (h : BackTo to back m) : BackTo to (addB to back m) (m + 1) := by
  unfold addB
  cases hx : nx to m with
  | none =>
    refine ⟨h.len, fun b => Nat.le_succ_of_le (h.short b), fun b hb x => ?_⟩
    rw [h.mem b hb]
    constructor
    · rintro ⟨a, h1, h2, h3⟩; exact ⟨a, by omega, h2, h3⟩
    · rintro ⟨a, h1, h2, h3⟩
      refine ⟨a, ?_, h2, h3⟩
      apply Classical.byContradiction
      intro hc
      have : a = m := by omega
      subst this
      rw [hx] at h3; cases h3
  | some c =>
    have hc := hg.lt hx
    refine ⟨by simpa using h.len, fun b => ?_, fun b hb x => ?_⟩
    · dsimp only
      by_cases hbc : c = b
      · subst hbc
        rw [getD_set (by rw [h.len]; exact hc)]
        have := h.short c
        simp only [List.length_append, List.length_cons, List.length_nil]; omega
      · rw [getD_set_ne hbc]; exact Nat.le_succ_of_le (h.short b)
    · dsimp only
      by_cases hbc : c = b
      · subst hbc
        rw [getD_set (by rw [h.len]; exact hc), List.mem_append, h.mem c hb]
        constructor
        · rintro (⟨a, h1, h2, h3⟩ | h1)
          · exact ⟨a, by omega, h2, h3⟩
          · exact ⟨m, by omega, by simpa using h1, hx⟩
        · rintro ⟨a, h1, h2, h3⟩
          by_cases ham : a = m
          · subst ham; exact .inr (by simpa using h2)
          · exact .inl ⟨a, by omega, h2, h3⟩
      · rw [getD_set_ne hbc, h.mem b hb]
        constructor
        · rintro ⟨a, h1, h2, h3⟩; exact ⟨a, by omega, h2, h3⟩
        · rintro ⟨a, h1, h2, h3⟩
          refine ⟨a, ?_, h2, h3⟩
          apply Classical.byContradiction
          intro hcc
          have : a = m := by omega
          subst this
          rw [hx] at h3; injection h3 with h3; exact hbc h3

theorem F42.l4_ok {to : List (List Int)} (hg : FG to) (v3 v4 v5 v7 v38 v39 : Int) (a : Nat) (ha : a < to.length) (d far : List Int) (back : List (List Int)) (hb : BackTo to back a) :
    F42.l4 (v3, v4, v5, v7, (a : Int), v38, v39, (a : Int), ((to.getD a []).length : Int), 0, to, d, back, far) = some (v3, v4, v5, v7, v38, v39, to, d, addB to back a, far) := by
  unfold addB
  have hn0 := hg.n
  rcases hg.cases a with ⟨e1, e2⟩ | ⟨j, hj, e1, e2⟩
  · have d2 : decide ((0 : Int) < (([] : List Int).length : Int)) = false := dF (by simp)
    rw [e1, e2]
    unfold F42.l4
    exact lim_out (by simp only [F42.l4.b, d2, cF])
  · rw [e1, e2]
    have hsh := hb.short j
    have hbl := hb.len
    have d2 : decide ((0 : Int) < (([(j : Int)] : List Int).length : Int)) = true := dT (by simp)
    have d4 : decide ((1 : Int) < (([(j : Int)] : List Int).length : Int)) = false := dF (by simp)
    have w : Go.IntKind.wrap .i64 (0 + 1) = 1 := by decide
    have d5 : decide ((0 : Int) ≤ 0) = true := rfl
    have d6 : decide ((0 : Int) ≤ (j : Int)) = true := dT (by omega)
    have d7 : decide ((j : Int) < (back.length : Int)) = true := dT (by omega)
    have d8 : decide ((j : Int) = (j : Int)) = true := dT rfl
    have d9 : decide (((back.getD j []).length + ((a : Int) :: ([] : List Int)).length) ≤ 274877906944) = true := dT (by simp only [List.length_cons, List.length_nil]; omega)
    have g : List.getD [(j : Int)] (Int.toNat 0) 0 = (j : Int) := rfl
    unfold F42.l4
    refine (lim_in (x' := (v3, v4, v5, v7, (a : Int), v38, v39, (a : Int), (([(j : Int)] : List Int).length : Int), 1, to, d, back.set j (back.getD j [] ++ [(a : Int)]), far)) (by simp only [F42.l4.b, d2, d5, d6, d7, d8, decTr, d9, Bool.and_self, cT, Int.toNat_natCast, e2, g, w])).trans ?_
    exact lim_out (by simp only [F42.l4.b, d4, cF])

theorem F42.l2_ok {to : List (List Int)} (hg : FG to) (v3 v4 v5 v7 : Int) (d far : List Int) : ∀ (m a : Nat) (back : List (List Int)), a + m = to.length → BackTo to back a →
    ∃ back', F42.l2 (v3, v4, v5, v7, (to.length : Int), (a : Int), to, d, back, far) = some (v3, v4, v5, v7, to, d, back', far) ∧ BackTo to back' to.length
  | 0, a, back, ha, hb => by
    have dd : decide ((a : Int) < (to.length : Int)) = false := dF (by omega)
    refine ⟨back, ?_, by rwa [show a = to.length by omega] at hb⟩
    unfold F42.l2
    exact lim_out (by simp only [F42.l2.b, dd, cF])
  | m + 1, a, back, ha, hb => by
    have hn0 := hg.n
    have dd : decide ((a : Int) < (to.length : Int)) = true := dT (by omega)
    have d0 : decide ((0 : Int) ≤ (a : Int)) = true := dT (by omega)
    have w : Go.IntKind.wrap .i64 ((a : Int) + 1) = ((a + 1 : Nat) : Int) := by rw [w64 (by omega) (by omega)]; rfl
    have l4 := F42.l4_ok hg v3 v4 v5 v7 (to.length : Int) (a : Int) a (by omega) d far back hb
    obtain ⟨back', h1, h2⟩ := F42.l2_ok hg v3 v4 v5 v7 d far m (a + 1) (addB to back a) (by omega) (hb.add hg)
    refine ⟨back', ?_, h2⟩
    rw [← h1]
    unfold F42.l2
    exact lim_in (by simp only [F42.l2.b, dd, d0, Bool.and_self, cT, Int.toNat_natCast, l4, bS, w])

/- Marking. -/
def markS (k : Int) (a : List Int × List Int) (x : Int) : List Int × List Int := if a.1.getD x.toNat 0 = 0 then (a.1.set x.toNat k, a.2 ++ [x]) else a

structure MK (n : Nat) (d0 : List Int) (k : Int) (L : List Int) (a : List Int × List Int) : Prop where
  len : a.1.length = n
  val : ∀ i, i < n → a.1.getD i 0 = if d0.getD i 0 ≠ 0 then d0.getD i 0 else if (i : Int) ∈ L then k else 0
  new : ∀ x, x ∈ a.2 ↔ ∃ i : Nat, i < n ∧ x = (i : Int) ∧ d0.getD i 0 = 0 ∧ x ∈ L
  cnt : a.2.length + zeros a.1 = zeros d0

theorem MK.step {n : Nat} {d0 L : List Int} {k : Int} (hk : k ≠ 0) {a : List Int × List Int} (h : MK n d0 k L a) {i : Nat} (hi : i < n) : MK n d0 k (L ++ [(i : Int)]) (markS k a (i : Int)) := by
  unfold markS
  rw [Int.toNat_natCast]
  have hv := h.val i hi
  by_cases hz : a.1.getD i 0 = 0
  · rw [if_pos hz]
    have hd0 : d0.getD i 0 = 0 := by
      rw [hz] at hv
      split at hv
      · exact hv.symm
      · rename_i hc; exact Classical.byContradiction hc
    refine ⟨by simpa using h.len, fun j hj => ?_, fun x => ?_, ?_⟩
    · dsimp only
      by_cases hij : i = j
      · subst hij
        rw [getD_set (by rw [h.len]; exact hi), if_neg (by simpa using hd0), if_pos (by simp)]
      · rw [getD_set_ne hij, h.val j hj]
        have : (j : Int) ∈ L ++ [(i : Int)] ↔ (j : Int) ∈ L := by
          rw [List.mem_append]
          constructor
          · rintro (h | h)
            · exact h
            · simp at h; omega
          · exact .inl
        simp only [this]
    · dsimp only
      rw [List.mem_append, h.new]
      constructor
      · rintro (⟨j, j1, j2, j3, j4⟩ | hx)
        · exact ⟨j, j1, j2, j3, List.mem_append.2 (.inl j4)⟩
        · have : x = (i : Int) := by simpa using hx
          exact ⟨i, hi, this, hd0, List.mem_append.2 (.inr (by simpa using this))⟩
      · rintro ⟨j, j1, j2, j3, j4⟩
        rcases List.mem_append.1 j4 with h | h
        · exact .inl ⟨j, j1, j2, j3, h⟩
        · exact .inr h
    · dsimp only
      have := zeros_set hk (l := a.1) (i := i) (by rw [h.len]; exact hi) hz
      have := h.cnt
      simp; omega
  · rw [if_neg hz]
    have hor : d0.getD i 0 ≠ 0 ∨ (i : Int) ∈ L := by
      by_cases h1 : d0.getD i 0 ≠ 0
      · exact .inl h1
      · rw [if_neg h1] at hv
        by_cases h2 : (i : Int) ∈ L
        · exact .inr h2
        · rw [if_neg h2] at hv; exact absurd hv hz
    refine ⟨h.len, fun j hj => ?_, fun x => ?_, h.cnt⟩
    · rw [h.val j hj]
      by_cases hij : i = j
      · subst hij
        rcases hor with h1 | h1
        · rw [if_pos h1, if_pos h1]
        · have : (i : Int) ∈ L ++ [(i : Int)] := List.mem_append.2 (.inl h1)
          simp only [h1, this]
      · have : (j : Int) ∈ L ++ [(i : Int)] ↔ (j : Int) ∈ L := by
          rw [List.mem_append]
          constructor
          · rintro (h | h)
            · exact h
            · simp at h; omega
          · exact .inl
        simp only [this]
    · rw [h.new]
      constructor
      · rintro ⟨j, j1, j2, j3, j4⟩; exact ⟨j, j1, j2, j3, List.mem_append.2 (.inl j4)⟩
      · rintro ⟨j, j1, j2, j3, j4⟩
        refine ⟨j, j1, j2, j3, ?_⟩
        rcases List.mem_append.1 j4 with h | h
        · exact h
        · have hxi : x = (i : Int) := by simpa using h
          have : j = i := by omega
          subst this
          rcases hor with q | q
          · exact absurd j3 q
          · rw [j2]; exact q

theorem MK.fold {n : Nat} {d0 : List Int} {k : Int} (hk : k ≠ 0) : ∀ {R L : List Int} {a : List Int × List Int}, MK n d0 k L a → (∀ x ∈ R, ∃ i : Nat, i < n ∧ x = (i : Int)) → MK n d0 k (L ++ R) (R.foldl (markS k) a)
  | [], L, a, h, _ => by simpa using h
  | x :: R, L, a, h, hR => by
    obtain ⟨i, hi, rfl⟩ := hR x (by simp)
    have := MK.fold hk (R := R) (h.step hk hi) (fun y hy => hR y (by simp [hy]))
    simpa using this

theorem MK.fold2 {n : Nat} {d0 : List Int} {k : Int} (hk : k ≠ 0) (B : Int → List Int) : ∀ {R L : List Int} {a : List Int × List Int}, MK n d0 k L a → (∀ y ∈ R, ∀ x ∈ B y, ∃ i : Nat, i < n ∧ x = (i : Int)) → MK n d0 k (L ++ R.flatMap B) (R.foldl (fun a y => (B y).foldl (markS k) a) a)
  | [], L, a, h, _ => by simpa using h
  | y :: R, L, a, h, hR => by
    have := MK.fold2 hk B (R := R) (h.fold hk (R := B y) (hR y (by simp))) (fun z hz => hR z (by simp [hz]))
    simpa using this

theorem MK.zero (n : Nat) (d0 : List Int) (k : Int) (h : d0.length = n) : MK n d0 k [] (d0, []) :=
  ⟨h, fun i hi => by dsimp only; split <;> simp_all, fun x => by simp, by simp⟩

theorem F42.l10_ok {to : List (List Int)} (hg : FG to) (v3 v4 v5 v7 v70 v71 k : Int) (hk : k ≠ 0) {back : List (List Int)} (hb : BackTo to back to.length) (b : Nat) (hbl : b < to.length) (d0 L : List Int) (a0 : List Int × List Int) (h0 : MK to.length d0 k L a0) (hz : zeros d0 ≤ 1000) (at_ far : List Int) :
    F42.l10 (v3, v4, v5, v7, k, v70, v71, (b : Int), ((back.getD b []).length : Int), 0, to, a0.1, back, at_, a0.2, far) = some (v3, v4, v5, v7, k, v70, v71, to, ((back.getD b []).foldl (markS k) a0).1, back, at_, ((back.getD b []).foldl (markS k) a0).2, far) := by
  have hn0 := hg.n
  have hsh := hb.short b
  exact lim_fold (f := F42.l10.b) (fun i a => (v3, v4, v5, v7, k, v70, v71, (b : Int), ((back.getD b []).length : Int), (i : Int), to, a.1, back, at_, a.2, far)) (back.getD b []) 0 (markS k) (fun a => ∃ L, MK to.length d0 k L a)
    (z := fun a => (v3, v4, v5, v7, k, v70, v71, to, a.1, back, at_, a.2, far)) a0 ⟨L, h0⟩
    (fun a i hi ⟨L, h⟩ => by
      obtain ⟨j, hj, e, _⟩ := (hb.mem b hbl ((back.getD b []).getD i 0)).1 (by rw [getD_lt hi]; exact List.getElem_mem hi)
      rw [e]; exact ⟨_, h.step hk hj⟩)
    (fun i a hi ⟨L, h⟩ => by
      obtain ⟨j, hj, e, _⟩ := (hb.mem b hbl ((back.getD b []).getD i 0)).1 (by rw [getD_lt hi]; exact List.getElem_mem hi)
      have hlen := h.len
      have hcnt := h.cnt
      have d1 : decide ((i : Int) < ((back.getD b []).length : Int)) = true := dT (by omega)
      have d2 : decide ((0 : Int) ≤ (i : Int)) = true := dT (by omega)
      have d3 : decide ((0 : Int) ≤ (j : Int)) = true := dT (by omega)
      have d4 : decide ((j : Int) < (a.1.length : Int)) = true := dT (by omega)
      have d5 : decide ((a.2.length + ((j : Int) :: ([] : List Int)).length) ≤ 274877906944) = true := dT (by simp only [List.length_cons, List.length_nil]; omega)
      have w : Go.IntKind.wrap .i64 ((i : Int) + 1) = ((i + 1 : Nat) : Int) := by rw [w64 (by omega) (by omega)]; rfl
      unfold markS
      rw [e, Int.toNat_natCast]
      by_cases hz : a.1.getD j 0 = 0
      · have q : (a.1.getD j 0 == 0) = true := qT hz
        rw [if_pos hz]
        simp only [F42.l10.b, d1, d2, Bool.and_self, cT, Int.toNat_natCast, e, d3, d4, q, d5, w]
      · have q : (a.1.getD j 0 == 0) = false := qF hz
        rw [if_neg hz]
        simp only [F42.l10.b, d1, d2, Bool.and_self, cT, cF, Int.toNat_natCast, e, d3, d4, q, w])
    (fun a _ => by
      have d1 : decide (((back.getD b []).length : Int) < ((back.getD b []).length : Int)) = false := dF (by omega)
      simp only [F42.l10.b, d1, cF])

/-- Who leads to one of these. -/
def pre (back : List (List Int)) (y : Int) : List Int := back.getD y.toNat []

theorem F42.l8_ok {to : List (List Int)} (hg : FG to) (v3 v4 v5 v7 k : Int) (hk : k ≠ 0) {back : List (List Int)} (hb : BackTo to back to.length) (d0 at_ : List Int) (hat : ∀ x ∈ at_, ∃ i : Nat, i < to.length ∧ x = (i : Int)) (hal : at_.length ≤ 2000) (hz : zeros d0 ≤ 1000) (hd0 : d0.length = to.length) (far : List Int) :
    ∃ a, F42.l8 (v3, v4, v5, v7, k, (at_.length : Int), 0, to, d0, back, at_, [], far) = some (v3, v4, v5, v7, k, to, a.1, back, a.2, far) ∧ MK to.length d0 k (at_.flatMap (pre back)) a := by
  have hmem : ∀ y ∈ at_, ∀ x ∈ pre back y, ∃ i : Nat, i < to.length ∧ x = (i : Int) := fun y hy x hx => by
    obtain ⟨i, hi, rfl⟩ := hat y hy
    unfold pre at hx
    rw [Int.toNat_natCast] at hx
    obtain ⟨j, j1, j2, _⟩ := (hb.mem i hi x).1 hx
    exact ⟨j, j1, j2⟩
  refine ⟨at_.foldl (fun a y => (pre back y).foldl (markS k) a) (d0, []), ?_, by simpa using (MK.zero to.length d0 k hd0).fold2 hk (pre back) hmem⟩
  exact lim_fold (f := F42.l8.b) (fun i a => (v3, v4, v5, v7, k, (at_.length : Int), (i : Int), to, a.1, back, at_, a.2, far)) at_ 0 (fun a y => (pre back y).foldl (markS k) a) (fun a => ∃ L, MK to.length d0 k L a)
    (z := fun a => (v3, v4, v5, v7, k, to, a.1, back, a.2, far)) (d0, []) ⟨[], MK.zero to.length d0 k hd0⟩
    (fun a i hi ⟨L, h⟩ => ⟨_, h.fold hk (hmem _ (by rw [getD_lt hi]; exact List.getElem_mem hi))⟩)
    (fun i a hi ⟨L, h⟩ => by
      obtain ⟨j, hj, e⟩ := hat (at_.getD i 0) (by rw [getD_lt hi]; exact List.getElem_mem hi)
      have hbl := hb.len
      have d1 : decide ((i : Int) < (at_.length : Int)) = true := dT (by omega)
      have d2 : decide ((0 : Int) ≤ (i : Int)) = true := dT (by omega)
      have d3 : decide ((0 : Int) ≤ (j : Int)) = true := dT (by omega)
      have d4 : decide ((j : Int) < (back.length : Int)) = true := dT (by omega)
      have w : Go.IntKind.wrap .i64 ((i : Int) + 1) = ((i + 1 : Nat) : Int) := by rw [w64 (by omega) (by omega)]; rfl
      have l10 := F42.l10_ok hg v3 v4 v5 v7 (at_.length : Int) (i : Int) k hk hb j hj d0 L a h hz at_ far
      unfold pre
      simp only [F42.l8.b, d1, d2, Bool.and_self, cT, Int.toNat_natCast, e, d3, d4, l10, bS, w])
    (fun a _ => by
      have d1 : decide ((at_.length : Int) < (at_.length : Int)) = false := dF (by omega)
      simp only [F42.l8.b, d1, cF])

end Go.Proofs.YtiogkndjoinpoaaDoor.AX

/- The program's circles are the reference's. No conditions. -/
namespace Go.Proofs.YtiogkndjoinpoaaDoor.AX
open Go

/-- The numbers of steps to s, of all. -/
def Dst (to : List (List Int)) (s : Nat) (d : List Int) : Prop := d.length = to.length ∧ ∀ a, a < to.length → ∃ e : Nat, d.getD a 0 = (e : Int) ∧ IsD (nx to) s a e

theorem F42.l6_ok {to : List (List Int)} (hg : FG to) {back : List (List Int)} (hb : BackTo to back to.length) {s : Nat} (hs : s < to.length) (v3 v4 v5 : Int) (far : List Int) :
    ∀ (z k : Nat) (d at_ : List Int), zeros d = z → 1 ≤ k → k + z ≤ to.length + 1 → d.length = to.length → at_.length ≤ 2000 →
    (∀ a, a < to.length → (d.getD a 0 = 0 ∧ ∀ j, 1 ≤ j → j < k → it (nx to) j a ≠ some s) ∨ ∃ e : Nat, 1 ≤ e ∧ e < k ∧ d.getD a 0 = (e : Int) ∧ IsD (nx to) s a e) →
    (∀ x, x ∈ at_ ↔ (k = 1 ∧ x = (s : Int)) ∨ (2 ≤ k ∧ ∃ a : Nat, a < to.length ∧ x = (a : Int) ∧ d.getD a 0 = ((k - 1 : Nat) : Int))) →
    ∃ d', F42.l6 (v3, v4, v5, (s : Int), (k : Int), to, d, back, at_, far) = some (v3, v4, v5, (s : Int), to, d', far) ∧ Dst to s d' := by
  intro z
  induction z using Nat.strongRecOn with
  | ind z ih =>
    intro k d at_ hz hk1 hkz hdl hal hd hat
    have hn0 := hg.n
    cases hne : at_ with
    | nil =>
      subst hne
      have dd : decide ((([] : List Int).length : Int) > 0) = false := dF (by simp)
      refine ⟨d, ?_, hdl, ?_⟩
      · unfold F42.l6
        exact lim_out (by simp only [F42.l6.b, dd, cF])
      · have hk2 : 2 ≤ k := by
          apply Classical.byContradiction
          intro h
          have := (hat (s : Int)).2 (.inl ⟨by omega, rfl⟩)
          simp at this
        have never : ∀ j, 1 ≤ j → ∀ a, a < to.length → d.getD a 0 = 0 → it (nx to) j a ≠ some s := by
          intro j
          induction j with
          | zero => intro h; omega
          | succ j ihj =>
            intro _ a ha h0 e
            rcases hd a ha with ⟨_, hno⟩ | ⟨e', h1, h2, h3, _⟩
            · by_cases hjk : j + 1 < k
              · exact hno (j + 1) (by omega) hjk e
              · have e2 : (nx to a).bind (it (nx to) j) = some s := e
                cases hx : nx to a with
                | none => rw [hx] at e2; cases e2
                | some b =>
                  rw [hx] at e2
                  have e2 : it (nx to) j b = some s := e2
                  have hbl := hg.lt hx
                  have hj1 : 1 ≤ j := by omega
                  rcases hd b hbl with ⟨hb0, _⟩ | ⟨e', h1, h2, h3, h4⟩
                  · exact ihj hj1 b hbl hb0 e2
                  · by_cases hek : e' = k - 1
                    · have := (hat (b : Int)).2 (.inr ⟨hk2, b, hbl, rfl, by rw [h3, hek]⟩)
                      simp at this
                    · refine hno (e' + 1) (by omega) (by omega) ?_
                      show (nx to a).bind (it (nx to) e') = some s
                      rw [hx]
                      exact (h4.2 (by omega)).1
            · rw [h3] at h0; omega
        intro a ha
        rcases hd a ha with ⟨h0, _⟩ | ⟨e', h1, h2, h3, h4⟩
        · exact ⟨0, h0, fun _ j hj => never j hj a ha h0, fun h => by omega⟩
        · exact ⟨e', h3, h4⟩
    | cons x0 r0 =>
      rw [← hne]
      have dd : decide ((at_.length : Int) > 0) = true := dT (by rw [hne]; simp)
      have hatn : ∀ x ∈ at_, ∃ i : Nat, i < to.length ∧ x = (i : Int) := fun x hx => by
        rcases (hat x).1 hx with ⟨_, rfl⟩ | ⟨_, a, ha, rfl, _⟩
        · exact ⟨s, hs, rfl⟩
        · exact ⟨a, ha, rfl⟩
      obtain ⟨st, l8, hm⟩ := F42.l8_ok hg v3 v4 v5 (s : Int) (k : Int) (by omega) hb d at_ hatn hal (by omega) hdl far
      have w : Go.IntKind.wrap .i64 ((k : Int) + 1) = ((k + 1 : Nat) : Int) := by rw [w64 (by omega) (by omega)]; rfl
      have run : F42.l6 (v3, v4, v5, (s : Int), (k : Int), to, d, back, at_, far) = F42.l6 (v3, v4, v5, (s : Int), ((k + 1 : Nat) : Int), to, st.1, back, st.2, far) := by
        unfold F42.l6
        exact lim_in (by simp only [F42.l6.b, dd, cT, l8, bS, w])
      -- who leads to one of these comes to s in k steps
      have hin : ∀ a, a < to.length → d.getD a 0 = 0 → ((a : Int) ∈ at_.flatMap (pre back) ↔ it (nx to) k a = some s) := fun a ha h0 => by
        have hno : ∀ j, 1 ≤ j → j < k → it (nx to) j a ≠ some s := by
          rcases hd a ha with ⟨_, hno⟩ | ⟨e', h1, h2, h3, _⟩
          · exact hno
          · rw [h3] at h0; omega
        obtain ⟨k', rfl⟩ : ∃ k', k = k' + 1 := ⟨k - 1, by omega⟩
        have hit : it (nx to) (k' + 1) a = (nx to a).bind (it (nx to) k') := rfl
        rw [List.mem_flatMap, hit]
        constructor
        · rintro ⟨y, hy, hx⟩
          obtain ⟨b, hbl, rfl⟩ := hatn y hy
          unfold pre at hx
          rw [Int.toNat_natCast] at hx
          obtain ⟨a', a1, a2, a3⟩ := (hb.mem b hbl _).1 hx
          have : a' = a := by omega
          subst this
          rw [a3]
          show it (nx to) k' b = some s
          rcases (hat _).1 hy with ⟨e1, e2⟩ | ⟨e1, c, e2, e3, e4⟩
          · have : k' = 0 := by omega
            subst this
            show some b = some s
            rw [show b = s by omega]
          · have : c = b := by omega
            subst this
            rcases hd c hbl with ⟨h0', _⟩ | ⟨e', g1, g2, g3, g4⟩
            · rw [h0'] at e4; omega
            · have : e' = k' := by rw [g3] at e4; omega
              subst this
              exact (g4.2 (by omega)).1
        · intro e
          cases hx : nx to a with
          | none => rw [hx] at e; cases e
          | some b =>
            rw [hx] at e
            have e : it (nx to) k' b = some s := e
            have hbl := hg.lt hx
            refine ⟨(b : Int), ?_, by unfold pre; rw [Int.toNat_natCast]; exact (hb.mem b hbl _).2 ⟨a, ha, rfl, hx⟩⟩
            rw [hat]
            cases k' with
            | zero =>
              have e : some b = some s := e
              injection e with e
              exact .inl ⟨rfl, by omega⟩
            | succ k' =>
              refine .inr ⟨by omega, b, hbl, rfl, ?_⟩
              rcases hd b hbl with ⟨_, hno'⟩ | ⟨e', g1, g2, g3, g4⟩
              · exact absurd e (hno' (k' + 1) (by omega) (by omega))
              · by_cases hek : e' = k' + 1
                · rw [g3, hek]; rfl
                · refine absurd ?_ (hno (e' + 1) (by omega) (by omega))
                  show (nx to a).bind (it (nx to) e') = some s
                  rw [hx]
                  exact (g4.2 (by omega)).1
      have hd' : ∀ a, a < to.length → (st.1.getD a 0 = 0 ∧ ∀ j, 1 ≤ j → j < k + 1 → it (nx to) j a ≠ some s) ∨ ∃ e : Nat, 1 ≤ e ∧ e < k + 1 ∧ st.1.getD a 0 = (e : Int) ∧ IsD (nx to) s a e := fun a ha => by
        have hv := hm.val a ha
        rcases hd a ha with ⟨h0, hno⟩ | ⟨e', g1, g2, g3, g4⟩
        · rw [if_neg (by simpa using h0)] at hv
          by_cases hl : (a : Int) ∈ at_.flatMap (pre back)
          · rw [if_pos hl] at hv
            exact .inr ⟨k, hk1, by omega, hv, fun h => by omega, fun _ => ⟨(hin a ha h0).1 hl, fun j h1 h2 => hno j h1 h2⟩⟩
          · rw [if_neg hl] at hv
            refine .inl ⟨hv, fun j h1 h2 e => ?_⟩
            by_cases hjk : j = k
            · subst hjk; exact hl ((hin a ha h0).2 e)
            · exact hno j h1 (by omega) e
        · rw [if_pos (by rw [g3]; omega)] at hv
          exact .inr ⟨e', g1, by omega, by rw [hv]; exact g3, g4⟩
      have hat' : ∀ x, x ∈ st.2 ↔ (k + 1 = 1 ∧ x = (s : Int)) ∨ (2 ≤ k + 1 ∧ ∃ a : Nat, a < to.length ∧ x = (a : Int) ∧ st.1.getD a 0 = ((k + 1 - 1 : Nat) : Int)) := fun x => by
        rw [hm.new]
        constructor
        · rintro ⟨i, h1, h2, h3, h4⟩
          refine .inr ⟨by omega, i, h1, h2, ?_⟩
          rw [hm.val i h1, if_neg (by simpa using h3), if_pos (by rw [← h2]; exact h4)]
          rfl
        · rintro (⟨h1, _⟩ | ⟨_, a, h1, h2, h3⟩)
          · omega
          · have hv := hm.val a h1
            rw [h3] at hv
            rcases hd a h1 with ⟨h0, _⟩ | ⟨e', g1, g2, g3, g4⟩
            · rw [if_neg (by simpa using h0)] at hv
              by_cases hl : (a : Int) ∈ at_.flatMap (pre back)
              · exact ⟨a, h1, h2, h0, by rw [h2]; exact hl⟩
              · rw [if_neg hl] at hv; omega
            · rw [if_pos (by rw [g3]; omega), g3] at hv; omega
      have hcnt := hm.cnt
      rw [run]
      by_cases hnew : st.2 = []
      · -- nothing new: the next round ends
        by_cases hzz : zeros st.1 < z
        · exact ih (zeros st.1) hzz (k + 1) st.1 st.2 rfl (by omega) (by omega) hm.len (by rw [hnew]; simp) hd' hat'
        · rw [hnew] at hat' ⊢
          have dd2 : decide ((([] : List Int).length : Int) > 0) = false := dF (by simp)
          have never : ∀ j, 1 ≤ j → ∀ a, a < to.length → st.1.getD a 0 = 0 → it (nx to) j a ≠ some s := by
            intro j
            induction j with
            | zero => intro h; omega
            | succ j ihj =>
              intro _ a ha h0 e
              rcases hd' a ha with ⟨_, hno⟩ | ⟨e', h1, h2, h3, _⟩
              · by_cases hjk : j + 1 < k + 1
                · exact hno (j + 1) (by omega) hjk e
                · have e2 : (nx to a).bind (it (nx to) j) = some s := e
                  cases hx : nx to a with
                  | none => rw [hx] at e2; cases e2
                  | some b =>
                    rw [hx] at e2
                    have e2 : it (nx to) j b = some s := e2
                    have hbl := hg.lt hx
                    have hj1 : 1 ≤ j := by omega
                    rcases hd' b hbl with ⟨hb0, _⟩ | ⟨e', h1, h2, h3, h4⟩
                    · exact ihj hj1 b hbl hb0 e2
                    · by_cases hek : e' = k + 1 - 1
                      · have := (hat' (b : Int)).2 (.inr ⟨by omega, b, hbl, rfl, by rw [h3, hek]⟩)
                        simp at this
                      · refine hno (e' + 1) (by omega) (by omega) ?_
                        show (nx to a).bind (it (nx to) e') = some s
                        rw [hx]
                        exact (h4.2 (by omega)).1
              · rw [h3] at h0; omega
          refine ⟨st.1, ?_, hm.len, fun a ha => ?_⟩
          · unfold F42.l6
            exact lim_out (by simp only [F42.l6.b, dd2, cF])
          · rcases hd' a ha with ⟨h0, _⟩ | ⟨e', h1, h2, h3, h4⟩
            · exact ⟨0, h0, fun _ j hj => never j hj a ha h0, fun h => by omega⟩
            · exact ⟨e', h3, h4⟩
      · have hpos : 0 < st.2.length := List.length_pos_iff.2 hnew
        exact ih (zeros st.1) (by omega) (k + 1) st.1 st.2 rfl (by omega) (by omega) hm.len (by omega) hd' hat'

/-- The reference's circle from s. -/
noncomputable def circL (to : List (List Int)) (s : Nat) : List Int := (F39.F (to, (s : Int))).getD []
theorem circL_ok {to : List (List Int)} (hg : FG to) {s : Nat} (hs : s < to.length) : F39.F (to, (s : Int)) = some (circL to s) ∧ CircOf (nx to) s (circL to s) := by
  obtain ⟨r, h1, h2⟩ := F39.ok hg hs
  have : circL to s = r := by unfold circL; rw [h1]; rfl
  rw [this]; exact ⟨h1, h2⟩
/-- The better of two. -/
noncomputable def betC (to : List (List Int)) (b : List Int) (s : Nat) : List Int := if (circL to s).length > 0 ∧ (b.length = 0 ∨ (circL to s).length < b.length) then circL to s else b
/-- The best from s on (so many). -/
noncomputable def bestF (to : List (List Int)) : Nat → Nat → List Int → List Int
  | 0, _, b => b
  | m + 1, s, b => bestF to m (s + 1) (betC to b s)

theorem circ_len {f : Nat → Option Nat} {s : Nat} {r : List Int} (h : CircOf f s r) : IsD f s s r.length := by
  rcases h with ⟨rfl, h⟩ | ⟨m, rfl, h⟩
  · exact h
  · rw [pth_len]; exact h

/-- What is kept of the best. -/
def RB (to : List (List Int)) (b : List Int) (best frm : Int) (far : List Int) : Prop :=
  (b = [] ∧ best = 0) ∨ ∃ c : Nat, c < to.length ∧ frm = (c : Int) ∧ 0 < b.length ∧ best = (b.length : Int) ∧ CircOf (nx to) c b ∧ Dst to c far

theorem F42.l0_ok {to : List (List Int)} (hg : FG to) : ∀ (m s : Nat) (b : List Int) (best frm : Int) (far : List Int), s + m = to.length → RB to b best frm far →
    ∃ best' frm' far', F42.l0 ((to.length : Int), best, frm, (s : Int), to, far) = some (best', frm', to, far') ∧ RB to (bestF to m s b) best' frm' far'
  | 0, s, b, best, frm, far, hs, hr => by
    have dd : decide ((s : Int) < (to.length : Int)) = false := dF (by omega)
    refine ⟨best, frm, far, ?_, hr⟩
    unfold F42.l0
    exact lim_out (by simp only [F42.l0.b, dd, cF])
  | m + 1, s, b, best, frm, far, hs, hr => by
    have hn0 := hg.n
    have hsl : s < to.length := by omega
    have dd : decide ((s : Int) < (to.length : Int)) = true := dT (by omega)
    have d0 : (((decide (0 ≤ (to.length : Int))) && (decide ((to.length : Int) ≤ (to.length : Int)))) && (decide ((to.length : Int) ≤ 274877906944))) = true := by simp; omega
    obtain ⟨back, l2, hb⟩ := F42.l2_ok hg (to.length : Int) best frm (s : Int) (List.replicate to.length 0) far to.length 0 (List.replicate to.length []) (by omega) (.zero to)
    rw [show ((0 : Nat) : Int) = 0 from rfl] at l2
    have hz0 : ∀ a, (List.replicate to.length (0 : Int)).getD a 0 = 0 := fun a => by
      simp only [List.getD, List.getElem?_replicate]
      split <;> rfl
    obtain ⟨d, l6, hdl, hd⟩ := F42.l6_ok hg hb hsl (to.length : Int) best frm far to.length 1 (List.replicate to.length 0) [(s : Int)] (zeros_rep _) (by omega) (by omega) (by simp) (by simp) (fun a ha => .inl ⟨hz0 a, fun j h1 h2 => by omega⟩) (fun x => by
      constructor
      · intro h; exact .inl ⟨rfl, by simpa using h⟩
      · rintro (⟨_, h⟩ | ⟨h, _⟩)
        · simp [h]
        · omega)
    obtain ⟨e, he1, he2⟩ := hd s hsl
    obtain ⟨_, hc⟩ := circL_ok hg hsl
    have hel : (circL to s).length = e := (circ_len hc).uniq he2
    have w : Go.IntKind.wrap .i64 ((s : Int) + 1) = ((s + 1 : Nat) : Int) := by rw [w64 (by omega) (by omega)]; rfl
    have d1 : decide ((0 : Int) ≤ (s : Int)) = true := dT (by omega)
    have d2 : decide ((s : Int) < (d.length : Int)) = true := dT (by omega)
    rw [show ((1 : Nat) : Int) = 1 from rfl] at l6
    -- the condition is the reference's
    have hcond : ((decide ((e : Int) > 0)) && ((best == 0) || (decide ((e : Int) < best)))) = decide ((circL to s).length > 0 ∧ (b.length = 0 ∨ (circL to s).length < b.length)) := by
      rw [hel]
      have hbb : best = (b.length : Int) := by
        rcases hr with ⟨rfl, rfl⟩ | ⟨c, _, _, _, h, _⟩
        · rfl
        · exact h
      rw [hbb]
      by_cases h1 : e > 0
      · rw [dT (show (e : Int) > 0 by omega), Bool.true_and]
        by_cases h2 : b.length = 0
        · rw [qT (show (b.length : Int) = 0 by omega), Bool.true_or, dT ⟨h1, .inl h2⟩]
        · rw [qF (show ¬ (b.length : Int) = 0 by omega), Bool.false_or]
          by_cases h3 : e < b.length
          · rw [dT (show (e : Int) < (b.length : Int) by omega), dT ⟨h1, .inr h3⟩]
          · rw [dF (show ¬ (e : Int) < (b.length : Int) by omega), dF (fun h => h.2.elim h2 h3)]
      · rw [dF (show ¬ (e : Int) > 0 by omega), Bool.false_and, dF (fun h => h1 h.1)]
    have hstep : ∀ (best' frm' : Int) (far' : List Int), F42.l0.b ((to.length : Int), best, frm, (s : Int), to, far) = some (.inl ((to.length : Int), best', frm', ((s + 1 : Nat) : Int), to, far')) → RB to (betC to b s) best' frm' far' →
        ∃ best'' frm'' far'', F42.l0 ((to.length : Int), best, frm, (s : Int), to, far) = some (best'', frm'', to, far'') ∧ RB to (bestF to (m + 1) s b) best'' frm'' far'' := fun best' frm' far' hst hrb => by
      obtain ⟨b2, f2, r2, h1, h2⟩ := F42.l0_ok hg m (s + 1) (betC to b s) best' frm' far' (by omega) hrb
      refine ⟨b2, f2, r2, ?_, h2⟩
      rw [← h1]
      unfold F42.l0
      exact lim_in hst
    by_cases hcc : (circL to s).length > 0 ∧ (b.length = 0 ∨ (circL to s).length < b.length)
    · rw [dT hcc] at hcond
      refine hstep (e : Int) (s : Int) d ?_ ?_
      · simp only [F42.l0.b, dd, d0, cT, Int.toNat_natCast, l2, bS, l6, d1, d2, Bool.and_self, he1, Bool.or_true, hcond, w]
      · unfold betC
        rw [if_pos hcc]
        exact .inr ⟨s, hsl, rfl, hcc.1, by rw [hel], hc, hdl, hd⟩
    · rw [dF hcc] at hcond
      refine hstep best frm far ?_ ?_
      · simp only [F42.l0.b, dd, d0, cT, cF, Int.toNat_natCast, l2, bS, l6, d1, d2, Bool.and_self, he1, Bool.or_true, hcond, w]
      · unfold betC
        rw [if_neg hcc]
        exact hr

theorem F42.l14_ok {to : List (List Int)} (hg : FG to) {a b : Nat} (ha : a < to.length) (hx : nx to a = some b) (far : List Int) (hf : far.length = to.length) (v22 : Int) (hv : far.getD b 0 = v22) (l : List Int) :
    F42.l14 (v22, -1, (a : Int), ((to.getD a []).length : Int), 0, to, far, l) = some (v22, (b : Int), to, far, l) := by
  have e2 := hg.row_of hx
  have hbl := hg.lt hx
  rw [e2]
  have d2 : decide ((0 : Int) < (([(b : Int)] : List Int).length : Int)) = true := dT (by simp)
  have d4 : decide ((1 : Int) < (([(b : Int)] : List Int).length : Int)) = false := dF (by simp)
  have w : Go.IntKind.wrap .i64 (0 + 1) = 1 := by decide
  have d5 : decide ((0 : Int) ≤ 0) = true := rfl
  have d6 : decide ((0 : Int) ≤ (b : Int)) = true := dT (by omega)
  have d7 : decide ((b : Int) < (far.length : Int)) = true := dT (by omega)
  have d8 : decide ((-1 : Int) < 0) = true := rfl
  have q : (far.getD b 0 == v22) = true := qT hv
  have g : List.getD [(b : Int)] (Int.toNat 0) 0 = (b : Int) := rfl
  unfold F42.l14
  refine (lim_in (x' := (v22, (b : Int), (a : Int), (([(b : Int)] : List Int).length : Int), 1, to, far, l)) (by simp only [F42.l14.b, d2, d5, d6, d7, d8, Bool.and_self, Bool.true_or, cT, Int.toNat_natCast, e2, g, q, w])).trans ?_
  exact lim_out (by simp only [F42.l14.b, d4, cF])

theorem F42.l12_ok {to : List (List Int)} (hg : FG to) {c m : Nat} (hc : c < to.length) (hm : IsD (nx to) c c (m + 1)) (hml : m ≤ 2000) {far : List Int} (hd : Dst to c far) : ∀ (r k a : Nat), k + r = m → it (nx to) k c = some a → IsD (nx to) c a (r + 1) →
    F42.l12 ((r : Int), to, far, pth (nx to) c k) = some (pth (nx to) c m)
  | 0, k, a, hk, he, ha => by
    have dd : decide (((0 : Nat) : Int) > 0) = false := rfl
    rw [show k = m by omega]
    unfold F42.l12
    exact lim_out (by simp only [F42.l12.b, dd, cF])
  | r + 1, k, a, hk, he, ha => by
    have hn0 := hg.n
    have hal := hg.it_lt hc he
    obtain ⟨b, hx, hb⟩ := ha.step (by omega)
    have hbl := hg.lt hx
    obtain ⟨e, he1, he2⟩ := hd.2 b hbl
    have hee : e = r + 1 := he2.uniq hb
    have hla := pth_last he
    have hl : (pth (nx to) c k).length = k + 1 := pth_len
    have hit : it (nx to) (k + 1) c = some b := by rw [it_succ, he]; exact hx
    have dd : decide (((r + 1 : Nat) : Int) > 0) = true := dT (by omega)
    have w1 : Go.IntKind.wrap .i64 (((pth (nx to) c k).length : Int) - 1) = (k : Int) := by rw [w64 (by omega) (by omega)]; omega
    have w2 : Go.IntKind.wrap .i64 (((r + 1 : Nat) : Int) - 1) = (r : Int) := by rw [w64 (by omega) (by omega)]; omega
    have d1 : decide ((0 : Int) ≤ (k : Int)) = true := dT (by omega)
    have d2 : decide ((k : Int) < ((pth (nx to) c k).length : Int)) = true := dT (by omega)
    have d3 : decide ((0 : Int) ≤ (a : Int)) = true := dT (by omega)
    have d4 : decide ((a : Int) < (to.length : Int)) = true := dT (by omega)
    have d5 : decide (((pth (nx to) c k).length + ((b : Int) :: ([] : List Int)).length) ≤ 274877906944) = true := dT (by simp only [List.length_cons, List.length_nil]; omega)
    have l14 := F42.l14_ok hg hal hx far hd.1 ((r + 1 : Nat) : Int) (by rw [he1, hee]) (pth (nx to) c k)
    rw [← F42.l12_ok hg hc hm hml hd r (k + 1) b (by omega) hit hb, pth_succ hit]
    unfold F42.l12
    exact lim_in (by simp only [F42.l12.b, dd, cT, w1, w2, d1, d2, d3, d4, d5, Bool.and_self, Int.toNat_natCast, hla, l14, bS])

/-- The best circle of all. -/
noncomputable def bestR (to : List (List Int)) : List Int := bestF to to.length 0 []

theorem F42.ok {to : List (List Int)} (hg : FG to) : F42.F to = some (if (bestR to).length = 0 then .inl () else .inr (bestR to)) := by
  have hn0 := hg.n
  obtain ⟨best, frm, far, l0, hr⟩ := F42.l0_ok hg to.length 0 [] 0 0 [] (by omega) (.inl ⟨rfl, rfl⟩)
  rw [show ((0 : Nat) : Int) = 0 from rfl] at l0
  rw [show bestF to to.length 0 [] = bestR to from rfl] at hr
  rcases hr with ⟨h1, h2⟩ | ⟨c, h1, h2, h3, h4, h5, h6⟩
  · have q : (best == 0) = true := qT h2
    rw [h1]
    simp only [F42.F, l0, bS, q, cT, List.length_nil, if_true]
  · have q : (best == 0) = false := qF (by omega)
    rw [if_neg (by omega)]
    rcases h5 with ⟨h5, _⟩ | ⟨m, h5, h7⟩
    · rw [h5] at h3; simp at h3
    · have hle : m + 1 ≤ to.length + 1 := by
        -- so many steps lie on the row
        apply Classical.byContradiction
        intro hc
        have run : ∀ k, k ≤ m → ∃ b, it (nx to) k c = some b ∧ b < to.length := fun k hk => by
          cases hi : it (nx to) k c with
          | none => have := it_none hi (m + 1) (by omega); rw [(h7.2 (by omega)).1] at this; cases this
          | some b => exact ⟨b, rfl, hg.it_lt h1 hi⟩
        obtain ⟨p, q, hp, hq, hpq⟩ := pigeon to.length (fun k => (it (nx to) k c).getD 0) (fun k hk => by
          obtain ⟨b, e, hb⟩ := run k (by omega)
          rw [e]; exact hb)
        obtain ⟨x, ex, _⟩ := run p (by omega)
        obtain ⟨y, ey, _⟩ := run q (by omega)
        rw [ex, ey] at hpq
        have hxy : x = y := hpq
        subst hxy
        -- from there it is as far by both ways
        have e1 : it (nx to) (m + 1 - q) x = some c := by
          have := (h7.2 (by omega)).1
          rw [show m + 1 = q + (m + 1 - q) by omega, it_add, ey] at this
          exact this
        have e2 : it (nx to) (p + (m + 1 - q)) c = some c := by rw [it_add, ex]; exact e1
        exact (h7.2 (by omega)).2 (p + (m + 1 - q)) (by omega) (by omega) e2
      have hbl : best = ((m + 1 : Nat) : Int) := by rw [h4, h5, pth_len]
      have w2 : Go.IntKind.wrap .i64 (best - 1) = (m : Int) := by rw [hbl, w64 (by omega) (by omega)]; omega
      have l12 := F42.l12_ok hg h1 h7 (by omega) h6 m 0 c (by omega) rfl h7
      have p0 : pth (nx to) c 0 = ((c : Int) :: []) := rfl
      rw [p0] at l12
      rw [h5]
      simp only [F42.F, l0, bS, q, cF, w2, h2, l12]

end Go.Proofs.YtiogkndjoinpoaaDoor.AX

/- The order of doing. No conditions. -/
namespace Go.Proofs.YtiogkndjoinpoaaDoor.AX
open Go

/-- Is what it leads to done? -/
def okT (to : List (List Int)) (done : List Bool) (i : Nat) : Bool := match nx to i with
  | none => true
  | some b => done.getD b false
def rdy (to : List (List Int)) (done : List Bool) (i : Nat) : Bool := !done.getD i false && okT to done i
/-- The first that is ready, from i on (so many). -/
def fstR (to : List (List Int)) (done : List Bool) : Nat → Nat → Option Nat
  | 0, _ => none
  | m + 1, i => if rdy to done i = true then some i else fstR to done m (i + 1)

theorem F24.l4_ok {to : List (List Int)} (hg : FG to) (i : Nat) (hi : i < to.length) (q : Bool) (order : List Int) (done : List Bool) (hd : done.length = to.length) :
    F24.l4 ((i : Int), q, 0, to, order, done) = some ((i : Int), q && okT to done i, to, order, done) := by
  have d0 : decide ((0 : Int) ≤ (i : Int)) = true := dT (by omega)
  have d1 : decide ((i : Int) < (to.length : Int)) = true := dT (by omega)
  unfold okT
  rcases hg.cases i with ⟨e1, e2⟩ | ⟨j, hj, e1, e2⟩
  · have d2 : decide ((0 : Int) < (([] : List Int).length : Int)) = false := dF (by simp)
    rw [e1, Bool.and_true]
    unfold F24.l4
    exact lim_out (by simp only [F24.l4.b, d0, d1, Bool.and_self, cT, cF, Int.toNat_natCast, e2, d2])
  · have d2 : decide ((0 : Int) < (([(j : Int)] : List Int).length : Int)) = true := dT (by simp)
    have d4 : decide ((1 : Int) < (([(j : Int)] : List Int).length : Int)) = false := dF (by simp)
    have w : Go.IntKind.wrap .i64 (0 + 1) = 1 := by decide
    have d5 : decide ((0 : Int) ≤ 0) = true := rfl
    have d6 : decide ((0 : Int) ≤ (j : Int)) = true := dT (by omega)
    have d7 : decide ((j : Int) < (done.length : Int)) = true := dT (by omega)
    have g : List.getD [(j : Int)] (Int.toNat 0) 0 = (j : Int) := rfl
    rw [e1]
    unfold F24.l4
    refine (lim_in (x' := ((i : Int), q && done.getD j false, 1, to, order, done)) (by simp only [F24.l4.b, d0, d1, d2, d5, d6, d7, Bool.and_self, Bool.or_true, cT, Int.toNat_natCast, e2, g, w])).trans ?_
    exact lim_out (by simp only [F24.l4.b, d0, d1, Bool.and_self, cT, cF, Int.toNat_natCast, e2, d4])

theorem F24.l2_ok {to : List (List Int)} (hg : FG to) (order : List Int) (done : List Bool) (hd : done.length = to.length) (ho : order.length ≤ 1000) : ∀ (m i : Nat), i + m = to.length →
    F24.l2 ((i : Int), to, order, done) = some (match fstR to done m i with | none => (to, order, done) | some a => (to, order ++ [(a : Int)], done.set a true))
  | 0, i, hi => by
    have dd : decide ((i : Int) < (to.length : Int)) = false := dF (by omega)
    unfold F24.l2
    exact lim_out (by simp only [F24.l2.b, dd, cF, fstR])
  | m + 1, i, hi => by
    have hn0 := hg.n
    have dd : decide ((i : Int) < (to.length : Int)) = true := dT (by omega)
    have d1 : decide ((0 : Int) ≤ (i : Int)) = true := dT (by omega)
    have d2 : decide ((i : Int) < (done.length : Int)) = true := dT (by omega)
    have d3 : decide ((order.length + ((i : Int) :: ([] : List Int)).length) ≤ 274877906944) = true := dT (by simp only [List.length_cons, List.length_nil]; omega)
    have w : Go.IntKind.wrap .i64 ((i : Int) + 1) = ((i + 1 : Nat) : Int) := by rw [w64 (by omega) (by omega)]; rfl
    have l4 := F24.l4_ok hg i (by omega) (!done.getD i false) order done hd
    rw [show (!done.getD i false && okT to done i) = rdy to done i from rfl] at l4
    simp only [fstR]
    cases hr : rdy to done i with
    | true =>
      rw [hr] at l4
      rw [if_pos rfl]
      unfold F24.l2
      exact lim_out (by simp only [F24.l2.b, dd, d1, d2, d3, Bool.and_self, cT, Int.toNat_natCast, l4, bS])
    | false =>
      rw [hr] at l4
      rw [if_neg (by decide), ← F24.l2_ok hg order done hd ho m (i + 1) (by omega)]
      unfold F24.l2
      exact lim_in (by simp only [F24.l2.b, dd, d1, d2, Bool.and_self, cT, cF, Int.toNat_natCast, l4, bS, w])

/-- The order, from here on. -/
def ordF (to : List (List Int)) : Nat → List Int → List Bool → List Int
  | 0, order, _ => order
  | m + 1, order, done => match fstR to done to.length 0 with
    | none => order
    | some a => ordF to m (order ++ [(a : Int)]) (done.set a true)
def ordR (to : List (List Int)) : List Int := ordF to to.length [] (List.replicate to.length false)

theorem fstR_some {to : List (List Int)} {done : List Bool} : ∀ {m i a : Nat}, fstR to done m i = some a → i ≤ a ∧ a < i + m ∧ rdy to done a = true
  | 0, i, a, h => by cases h
  | m + 1, i, a, h => by
    simp only [fstR] at h
    split at h
    · injection h with h; subst h; exact ⟨Nat.le_refl _, by omega, by assumption⟩
    · have := fstR_some h; exact ⟨by omega, by omega, this.2.2⟩
theorem fstR_none {to : List (List Int)} {done : List Bool} : ∀ {m i : Nat}, fstR to done m i = none → ∀ a, i ≤ a → a < i + m → rdy to done a = false
  | 0, i, h, a, h1, h2 => by omega
  | m + 1, i, h, a, h1, h2 => by
    simp only [fstR] at h
    split at h
    · cases h
    · rename_i hc
      by_cases e : a = i
      · subst e; simpa using hc
      · exact fstR_none h a (by omega) (by omega)

theorem unseen_pos : ∀ {l : List Bool}, 0 < unseen l → ∃ i, i < l.length ∧ l.getD i false = false
  | [], h => by simp [unseen] at h
  | b :: l, h => by
    cases b with
    | false => exact ⟨0, by simp, rfl⟩
    | true =>
      obtain ⟨i, h1, h2⟩ := unseen_pos (l := l) (by simpa [unseen] using h)
      exact ⟨i + 1, by simpa using h1, by simpa using h2⟩

/-- No circle: one is ready. -/
theorem first_ready {to : List (List Int)} (hg : FG to) (hc : ∀ s, s < to.length → IsD (nx to) s s 0) {done : List Bool} (hd : done.length = to.length) (hu : 0 < unseen done) : ∃ a, fstR to done to.length 0 = some a ∧ a < to.length ∧ done.getD a false = false := by
  obtain ⟨i, hi, h0⟩ := unseen_pos hu
  obtain ⟨a, a1, a2, a3⟩ := some_ready (f := nx to) (n := to.length) (fun i j h => hg.lt h) (fun s hs k hk => (hc s hs).1 rfl k hk) (fun i => done.getD i false) (i := i) (by omega) h0
  cases hf : fstR to done to.length 0 with
  | none =>
    have := fstR_none hf a (by omega) (by omega)
    unfold rdy okT at this
    rw [a2] at this
    cases hx : nx to a with
    | none => rw [hx] at this; simp at this
    | some b => rw [hx] at this; dsimp only at this; rw [a3 b hx] at this; simp at this
  | some b =>
    obtain ⟨_, b1, b2⟩ := fstR_some hf
    refine ⟨b, rfl, by omega, ?_⟩
    unfold rdy at b2
    have h3 := (Bool.and_eq_true_iff.mp b2).1
    cases hh : done.getD b false with
    | false => rfl
    | true => rw [hh] at h3; cases h3

theorem F24.l0_ok {to : List (List Int)} (hg : FG to) (hc : ∀ s, s < to.length → IsD (nx to) s s 0) : ∀ (m : Nat) (order : List Int) (done : List Bool), unseen done = m → order.length + m = to.length → done.length = to.length → F24.l0 (to, order, done) = some (ordF to m order done)
  | 0, order, done, hu, ho, hd => by
    have dd : decide ((order.length : Int) < (to.length : Int)) = false := dF (by omega)
    unfold F24.l0
    exact lim_out (by simp only [F24.l0.b, dd, cF, ordF])
  | m + 1, order, done, hu, ho, hd => by
    have hn0 := hg.n
    have dd : decide ((order.length : Int) < (to.length : Int)) = true := dT (by omega)
    have l2 := F24.l2_ok hg order done hd (by omega) to.length 0 (by omega)
    obtain ⟨a, a1, a2, a3⟩ := first_ready hg hc hd (by omega)
    have hus := unseen_set (l := done) (i := a) (by omega) a3
    rw [a1] at l2
    rw [show ((0 : Nat) : Int) = 0 from rfl] at l2
    simp only [ordF, a1]
    rw [← F24.l0_ok hg hc m (order ++ [(a : Int)]) (done.set a true) (by omega) (by simp; omega) (by simpa using hd)]
    unfold F24.l0
    exact lim_in (by simp only [F24.l0.b, dd, cT, l2, bS])

theorem F24.ok {to : List (List Int)} (hg : FG to) (hc : ∀ s, s < to.length → IsD (nx to) s s 0) : F24.F to = some (ordR to) := by
  have hn0 := hg.n
  have d0 : (((decide (0 ≤ (to.length : Int))) && (decide ((to.length : Int) ≤ (to.length : Int)))) && (decide ((to.length : Int) ≤ 274877906944))) = true := by simp; omega
  have l0 := F24.l0_ok hg hc to.length [] (List.replicate to.length false) (unseen_rep _) (by simp) (by simp)
  simp only [F24.F, d0, cT, Int.toNat_natCast, l0, bS]
  rfl

/- The program's. -/
theorem F26.l12_ok {to : List (List Int)} (hg : FG to) (r0 : List S53) (i : Nat) (hi : i < to.length) (q : Bool) (v182 v183 : Int) (order : List Int) (done : List Bool) (hd : done.length = to.length) :
    F26.l12 ((i : Int), q, v182, v183, (i : Int), ((to.getD i []).length : Int), 0, r0, to, done, order) = some ((i : Int), q && okT to done i, v182, v183, r0, to, done, order) := by
  unfold okT
  rcases hg.cases i with ⟨e1, e2⟩ | ⟨j, hj, e1, e2⟩
  · have d2 : decide ((0 : Int) < (([] : List Int).length : Int)) = false := dF (by simp)
    rw [e1, e2, Bool.and_true]
    unfold F26.l12
    exact lim_out (by simp only [F26.l12.b, cF, d2])
  · have d2 : decide ((0 : Int) < (([(j : Int)] : List Int).length : Int)) = true := dT (by simp)
    have d4 : decide ((1 : Int) < (([(j : Int)] : List Int).length : Int)) = false := dF (by simp)
    have w : Go.IntKind.wrap .i64 (0 + 1) = 1 := by decide
    have d5 : decide ((0 : Int) ≤ 0) = true := rfl
    have d6 : decide ((0 : Int) ≤ (j : Int)) = true := dT (by omega)
    have d7 : decide ((j : Int) < (done.length : Int)) = true := dT (by omega)
    have g : List.getD [(j : Int)] (Int.toNat 0) 0 = (j : Int) := rfl
    rw [e1, e2]
    unfold F26.l12
    refine (lim_in (x' := ((i : Int), q && done.getD j false, v182, v183, (i : Int), (([(j : Int)] : List Int).length : Int), 1, r0, to, done, order)) (by simp only [F26.l12.b, d2, d5, d6, d7, Bool.and_self, Bool.or_true, cT, Int.toNat_natCast, e2, g, w])).trans ?_
    exact lim_out (by simp only [F26.l12.b, cF, d4])

theorem F26.l10_ok {to : List (List Int)} (hg : FG to) (r0 : List S53) (hr : r0.length = to.length) (order : List Int) (done : List Bool) (hd : done.length = to.length) (ho : order.length ≤ 1000) : ∀ (m i : Nat), i + m = to.length →
    F26.l10 ((to.length : Int), (i : Int), r0, to, done, order) = some (match fstR to done m i with | none => (r0, to, done, order) | some a => (r0, to, done.set a true, order ++ [(a : Int)]))
  | 0, i, hi => by
    have dd : decide ((i : Int) < (to.length : Int)) = false := dF (by omega)
    unfold F26.l10
    exact lim_out (by simp only [F26.l10.b, dd, cF, fstR])
  | m + 1, i, hi => by
    have hn0 := hg.n
    have dd : decide ((i : Int) < (to.length : Int)) = true := dT (by omega)
    have d1 : decide ((0 : Int) ≤ (i : Int)) = true := dT (by omega)
    have d2 : decide ((i : Int) < (done.length : Int)) = true := dT (by omega)
    have d3 : decide ((order.length + ((i : Int) :: ([] : List Int)).length) ≤ 274877906944) = true := dT (by simp only [List.length_cons, List.length_nil]; omega)
    have w : Go.IntKind.wrap .i64 ((i : Int) + 1) = ((i + 1 : Nat) : Int) := by rw [w64 (by omega) (by omega)]; rfl
    have l4 := F26.l12_ok hg r0 i (by omega) (!done.getD i false) (to.length : Int) (i : Int) order done hd
    rw [show (!done.getD i false && okT to done i) = rdy to done i from rfl] at l4
    simp only [fstR]
    cases hrr : rdy to done i with
    | true =>
      rw [hrr] at l4
      rw [if_pos rfl]
      unfold F26.l10
      exact lim_out (by simp only [F26.l10.b, dd, d1, d2, d3, Bool.and_self, cT, Int.toNat_natCast, l4, bS])
    | false =>
      rw [hrr] at l4
      rw [if_neg (by decide), ← F26.l10_ok hg r0 hr order done hd ho m (i + 1) (by omega)]
      unfold F26.l10
      exact lim_in (by simp only [F26.l10.b, dd, d1, d2, Bool.and_self, cT, cF, Int.toNat_natCast, l4, bS, w])

theorem F26.l8_ok {to : List (List Int)} (hg : FG to) (hc : ∀ s, s < to.length → IsD (nx to) s s 0) (r0 : List S53) (hr : r0.length = to.length) : ∀ (m : Nat) (order : List Int) (done : List Bool), unseen done = m → order.length + m = to.length → done.length = to.length → F26.l8 (r0, to, done, order) = some (ordF to m order done)
  | 0, order, done, hu, ho, hd => by
    have dd : decide ((order.length : Int) < (r0.length : Int)) = false := dF (by omega)
    unfold F26.l8
    exact lim_out (by simp only [F26.l8.b, dd, cF, ordF])
  | m + 1, order, done, hu, ho, hd => by
    have hn0 := hg.n
    have dd : decide ((order.length : Int) < (r0.length : Int)) = true := dT (by omega)
    have l2 := F26.l10_ok hg r0 hr order done hd (by omega) to.length 0 (by omega)
    obtain ⟨a, a1, a2, a3⟩ := first_ready hg hc hd (by omega)
    have hus := unseen_set (l := done) (i := a) (by omega) a3
    rw [a1] at l2
    rw [show ((0 : Nat) : Int) = 0 from rfl, ← hr] at l2
    simp only [ordF, a1]
    rw [← F26.l8_ok hg hc r0 hr m (order ++ [(a : Int)]) (done.set a true) (by omega) (by simp; omega) (by simpa using hd)]
    unfold F26.l8
    exact lim_in (by simp only [F26.l8.b, dd, cT, l2, bS])

/- Each number of the order is one of these. -/
theorem ordF_lt {to : List (List Int)} : ∀ {m : Nat} {order : List Int} {done : List Bool}, (∀ x ∈ order, ∃ i : Nat, i < to.length ∧ x = (i : Int)) → ∀ x ∈ ordF to m order done, ∃ i : Nat, i < to.length ∧ x = (i : Int)
  | 0, _, _, h => h
  | m + 1, order, done, h => by
    simp only [ordF]
    cases hf : fstR to done to.length 0 with
    | none => exact h
    | some a =>
      obtain ⟨_, a1, _⟩ := fstR_some hf
      exact ordF_lt fun x hx => by
        rcases List.mem_append.1 hx with q | q
        · exact h x q
        · exact ⟨a, by omega, by simpa using q⟩
theorem ordF_len {to : List (List Int)} : ∀ {m : Nat} {order : List Int} {done : List Bool}, (ordF to m order done).length ≤ order.length + m
  | 0, _, _ => by simp [ordF]
  | m + 1, order, done => by
    simp only [ordF]
    cases hf : fstR to done to.length 0 with
    | none => dsimp only; omega
    | some a =>
      have := ordF_len (to := to) (m := m) (order := order ++ [(a : Int)]) (done := done.set a true)
      simp at this ⊢; omega

/- No best circle: none. -/
theorem bestF_zero {to : List (List Int)} : ∀ {m s : Nat} {b : List Int}, (bestF to m s b).length = 0 → b.length = 0 ∧ ∀ i, s ≤ i → i < s + m → (circL to i).length = 0
  | 0, s, b, h => ⟨h, fun i h1 h2 => by omega⟩
  | m + 1, s, b, h => by
    obtain ⟨h1, h2⟩ := bestF_zero (m := m) h
    unfold betC at h1
    split at h1
    · rename_i hc; omega
    · rename_i hc
      refine ⟨h1, fun i i1 i2 => ?_⟩
      by_cases e : i = s
      · subst e
        apply Classical.byContradiction
        intro hp
        exact hc ⟨by omega, .inl h1⟩
      · exact h2 i (by omega) (by omega)
theorem no_circle {to : List (List Int)} (hg : FG to) (h : (bestR to).length = 0) : ∀ s, s < to.length → IsD (nx to) s s 0 := fun s hs => by
  have h1 := (bestF_zero h).2 s (by omega) (by omega)
  have := circ_len (circL_ok hg hs).2
  rwa [h1] at this

end Go.Proofs.YtiogkndjoinpoaaDoor.AX

/- Names: the program and its reference agree. No conditions. -/
namespace Go.Proofs.YtiogkndjoinpoaaDoor.AX
open Go

def bt (s : ByteArray) (i : Nat) : Nat := ((s.data[i]?).getD 0).toNat
theorem bt_lt (s : ByteArray) (i : Nat) : bt s i < 256 := UInt8.toNat_lt _
theorem btAt_bt (s : ByteArray) (i : Nat) : btAt s (i : Int) = (bt s i : Int) := rfl
theorem get_bt (s : ByteArray) (i : Nat) : (s.get! i).toNat = bt s i := by
  unfold bt
  cases s with
  | mk d =>
    show (d[i]!).toNat = _
    rw [getElem!_def]
    cases d[i]? <;> rfl

theorem ext_bt (s : ByteArray) (i j : Nat) (h : i ≤ s.size) : bt (s.extract i s.size) j = bt s (i + j) := by
  unfold bt
  rw [ByteArray.data_extract, Array.getElem?_extract]
  have : s.data.size = s.size := rfl
  by_cases hj : j < min s.size s.data.size - i
  · rw [if_pos hj]
  · rw [if_neg hj, Array.getElem?_eq_none (by omega)]

theorem dec_bt (s : ByteArray) (i : Nat) (h : i < s.size) : Lib.decodeGo (s.extract i s.size) = Lib.decodeN (s.size - i) (bt s i) (bt s (i + 1)) (bt s (i + 2)) (bt s (i + 3)) := by
  have hs : (s.extract i s.size).size = s.size - i := by simp
  unfold Lib.decodeGo
  rw [if_neg (by omega), Lib.decode_at, hs]
  simp only [get_bt, Nat.zero_add, Nat.sub_zero]
  rw [ext_bt s i 0 (by omega), ext_bt s i 1 (by omega), ext_bt s i 2 (by omega), ext_bt s i 3 (by omega), Nat.add_zero]

def isA (b : Int) : Bool := ((((decide (b ≥ 97)) && (decide (b ≤ 122))) || ((decide (b ≥ 65)) && (decide (b ≤ 90)))) || (b == 95))
def is2 (r : Int) : Bool := ((((((decide (r ≥ 192)) && (decide (r ≤ 591))) && (r != 215)) && (r != 247)) || ((decide (r ≥ 913)) && (decide (r ≤ 969)))) || ((decide (r ≥ 1040)) && (decide (r ≤ 1103))))
def letR (n : Nat) (b0 b1 : Nat) : Int := if isA b0 = true then 1 else if b0 < 194 ∨ b0 > 223 ∨ n < 2 ∨ b1 < 128 ∨ b1 > 191 then 0 else if is2 (((b0 : Int) - 192) * 64 + b1 - 128) = true then 2 else 0

theorem F52.ok (s : ByteArray) (i : Nat) (h : i < s.size) (hb : s.size ≤ 1000000) : F52.F (s, (i : Int)) = some (letR (s.size - i) (bt s i) (bt s (i + 1))) := by
  have l0 := bt_lt s i
  have l1 := bt_lt s (i + 1)
  have w1 : Go.IntKind.wrap .i64 ((i : Int) + 1) = ((i + 1 : Nat) : Int) := by rw [w64 (by omega) (by omega)]; rfl
  have d1 : decide ((0 : Int) ≤ (i : Int)) = true := dT (by omega)
  have d2 : decide ((i : Int) < (s.size : Int)) = true := dT (by omega)
  have d3 : decide ((0 : Int) ≤ ((i + 1 : Nat) : Int)) = true := dT (by omega)
  unfold letR
  cases hA : isA (bt s i) with
  | true =>
    have hA' := hA
    unfold isA at hA'
    rw [if_pos rfl]
    simp only [F52.F]
    rw [btAt_bt s i]
    simp only [d1, d2, Bool.and_self, cT, hA']
  | false =>
    have hA' := hA
    unfold isA at hA'
    rw [if_neg (by decide)]
    simp only [F52.F]
    rw [w1, btAt_bt s i, btAt_bt s (i + 1)]
    simp only [d1, d2, d3, Bool.and_self, cT, hA', cF, Bool.true_and]
    by_cases c1 : bt s i < 194
    · rw [if_pos (.inl c1)]
      have e1 : decide ((bt s i : Int) < 194) = true := dT (by omega)
      simp only [e1, Bool.true_or, Bool.not_true, Bool.not_false, Bool.false_or, cT]
    · have e1 : decide ((bt s i : Int) < 194) = false := dF (by omega)
      by_cases c2 : bt s i > 223
      · rw [if_pos (.inr (.inl c2))]
        have e2 : decide ((bt s i : Int) > 223) = true := dT (by omega)
        simp only [e1, e2, Bool.true_or, Bool.or_true, Bool.not_true, Bool.not_false, Bool.false_or, cT]
      · have e2 : decide ((bt s i : Int) > 223) = false := dF (by omega)
        by_cases c3 : s.size - i < 2
        · rw [if_pos (.inr (.inr (.inl c3)))]
          have e3 : decide (((i + 1 : Nat) : Int) ≥ (s.size : Int)) = true := dT (by omega)
          have e4 : decide (((i + 1 : Nat) : Int) < (s.size : Int)) = false := dF (by omega)
          simp only [e1, e2, e3, e4, Bool.true_or, Bool.or_true, Bool.not_true, Bool.not_false, Bool.false_or, cT, cF]
        · have e3 : decide (((i + 1 : Nat) : Int) ≥ (s.size : Int)) = false := dF (by omega)
          have e4 : decide (((i + 1 : Nat) : Int) < (s.size : Int)) = true := dT (by omega)
          simp only [e1, e2, e3, e4, Bool.or_self, Bool.not_true, Bool.not_false, Bool.false_or, Bool.or_true, cT, cF]
          by_cases c4 : bt s (i + 1) < 128
          · rw [if_pos (.inr (.inr (.inr (.inl c4))))]
            have e5 : decide ((bt s (i + 1) : Int) < 128) = true := dT (by omega)
            simp only [e5, Bool.true_or, cT]
          · have e5 : decide ((bt s (i + 1) : Int) < 128) = false := dF (by omega)
            by_cases c5 : bt s (i + 1) > 191
            · rw [if_pos (.inr (.inr (.inr (.inr c5))))]
              have e6 : decide ((bt s (i + 1) : Int) > 191) = true := dT (by omega)
              simp only [e5, e6, Bool.or_true, cT]
            · have e6 : decide ((bt s (i + 1) : Int) > 191) = false := dF (by omega)
              rw [if_neg (by omega)]
              simp (disch := omega) only [e5, e6, Bool.or_self, cF, w64]
              cases h2 : is2 (((bt s i : Int) - 192) * 64 + (bt s (i + 1) : Int) - 128) with
              | true => unfold is2 at h2; simp only [h2, cT, if_true]
              | false => unfold is2 at h2; simp only [h2, cF, Bool.false_eq_true, if_false]

def nl (p0 p1 : Int) : Bool := cond (p1 == 1) (isA p0) ((p1 == 2) && is2 p0)
theorem F54.ok (a b : Int) : F54.F (a, b) = some (nl a b) := by
  simp only [F54.F, nl, isA, is2]
  cases b == 1 <;> rfl

theorem let_dec {n b0 b1 b2 b3 : Nat} (h0 : b0 < 256) (h1 : b1 < 256) (h2 : b2 < 256) (h3 : b3 < 256) (hn : 1 ≤ n) :
    nl ((Lib.decodeN n b0 b1 b2 b3).1 : Int) ((Lib.decodeN n b0 b1 b2 b3).2 : Int) = (letR n b0 b1 != 0) ∧ (letR n b0 b1 ≠ 0 → ((Lib.decodeN n b0 b1 b2 b3).2 : Int) = letR n b0 b1) ∧
    ((48 ≤ (Lib.decodeN n b0 b1 b2 b3).1 ∧ (Lib.decodeN n b0 b1 b2 b3).1 ≤ 57) ↔ (48 ≤ b0 ∧ b0 ≤ 57)) ∧ ((48 ≤ b0 ∧ b0 ≤ 57) → (Lib.decodeN n b0 b1 b2 b3).2 = 1) := by
  have a1 : isA 65533 = false := by decide
  have nA : ¬ b0 < 128 → isA (b0 : Int) = false := fun h => by
    unfold isA
    have e1 : decide ((b0 : Int) ≤ 122) = false := dF (by omega)
    have e2 : decide ((b0 : Int) ≤ 90) = false := dF (by omega)
    have e3 : ((b0 : Int) == 95) = false := qF (by omega)
    simp [e1, e2, e3]
  by_cases c0 : b0 < 128
  · have e : Lib.decodeN n b0 b1 b2 b3 = (b0, 1) := by unfold Lib.decodeN; rw [if_pos c0]
    rw [e]
    refine ⟨?_, ?_, Iff.rfl, fun _ => rfl⟩
    · show nl (b0 : Int) 1 = _
      unfold nl letR
      cases hA : isA (b0 : Int) with
      | true => simp
      | false => rw [if_neg (by decide), if_pos (.inl (by omega))]; simp
    · unfold letR
      cases hA : isA (b0 : Int) with
      | true => simp
      | false => rw [if_neg (by decide), if_pos (.inl (by omega))]; simp
  · have hA := nA c0
    have c48 : ¬ (48 ≤ b0 ∧ b0 ≤ 57) := by omega
    by_cases c1 : b0 / 32 = 6 ∧ (1 < n ∧ b1 / 64 = 2)
    · by_cases c2 : b0 % 32 * 64 + b1 % 64 ≥ 128
      · have e : Lib.decodeN n b0 b1 b2 b3 = (b0 % 32 * 64 + b1 % 64, 2) := by unfold Lib.decodeN; rw [if_neg c0, if_pos c1, if_pos c2]
        rw [e]
        have el : letR n b0 b1 = if is2 ((b0 % 32 * 64 + b1 % 64 : Nat) : Int) = true then 2 else 0 := by
          unfold letR
          rw [hA, if_neg (by decide), if_neg (by omega), show ((b0 : Int) - 192) * 64 + b1 - 128 = ((b0 % 32 * 64 + b1 % 64 : Nat) : Int) by omega]
        rw [el]
        refine ⟨?_, ?_, ⟨fun h => ?_, fun h => absurd h c48⟩, fun h => absurd h c48⟩
        · show nl _ 2 = _
          unfold nl
          cases is2 ((b0 % 32 * 64 + b1 % 64 : Nat) : Int) <;> simp
        · cases is2 ((b0 % 32 * 64 + b1 % 64 : Nat) : Int) <;> simp
        · have h' : 48 ≤ b0 % 32 * 64 + b1 % 64 ∧ b0 % 32 * 64 + b1 % 64 ≤ 57 := h
          omega
      · have e : Lib.decodeN n b0 b1 b2 b3 = (65533, 1) := by unfold Lib.decodeN; rw [if_neg c0, if_pos c1, if_neg c2]
        have el : letR n b0 b1 = 0 := by unfold letR; rw [hA, if_neg (by decide), if_pos (.inl (by omega))]
        rw [e, el]
        exact ⟨by decide, fun h => absurd rfl h, ⟨fun h => by simp at h, fun h => absurd h c48⟩, fun h => absurd h c48⟩
    · have el : letR n b0 b1 = 0 := by
        unfold letR; rw [hA, if_neg (by decide), if_pos (by omega)]
      rw [el]
      have key : (Lib.decodeN n b0 b1 b2 b3).2 = 3 ∧ 2048 ≤ (Lib.decodeN n b0 b1 b2 b3).1 ∨ (Lib.decodeN n b0 b1 b2 b3).2 = 4 ∧ 65536 ≤ (Lib.decodeN n b0 b1 b2 b3).1 ∨ Lib.decodeN n b0 b1 b2 b3 = (65533, 1) := by
        unfold Lib.decodeN
        rw [if_neg c0, if_neg c1]
        split
        · split
          · rename_i h; exact .inl ⟨rfl, h.1⟩
          · exact .inr (.inr rfl)
        · split
          · split
            · rename_i h; exact .inr (.inl ⟨rfl, h.1⟩)
            · exact .inr (.inr rfl)
          · exact .inr (.inr rfl)
      rcases key with ⟨k1, k2⟩ | ⟨k1, k2⟩ | k
      · rw [k1]
        refine ⟨?_, fun h => absurd rfl h, ⟨fun h => by omega, fun h => absurd h c48⟩, fun h => absurd h c48⟩
        unfold nl; rfl
      · rw [k1]
        refine ⟨?_, fun h => absurd rfl h, ⟨fun h => by omega, fun h => absurd h c48⟩, fun h => absurd h c48⟩
        unfold nl; rfl
      · rw [k]
        exact ⟨by decide, fun h => absurd rfl h, ⟨fun h => by simp at h, fun h => absurd h c48⟩, fun h => absurd h c48⟩

def digB (b : Nat) : Bool := (decide ((b : Int) ≥ 48)) && (decide ((b : Int) ≤ 57))
/-- How far a name goes from i on. -/
def stepN (s : ByteArray) (i : Nat) : Int := if letR (s.size - i) (bt s i) (bt s (i + 1)) ≠ 0 then letR (s.size - i) (bt s i) (bt s (i + 1)) else if (i > 0 ∧ digB (bt s i) = true) then 1 else 0
theorem letR_cases (n b0 b1 : Nat) : letR n b0 b1 = 0 ∨ letR n b0 b1 = 1 ∨ (letR n b0 b1 = 2 ∧ 2 ≤ n) := by
  unfold letR
  split
  · exact .inr (.inl rfl)
  · split
    · exact .inl rfl
    · split
      · exact .inr (.inr ⟨rfl, by omega⟩)
      · exact .inl rfl
theorem stepN_le (s : ByteArray) {i : Nat} (h : i < s.size) : 0 ≤ stepN s i ∧ stepN s i ≤ 2 ∧ i + (stepN s i).toNat ≤ s.size := by
  unfold stepN
  rcases letR_cases (s.size - i) (bt s i) (bt s (i + 1)) with e | e | ⟨e, h2⟩ <;> rw [e] <;> (split <;> first | omega | (split <;> omega))
def wordR (s : ByteArray) : Nat → Nat → Nat
  | 0, i => i
  | f + 1, i => if i < s.size ∧ stepN s i ≠ 0 then wordR s f (i + (stepN s i).toNat) else i

theorem F50.l0_ok (s : ByteArray) (hb : s.size ≤ 1000000) : ∀ (f i : Nat), i ≤ s.size → s.size - i ≤ f → F50.l0 (s, 0, (i : Int)) = some (0, (wordR s (f + 1) i : Int))
  | f, i, hi, hf => by
    by_cases hlt : i < s.size
    · have d : decide ((i : Int) < (s.size : Int)) = true := dT (by omega)
      have d2 : decide ((0 : Int) ≤ (i : Int)) = true := dT (by omega)
      have e52 := F52.ok s i hlt hb
      have hst := stepN_le s hlt
      have hw : wordR s (f + 1) i = if stepN s i ≠ 0 then wordR s f (i + (stepN s i).toNat) else i := by simp [wordR, hlt]
      have hstep : (let y52 := letR (s.size - i) (bt s i) (bt s (i + 1)); (y52 == 0 && decide ((i : Int) > 0)) && decide ((bt s i : Int) ≥ 48) && decide ((bt s i : Int) ≤ 57)) = true → stepN s i = 1 := fun h => by
        simp only [Bool.and_eq_true, decide_eq_true_eq, beq_iff_eq] at h
        unfold stepN digB
        rw [if_neg (by simpa using h.1.1.1), if_pos ⟨by omega, by simp; omega⟩]
      have hstep2 : (let y52 := letR (s.size - i) (bt s i) (bt s (i + 1)); (y52 == 0 && decide ((i : Int) > 0)) && decide ((bt s i : Int) ≥ 48) && decide ((bt s i : Int) ≤ 57)) = false → stepN s i = letR (s.size - i) (bt s i) (bt s (i + 1)) := fun h => by
        unfold stepN digB
        by_cases h0 : letR (s.size - i) (bt s i) (bt s (i + 1)) = 0
        · rw [if_neg (by simpa using h0), h0, if_neg]
          intro hc
          simp only [Bool.and_eq_true, decide_eq_true_eq] at hc
          rw [h0] at h
          simp only [beq_self_eq_true, Bool.true_and] at h
          rw [dT (show (i : Int) > 0 by omega), dT hc.2.1, dT hc.2.2] at h
          cases h
        · rw [if_pos h0]
      have ht : ∀ k : Int, k = stepN s i → F50.l0 (s, 0, (i : Int)) = ((F50.t6 (s, 0, (i : Int), k)).bind fun q => match q with | .inl y => some (y.1, y.2) | .inr y => F50.l0 (y.1, y.2.1, y.2.2)) → F50.l0 (s, 0, (i : Int)) = some (0, (wordR s (f + 1) i : Int)) := fun k hk h => by
        rw [h, hw]
        by_cases h0 : stepN s i = 0
        · rw [if_neg (by simpa using h0)]
          have : (k == 0) = true := qT (hk.trans h0)
          simp only [F50.t6, this, cT, bS]
        · rw [if_pos h0]
          have : (k == 0) = false := qF (by rw [hk]; exact h0)
          have w : Go.IntKind.wrap .i64 ((i : Int) + k) = ((i + (stepN s i).toNat : Nat) : Int) := by rw [w64 (by omega) (by omega)]; omega
          simp only [F50.t6, this, cF, bS, w]
          cases f with
          | zero => omega
          | succ f => exact F50.l0_ok s hb f _ hst.2.2 (by omega)
      have run : F50.l0 (s, 0, (i : Int)) = (F50.l0.b (s, 0, (i : Int))).bind (Sum.elim F50.l0 some) := by
        show lim F50.l0.b _ = _; rw [lim_step]; rfl
      cases hc : (let y52 := letR (s.size - i) (bt s i) (bt s (i + 1)); (y52 == 0 && decide ((i : Int) > 0)) && decide ((bt s i : Int) ≥ 48) && decide ((bt s i : Int) ≤ 57)) with
      | true =>
        refine ht 1 (hstep hc).symm ?_
        rw [run]
        dsimp only at hc
        have hc2 := hc
        simp only [Bool.and_eq_true] at hc2
        simp only [F50.l0.b]
        rw [btAt_bt]
        simp only [d, d2, cT, e52, bS, Bool.and_self, Bool.or_true, Bool.and_true, hc]
        cases F50.t6 (s, 0, (i : Int), 1) with
        | none => rfl
        | some q => cases q <;> rfl
      | false =>
        refine ht _ (hstep2 hc).symm ?_
        rw [run]
        dsimp only at hc
        simp only [F50.l0.b]
        rw [btAt_bt]
        simp only [d, d2, cT, e52, bS, Bool.and_self, Bool.or_true, Bool.and_true, hc, cF]
        cases F50.t6 (s, 0, (i : Int), letR (s.size - i) (bt s i) (bt s (i + 1))) with
        | none => rfl
        | some q => cases q <;> rfl
    · have d : decide ((i : Int) < (s.size : Int)) = false := dF (by omega)
      have hw : wordR s (f + 1) i = i := by simp [wordR, hlt]
      rw [hw]
      unfold F50.l0
      exact lim_out (by simp only [F50.l0.b, d, cF])

theorem F51.l0_ok (s : ByteArray) (hb : s.size ≤ 1000000) : ∀ (f i : Nat), i ≤ s.size → s.size - i ≤ f → F51.l0 (s, 0, false, (i : Int)) = some (wordR s (f + 1) i : Int)
  | f, i, hi, hf => by
    have w0 : Go.IntKind.wrap .i64 (0 + (i : Int)) = (i : Int) := by rw [w64 (by omega) (by omega)]; omega
    by_cases hlt : i < s.size
    · have d : decide ((i : Int) < (s.size : Int)) = true := dT (by omega)
      have d1 : decide ((0 : Int) ≤ (i : Int)) = true := dT (by omega)
      have d2 : decide ((i : Int) ≤ (s.size : Int)) = true := dT (by omega)
      have d3 : decide ((s.size : Int) ≤ (s.size : Int)) = true := dT (by omega)
      have hst := stepN_le s hlt
      have hw : wordR s (f + 1) i = if stepN s i ≠ 0 then wordR s f (i + (stepN s i).toNat) else i := by simp [wordR, hlt]
      have e53 : F53.F (s.extract i s.size) = some (((Lib.decodeGo (s.extract i s.size)).1 : Int), ((Lib.decodeGo (s.extract i s.size)).2 : Int)) := rfl
      rw [dec_bt s i hlt] at e53
      obtain ⟨k1, k2, k3, k4⟩ := let_dec (bt_lt s i) (bt_lt s (i + 1)) (bt_lt s (i + 2)) (bt_lt s (i + 3)) (show 1 ≤ s.size - i by omega)
      generalize Lib.decodeN (s.size - i) (bt s i) (bt s (i + 1)) (bt s (i + 2)) (bt s (i + 3)) = q at e53 k1 k2 k3 k4
      have hcond : (nl (q.1 : Int) (q.2 : Int) || ((((decide ((i : Int) > 0)) || false) && (decide ((q.1 : Int) ≥ 48))) && (decide ((q.1 : Int) ≤ 57)))) = true ↔ stepN s i ≠ 0 := by
        rw [k1]
        unfold stepN digB
        simp only [Bool.or_eq_true, Bool.and_eq_true, decide_eq_true_eq, bne_iff_ne, Bool.or_false]
        by_cases h0 : letR (s.size - i) (bt s i) (bt s (i + 1)) = 0
        · rw [h0]
          simp only [ne_eq, not_true_eq_false, if_false, false_or]
          have h3 : (((q.1 : Nat) : Int) ≥ 48 ∧ ((q.1 : Nat) : Int) ≤ 57) ↔ ((bt s i : Int) ≥ 48 ∧ (bt s i : Int) ≤ 57) := by omega
          constructor
          · intro h; rw [if_pos ⟨by omega, by omega⟩]; decide
          · intro h
            by_cases hc : i > 0 ∧ (bt s i : Int) ≥ 48 ∧ (bt s i : Int) ≤ 57
            · omega
            · rw [if_neg hc] at h; exact absurd rfl h
        · rw [if_pos h0]; exact ⟨fun _ => h0, fun _ => .inl h0⟩
      have hsz : stepN s i ≠ 0 → (q.2 : Int) = stepN s i := fun h => by
        unfold stepN digB at h ⊢
        by_cases h0 : letR (s.size - i) (bt s i) (bt s (i + 1)) = 0
        · rw [if_neg (by simpa using h0)] at h ⊢
          by_cases hc : (i > 0 ∧ ((decide ((bt s i : Int) ≥ 48)) && (decide ((bt s i : Int) ≤ 57))) = true)
          · rw [if_pos hc]
            have := hc.2
            simp only [Bool.and_eq_true, decide_eq_true_eq] at this
            have := k4 ⟨by omega, by omega⟩
            omega
          · rw [if_neg hc] at h; exact absurd rfl h
        · rw [if_pos h0]; exact k2 h0
      rw [hw]
      by_cases h0 : stepN s i = 0
      · rw [if_neg (by simpa using h0)]
        have hf : (nl (q.1 : Int) (q.2 : Int) || ((((decide ((i : Int) > 0)) || false) && (decide ((q.1 : Int) ≥ 48))) && (decide ((q.1 : Int) ≤ 57)))) = false := by
          cases hx : (nl (q.1 : Int) (q.2 : Int) || ((((decide ((i : Int) > 0)) || false) && (decide ((q.1 : Int) ≥ 48))) && (decide ((q.1 : Int) ≤ 57)))) with
          | false => rfl
          | true => exact absurd (hcond.1 hx) (by simpa using h0)
        unfold F51.l0
        exact lim_out (by
          simp only [F51.l0.b]
          rw [w0]
          simp only [d, cT, d1, d2, d3, Bool.and_self, Int.toNat_natCast, e53, bS, F54.ok, hf, cF])
      · rw [if_pos h0]
        have hf' := hcond.2 h0
        have hs := hsz h0
        have w : Go.IntKind.wrap .i64 ((i : Int) + (q.2 : Int)) = ((i + (stepN s i).toNat : Nat) : Int) := by rw [w64 (by omega) (by omega)]; omega
        have : F51.l0 (s, 0, false, (i : Int)) = F51.l0 (s, 0, false, ((i + (stepN s i).toNat : Nat) : Int)) := by
          unfold F51.l0
          exact lim_in (by
            simp only [F51.l0.b]
            rw [w0]
            simp only [d, cT, d1, d2, d3, Bool.and_self, Int.toNat_natCast, e53, bS, F54.ok, hf', w])
        rw [this]
        cases f with
        | zero => omega
        | succ f => exact F51.l0_ok s hb f _ hst.2.2 (by omega)
    · have d : decide ((i : Int) < (s.size : Int)) = false := dF (by omega)
      have hw : wordR s (f + 1) i = i := by simp [wordR, hlt]
      rw [hw]
      unfold F51.l0
      exact lim_out (by simp only [F51.l0.b]; rw [w0]; simp only [d, cF])

/-- Is it a name? -/
def nameR (s : ByteArray) : Bool := ((decide ((s.size : Int) ≥ 1)) && (decide ((s.size : Int) ≤ 40))) && (((wordR s (s.size + 1) 0 : Nat) : Int) == (s.size : Int))
theorem F48.ok (s : ByteArray) : F48.F s = some (nameR s) := by
  unfold nameR
  cases h : ((decide ((s.size : Int) ≥ 1)) && (decide ((s.size : Int) ≤ 40))) with
  | true =>
    have h' := h
    simp only [Bool.and_eq_true, decide_eq_true_eq] at h'
    have e : F51.F (s, 0, false) = some ((wordR s (s.size + 1) 0 : Nat) : Int) := by
      simp only [F51.F]
      have := F51.l0_ok s (by omega) s.size 0 (by omega) (by omega)
      rw [show ((0 : Nat) : Int) = 0 from rfl] at this
      rw [this, bS]
    simp only [F48.F, h, cT, e, bS]
  | false => simp only [F48.F, h, cF, Bool.false_and]
theorem F45.ok (s : ByteArray) : F45.F s = some (nameR s) := by
  unfold nameR
  have hg : (decide ((s.size : Int) > 0)) = (decide ((s.size : Int) ≥ 1)) := by
    by_cases h : (s.size : Int) ≥ 1
    · rw [dT h, dT (by omega)]
    · rw [dF h, dF (by omega)]
  cases h : ((decide ((s.size : Int) ≥ 1)) && (decide ((s.size : Int) ≤ 40))) with
  | true =>
    have h' := h
    simp only [Bool.and_eq_true, decide_eq_true_eq] at h'
    have e : F50.F (s, 0) = some ((wordR s (s.size + 1) 0 : Nat) : Int) := by
      simp only [F50.F]
      have := F50.l0_ok s (by omega) s.size 0 (by omega) (by omega)
      rw [show ((0 : Nat) : Int) = 0 from rfl] at this
      rw [this, bS]
      have hle : ∀ (f i : Nat), i ≤ s.size → wordR s f i ≤ s.size := by
        intro f
        induction f with
        | zero => intro i hi; exact hi
        | succ f ih =>
          intro i hi
          simp only [wordR]
          split
          · rename_i hc; exact ih _ (stepN_le s hc.1).2.2
          · exact hi
      have := hle (s.size + 1) 0 (by omega)
      simp (disch := omega) only [w64]
      simp
    simp only [F45.F, hg, h, cT, e, bS]
  | false => simp only [F45.F, hg, h, cF, Bool.false_and]

end Go.Proofs.YtiogkndjoinpoaaDoor.AX

/- Features by themselves. No conditions. -/
namespace Go.Proofs.YtiogkndjoinpoaaDoor.AX
open Go

abbrev E0 : ByteArray := ByteArray.mk (Array.mk ([] : List UInt8))
def isE (s : ByteArray) : Bool := ByteArray.toList s == ByteArray.toList E0
def nearB (n : Int) : Bool := (decide (n ≥ (-24))) && (decide (n ≤ 24))
theorem F47.ok (n : Int) : F47.F n = some (nearB n) := rfl
theorem F49.ok (n : Int) : F49.F n = some (nearB n) := rfl

theorem F46.ok (a b c d e f : Int) : F46.F (a, b, c, d, e, f) = some (((((((((nearB a && nearB b) && nearB c) && nearB d) && nearB e) && nearB f) && (decide (a < d))) && (decide (b < e))) && (decide (c < f)))) := by
  simp only [F46.F, F47.ok, bS]
  cases nearB a <;> cases nearB b <;> cases nearB c <;> cases nearB d <;> cases nearB e <;> simp only [cT, cF, Bool.and_self, Bool.true_and, Bool.false_and, Bool.and_false, Bool.and_true]

/-- A block's or a pocket's, but for its name. -/
def blockB (x : S53) : Bool := bif (isE x.f1 && (x.f4 != 0)) || (!isE x.f1 && ((decide (x.f4 < 1)) || (decide (x.f4 > 6)))) then false else
  ((((((((((((nearB x.f5 && nearB x.f6) && nearB x.f7) && nearB x.f8) && nearB x.f9) && nearB x.f10) && (decide (x.f5 < x.f8))) && (decide (x.f6 < x.f9))) && (decide (x.f7 < x.f10))) && isE x.f2) && (x.f11 == 0)) && (x.f12 == 0)) && (x.f13 == 0)) && (x.f14 == 0)
def rowB (x : S53) : Bool := bif (((isE x.f2 || !isE x.f1) || (x.f4 != 0)) || (!((x.f5 == 0) && ((x.f6 == 0) && ((x.f7 == 0) && ((x.f8 == 0) && ((x.f9 == 0) && (x.f10 == 0)))))))) then false else
  ((((((decide (x.f11 ≥ 1)) && (decide (x.f11 ≤ 8))) && nearB x.f12) && nearB x.f13) && nearB x.f14) && (((x.f12 != 0) || (x.f13 != 0)) || (x.f14 != 0)))
def nameB (x : S53) : Bool := (!nameR x.f0 || (!isE x.f1 && !nameR x.f1)) || (!isE x.f2 && !nameR x.f2)
/-- Is it right? -/
def featB (x : S53) : Bool := bif nameB x then false else bif x.f3 == 1 then blockB x else bif x.f3 == 2 then blockB x else bif x.f3 == 3 then rowB x else false

theorem cS {α : Type} {b : Bool} {x y : α} : cond b (some x) (some y) = some (cond b x y) := by cases b <;> rfl
theorem cI {α : Type} {b : Bool} {x : α} : cond b x x = x := by cases b <;> rfl

theorem F36.ok (x : S53) : F36.F (x.f0, x.f1, x.f2, x.f3, x.f4, x.f5, x.f6, x.f7, x.f8, x.f9, x.f10, x.f11, x.f12, x.f13, x.f14) = some (featB x) := by
  simp only [F36.F, F45.ok, F46.ok, F47.ok, bS]
  unfold featB nameB blockB rowB
  rw [show (ByteArray.toList x.f1 == ByteArray.toList (ByteArray.mk (Array.mk ([] : List UInt8)))) = isE x.f1 from rfl, show (ByteArray.toList x.f2 == ByteArray.toList (ByteArray.mk (Array.mk ([] : List UInt8)))) = isE x.f2 from rfl]
  generalize nameR x.f0 = n0
  generalize nameR x.f1 = n1
  generalize nameR x.f2 = n2
  generalize isE x.f1 = e1
  generalize isE x.f2 = e2
  by_cases k1 : x.f3 = 1
  · have q1 : (x.f3 == 1) = true := qT k1
    simp only [q1, cT]
    cases n0 <;> cases e1 <;> cases n1 <;> cases e2 <;> cases n2 <;> simp only [cT, cF, cS, cI, Bool.and_self, Bool.true_and, Bool.false_and, Bool.and_false, Bool.and_true, Bool.or_self, Bool.true_or, Bool.false_or, Bool.or_true, Bool.or_false, Bool.not_true, Bool.not_false]
  · have q1 : (x.f3 == 1) = false := qF k1
    by_cases k2 : x.f3 = 2
    · have q2 : (x.f3 == 2) = true := qT k2
      simp only [q1, q2, cT, cF]
      cases n0 <;> cases e1 <;> cases n1 <;> cases e2 <;> cases n2 <;> simp only [cT, cF, cS, cI, Bool.and_self, Bool.true_and, Bool.false_and, Bool.and_false, Bool.and_true, Bool.or_self, Bool.true_or, Bool.false_or, Bool.or_true, Bool.or_false, Bool.not_true, Bool.not_false]
    · have q2 : (x.f3 == 2) = false := qF k2
      by_cases k3 : x.f3 = 3
      · have q3 : (x.f3 == 3) = true := qT k3
        simp only [q1, q2, q3, cT, cF]
        cases nearB x.f12 <;> cases nearB x.f13 <;> cases nearB x.f14 <;> cases ((decide (x.f11 ≥ 1)) && (decide (x.f11 ≤ 8))) <;> simp only [cT, cF, cS, cI, Bool.and_self, Bool.true_and, Bool.false_and, Bool.and_false, Bool.and_true] <;> cases n0 <;> cases e1 <;> cases n1 <;> cases e2 <;> cases n2 <;> simp only [cT, cF, cS, cI, Bool.and_self, Bool.true_and, Bool.false_and, Bool.and_false, Bool.and_true, Bool.or_self, Bool.true_or, Bool.false_or, Bool.or_true, Bool.or_false, Bool.not_true, Bool.not_false]
      · have q3 : (x.f3 == 3) = false := qF k3
        simp only [q1, q2, q3, cT, cF]
        cases n0 <;> cases e1 <;> cases n1 <;> cases e2 <;> cases n2 <;> simp only [cT, cF, cS, cI, Bool.and_self, Bool.true_and, Bool.false_and, Bool.and_false, Bool.and_true, Bool.or_self, Bool.true_or, Bool.false_or, Bool.or_true, Bool.or_false, Bool.not_true, Bool.not_false]

theorem F41.l1_ok (x : S53) (b : List Int) (hb : b.length ≤ 100) : F41.l1 ((b.length : Int), 0, x.f0, x.f1, x.f2, x.f3, x.f4, x.f5, x.f6, x.f7, x.f8, x.f9, x.f10, x.f11, x.f12, x.f13, x.f14, x.f5, x.f6, x.f7, x.f8, x.f9, x.f10, b) =
    some (if b.all nearB = true then .inr (x.f0, x.f1, x.f2, x.f3, x.f4, x.f5, x.f6, x.f7, x.f8, x.f9, x.f10, x.f11, x.f12, x.f13, x.f14, x.f5, x.f6, x.f7, x.f8, x.f9, x.f10) else .inl false) := by
  exact lim_scan (f := F41.l1.b) (fun k => ((b.length : Int), (k : Int), x.f0, x.f1, x.f2, x.f3, x.f4, x.f5, x.f6, x.f7, x.f8, x.f9, x.f10, x.f11, x.f12, x.f13, x.f14, x.f5, x.f6, x.f7, x.f8, x.f9, x.f10, b)) b 0 nearB (y := .inl false) (z := .inr (x.f0, x.f1, x.f2, x.f3, x.f4, x.f5, x.f6, x.f7, x.f8, x.f9, x.f10, x.f11, x.f12, x.f13, x.f14, x.f5, x.f6, x.f7, x.f8, x.f9, x.f10)) (fun k hk => by
    have d1 : decide ((k : Int) < (b.length : Int)) = true := dT (by omega)
    have d2 : decide ((0 : Int) ≤ (k : Int)) = true := dT (by omega)
    have w : Go.IntKind.wrap .i64 ((k : Int) + 1) = ((k + 1 : Nat) : Int) := by rw [w64 (by omega) (by omega)]; rfl
    simp only [F41.l1.b, Int.toNat_natCast, d1, d2, Bool.and_self, cT, w, F49.ok, bS]
    cases nearB (b.getD k 0) <;> rfl)
    (by
      have d1 : decide ((b.length : Int) < (b.length : Int)) = false := dF (by omega)
      simp only [F41.l1.b, d1, cF])

theorem F41.ok (x : S53) : F41.F (x.f0, x.f1, x.f2, x.f3, x.f4, x.f5, x.f6, x.f7, x.f8, x.f9, x.f10, x.f11, x.f12, x.f13, x.f14) = some (featB x) := by
  have l1 := F41.l1_ok x [x.f5, x.f6, x.f7, x.f8, x.f9, x.f10] (by simp)
  have hall : [x.f5, x.f6, x.f7, x.f8, x.f9, x.f10].all nearB = (((((nearB x.f5 && nearB x.f6) && nearB x.f7) && nearB x.f8) && nearB x.f9) && nearB x.f10) := by simp [Bool.and_assoc]
  rw [hall] at l1
  have hlt : ∀ a b : Int, decide (a ≥ b) = !decide (a < b) := fun a b => by
    by_cases h : a < b
    · rw [dT h, dF (by omega)]; rfl
    · rw [dF h, dT (by omega)]; rfl
  have hc1 : decide (x.f11 < 1) = !decide (x.f11 ≥ 1) := by rw [hlt]; simp
  have hc8 : decide (x.f11 > 8) = !decide (x.f11 ≤ 8) := by
    by_cases h : x.f11 ≤ 8
    · rw [dT h, dF (by omega)]; rfl
    · rw [dF h, dT (by omega)]; rfl
  simp only [F41.F, F48.ok, F49.ok, l1, bS]
  unfold featB nameB blockB rowB isE E0
  rw [hc1, hc8]
  clear hc1 hc8
  generalize decide (x.f11 ≥ 1) = g1
  generalize decide (x.f11 ≤ 8) = g8
  generalize nameR x.f0 = n0
  generalize nameR x.f1 = n1
  generalize nameR x.f2 = n2
  have key : ∀ N : Bool, (((((nearB x.f5 && nearB x.f6) && nearB x.f7) && nearB x.f8) && nearB x.f9) && nearB x.f10) = N → ?_ := ?_
  · exact key _ rfl
  intro N hN
  rw [hN]
  cases N with
  | false =>
    simp only [Bool.false_eq_true, if_false, cI]
    generalize (ByteArray.toList x.f1 == ByteArray.toList (ByteArray.mk (Array.mk ([] : List UInt8)))) = e1
    generalize (ByteArray.toList x.f2 == ByteArray.toList (ByteArray.mk (Array.mk ([] : List UInt8)))) = e2
    by_cases k1 : x.f3 = 1
    · have q1 : (x.f3 == 1) = true := qT k1
      simp only [q1, cT]
      cases n0 <;> cases e1 <;> cases n1 <;> cases e2 <;> cases n2 <;> simp only [cT, cF, cS, cI, Bool.and_self, Bool.true_and, Bool.false_and, Bool.and_false, Bool.and_true, Bool.or_self, Bool.true_or, Bool.false_or, Bool.or_true, Bool.or_false, Bool.not_true, Bool.not_false]
    · have q1 : (x.f3 == 1) = false := qF k1
      by_cases k2 : x.f3 = 2
      · have q2 : (x.f3 == 2) = true := qT k2
        simp only [q1, q2, cT, cF]
        cases n0 <;> cases e1 <;> cases n1 <;> cases e2 <;> cases n2 <;> simp only [cT, cF, cS, cI, Bool.and_self, Bool.true_and, Bool.false_and, Bool.and_false, Bool.and_true, Bool.or_self, Bool.true_or, Bool.false_or, Bool.or_true, Bool.or_false, Bool.not_true, Bool.not_false]
      · have q2 : (x.f3 == 2) = false := qF k2
        by_cases k3 : x.f3 = 3
        · have q3 : (x.f3 == 3) = true := qT k3
          simp only [q1, q2, q3, cT, cF]
          cases nearB x.f12 <;> cases nearB x.f13 <;> cases nearB x.f14 <;> cases g1 <;> cases g8 <;> simp only [cT, cF, cS, cI, Bool.and_self, Bool.true_and, Bool.false_and, Bool.and_false, Bool.and_true, Bool.or_self, Bool.true_or, Bool.false_or, Bool.or_true, Bool.or_false, Bool.not_true, Bool.not_false] <;> cases n0 <;> cases e1 <;> cases n1 <;> cases e2 <;> cases n2 <;> simp only [cT, cF, cS, cI, Bool.and_self, Bool.true_and, Bool.false_and, Bool.and_false, Bool.and_true, Bool.or_self, Bool.true_or, Bool.false_or, Bool.or_true, Bool.or_false, Bool.not_true, Bool.not_false]
        · have q3 : (x.f3 == 3) = false := qF k3
          simp only [q1, q2, q3, cT, cF]
          cases n0 <;> cases e1 <;> cases n1 <;> cases e2 <;> cases n2 <;> simp only [cT, cF, cS, cI, Bool.and_self, Bool.true_and, Bool.false_and, Bool.and_false, Bool.and_true, Bool.or_self, Bool.true_or, Bool.false_or, Bool.or_true, Bool.or_false, Bool.not_true, Bool.not_false]
  | true =>
    simp only [if_true, hlt, cI]
    generalize (ByteArray.toList x.f1 == ByteArray.toList (ByteArray.mk (Array.mk ([] : List UInt8)))) = e1
    generalize (ByteArray.toList x.f2 == ByteArray.toList (ByteArray.mk (Array.mk ([] : List UInt8)))) = e2
    generalize decide (x.f5 < x.f8) = s1
    generalize decide (x.f6 < x.f9) = s2
    generalize decide (x.f7 < x.f10) = s3
    by_cases k1 : x.f3 = 1
    · have q1 : (x.f3 == 1) = true := qT k1
      simp only [q1, cT]
      cases s1 <;> cases s2 <;> cases s3 <;> simp only [cT, cF, cS, cI, Bool.and_self, Bool.true_and, Bool.false_and, Bool.and_false, Bool.and_true, Bool.or_self, Bool.true_or, Bool.false_or, Bool.or_true, Bool.or_false, Bool.not_true, Bool.not_false] <;> cases n0 <;> cases e1 <;> cases n1 <;> cases e2 <;> cases n2 <;> simp only [cT, cF, cS, cI, Bool.and_self, Bool.true_and, Bool.false_and, Bool.and_false, Bool.and_true, Bool.or_self, Bool.true_or, Bool.false_or, Bool.or_true, Bool.or_false, Bool.not_true, Bool.not_false]
    · have q1 : (x.f3 == 1) = false := qF k1
      by_cases k2 : x.f3 = 2
      · have q2 : (x.f3 == 2) = true := qT k2
        simp only [q1, q2, cT, cF]
        cases s1 <;> cases s2 <;> cases s3 <;> simp only [cT, cF, cS, cI, Bool.and_self, Bool.true_and, Bool.false_and, Bool.and_false, Bool.and_true, Bool.or_self, Bool.true_or, Bool.false_or, Bool.or_true, Bool.or_false, Bool.not_true, Bool.not_false] <;> cases n0 <;> cases e1 <;> cases n1 <;> cases e2 <;> cases n2 <;> simp only [cT, cF, cS, cI, Bool.and_self, Bool.true_and, Bool.false_and, Bool.and_false, Bool.and_true, Bool.or_self, Bool.true_or, Bool.false_or, Bool.or_true, Bool.or_false, Bool.not_true, Bool.not_false]
      · have q2 : (x.f3 == 2) = false := qF k2
        by_cases k3 : x.f3 = 3
        · have q3 : (x.f3 == 3) = true := qT k3
          simp only [q1, q2, q3, cT, cF]
          cases nearB x.f12 <;> cases nearB x.f13 <;> cases nearB x.f14 <;> cases g1 <;> cases g8 <;> simp only [cT, cF, cS, cI, Bool.and_self, Bool.true_and, Bool.false_and, Bool.and_false, Bool.and_true, Bool.or_self, Bool.true_or, Bool.false_or, Bool.or_true, Bool.or_false, Bool.not_true, Bool.not_false] <;> cases n0 <;> cases e1 <;> cases n1 <;> cases e2 <;> cases n2 <;> simp only [cT, cF, cS, cI, Bool.and_self, Bool.true_and, Bool.false_and, Bool.and_false, Bool.and_true, Bool.or_self, Bool.true_or, Bool.false_or, Bool.or_true, Bool.or_false, Bool.not_true, Bool.not_false]
        · have q3 : (x.f3 == 3) = false := qF k3
          simp only [q1, q2, q3, cT, cF]
          cases n0 <;> cases e1 <;> cases n1 <;> cases e2 <;> cases n2 <;> simp only [cT, cF, cS, cI, Bool.and_self, Bool.true_and, Bool.false_and, Bool.and_false, Bool.and_true, Bool.or_self, Bool.true_or, Bool.false_or, Bool.or_true, Bool.or_false, Bool.not_true, Bool.not_false]

end Go.Proofs.YtiogkndjoinpoaaDoor.AX

/- Lists of features: what is wrong with them, whom each names. No conditions. -/
namespace Go.Proofs.YtiogkndjoinpoaaDoor.AX
open Go

def sameN (nm : ByteArray) (x : S53) : Bool := nm.toList == x.f0.toList
/-- The first of a name. -/
def fndO (nm : ByteArray) : Nat → List S53 → Option Nat
  | _, [] => none
  | k, x :: r => if sameN nm x = true then some k else fndO nm (k + 1) r
def fi (l : List S53) (nm : ByteArray) : Int := match fndO nm 0 l with
  | some k => (k : Int)
  | none => -1
theorem fndO_lt {nm : ByteArray} : ∀ {l : List S53} {k j : Nat}, fndO nm k l = some j → k ≤ j ∧ j < k + l.length
  | [], k, j, h => by cases h
  | x :: r, k, j, h => by
    simp only [fndO] at h
    split at h
    · injection h with h; subst h; simp
    · have := fndO_lt h; simp; omega
theorem sameN_comm (nm : ByteArray) (x : S53) : (x.f0.toList == nm.toList) = sameN nm x := by unfold sameN; rw [BEq.comm]

theorem F34.l0_ok (nm : ByteArray) (l : List S53) (hl : l.length ≤ 5000) : ∀ (m i : Nat), i + m = l.length → F34.l0 (nm, (i : Int), l) = some (match fndO nm i (l.drop i) with | some k => .inl (k : Int) | none => .inr ())
  | 0, i, hi => by
    have d : decide ((i : Int) < (l.length : Int)) = false := dF (by omega)
    rw [List.drop_eq_nil_of_le (by omega)]
    unfold F34.l0
    exact lim_out (by simp only [F34.l0.b, d, cF, fndO])
  | m + 1, i, hi => by
    have hlt : i < l.length := by omega
    have d : decide ((i : Int) < (l.length : Int)) = true := dT (by omega)
    have d2 : decide ((0 : Int) ≤ (i : Int)) = true := dT (by omega)
    have w : Go.IntKind.wrap .i64 ((i : Int) + 1) = ((i + 1 : Nat) : Int) := by rw [w64 (by omega) (by omega)]; rfl
    have hg : l.getD i z53 = l[i] := getD_lt hlt
    rw [drop_cons hlt]
    simp only [fndO]
    cases hs : sameN nm l[i] with
    | true =>
      rw [if_pos rfl]
      unfold F34.l0
      exact lim_out (by simp only [F34.l0.b, d, d2, Bool.and_self, cT, Int.toNat_natCast, hg, sameN_comm, hs])
    | false =>
      rw [if_neg (by decide), ← F34.l0_ok nm l hl m (i + 1) (by omega)]
      unfold F34.l0
      exact lim_in (by simp only [F34.l0.b, d, d2, Bool.and_self, cT, cF, Int.toNat_natCast, hg, sameN_comm, hs, w])

theorem F34.ok (nm : ByteArray) (l : List S53) (hl : l.length ≤ 5000) : F34.F (l, nm) = some (fi l nm) := by
  have e := F34.l0_ok nm l hl l.length 0 (by omega)
  rw [show ((0 : Nat) : Int) = 0 from rfl, List.drop_zero] at e
  unfold fi
  simp only [F34.F, e, bS]
  cases fndO nm 0 l <;> rfl

theorem fi_neg {l : List S53} {nm : ByteArray} : decide (fi l nm < 0) = (fndO nm 0 l).isNone := by
  unfold fi
  cases h : fndO nm 0 l with
  | none => exact dT (by dsimp only; omega)
  | some k => exact dF (by dsimp only; omega)

/- What one names. -/
def wr2 (l : List S53) (x : S53) : Option ByteArray := bif isE x.f2 then none else match fndO x.f2 0 l with
  | none => some x.f2
  | some k => bif ((l.getD k z53).f3 == 3) || !isE (l.getD k z53).f1 then some x.f2 else none
/-- What it names that it can not. -/
def wrO (l : List S53) (x : S53) : Option ByteArray := bif isE x.f1 then wr2 l x else match fndO x.f1 0 l with
  | none => some x.f1
  | some _ => wr2 l x
def tgR (l : List S53) (x : S53) : List Int := (bif isE x.f1 then [] else [fi l x.f1]) ++ (bif isE x.f2 then [] else [fi l x.f2])

theorem isE_E0 : isE E0 = true := by unfold isE; simp
theorem wr2_ne {l : List S53} {x : S53} {w : ByteArray} (h : wr2 l x = some w) : isE w = false := by
  unfold wr2 at h
  cases he : isE x.f2 with
  | true => rw [he] at h; cases h
  | false =>
    rw [he, cF] at h
    split at h
    · injection h with h; subst h; exact he
    · cases hc : (((l.getD _ z53).f3 == 3) || !isE (l.getD _ z53).f1) with
      | true => rw [hc, cT] at h; injection h with h; subst h; exact he
      | false => rw [hc, cF] at h; cases h
theorem wrO_ne {l : List S53} {x : S53} {w : ByteArray} (h : wrO l x = some w) : isE w = false := by
  unfold wrO at h
  cases he : isE x.f1 with
  | true => rw [he, cT] at h; exact wr2_ne h
  | false =>
    rw [he, cF] at h
    split at h
    · injection h with h; subst h; exact he
    · exact wr2_ne h

theorem F37.t4_ok (l : List S53) (hl : l.length ≤ 5000) (x : S53) : F37.t4 (x.f0, x.f1, x.f2, x.f3, x.f4, x.f5, x.f6, x.f7, x.f8, x.f9, x.f10, x.f11, x.f12, x.f13, x.f14, l) = some ((wr2 l x).getD E0) := by
  have e0 : ∀ s : ByteArray, (ByteArray.toList s == ByteArray.toList (ByteArray.mk (Array.mk ([] : List UInt8)))) = isE s := fun s => rfl
  unfold wr2
  cases he : isE x.f2 with
  | true => simp only [F37.t4, e0, he, Bool.not_true, cF, cT]; rfl
  | false =>
    simp only [F37.t4, e0, he, Bool.not_false, cT, cF, F34.ok x.f2 l hl, bS, fi_neg]
    cases hf : fndO x.f2 0 l with
    | none => simp only [Option.isNone_none, Bool.not_true, Bool.not_false, Bool.true_or, cT]; rfl
    | some k =>
      have hk := fndO_lt hf
      have hfi : fi l x.f2 = (k : Int) := by unfold fi; rw [hf]
      have d1 : decide ((0 : Int) ≤ (k : Int)) = true := dT (by omega)
      have d2 : decide ((k : Int) < (l.length : Int)) = true := dT (by omega)
      simp only [Option.isNone_some, hfi, d1, d2, Bool.and_self, Bool.or_true, Bool.false_or, cT, Int.toNat_natCast]
      cases (((l.getD k z53).f3 == 3) || !isE (l.getD k z53).f1) <;> rfl

theorem F37.ok (l : List S53) (hl : l.length ≤ 5000) (x : S53) : F37.F (l, x.f0, x.f1, x.f2, x.f3, x.f4, x.f5, x.f6, x.f7, x.f8, x.f9, x.f10, x.f11, x.f12, x.f13, x.f14) = some ((wrO l x).getD E0) := by
  have e0 : ∀ s : ByteArray, (ByteArray.toList s == ByteArray.toList (ByteArray.mk (Array.mk ([] : List UInt8)))) = isE s := fun s => rfl
  have t4 := F37.t4_ok l hl x
  unfold wrO
  cases he : isE x.f1 with
  | true => simp only [F37.F, e0, he, Bool.not_true, cF, cT, t4, bS]
  | false =>
    simp only [F37.F, e0, he, Bool.not_false, cT, cF, F34.ok x.f1 l hl, bS, fi_neg, t4]
    cases hf : fndO x.f1 0 l <;> rfl

theorem F38.ok (l : List S53) (hl : l.length ≤ 5000) (x : S53) : F38.F (l, x.f0, x.f1, x.f2, x.f3, x.f4, x.f5, x.f6, x.f7, x.f8, x.f9, x.f10, x.f11, x.f12, x.f13, x.f14) = some (tgR l x) := by
  have e0 : ∀ s : ByteArray, (ByteArray.toList s == ByteArray.toList (ByteArray.mk (Array.mk ([] : List UInt8)))) = isE s := fun s => rfl
  have d0 : decide ((([] : List Int).length + (fi l x.f2 :: ([] : List Int)).length) ≤ 274877906944) = true := dT (by simp)
  have d1 : decide (((fi l x.f1 :: ([] : List Int)).length + (fi l x.f2 :: ([] : List Int)).length) ≤ 274877906944) = true := dT (by simp)
  unfold tgR
  cases he : isE x.f1 <;> cases he2 : isE x.f2 <;>
    simp only [F38.F, F38.t4, e0, he, he2, Bool.not_false, Bool.not_true, cT, cF, F34.ok x.f1 l hl, F34.ok x.f2 l hl, bS, d0, d1, List.nil_append, List.append_nil, List.cons_append]

/- Kinds. -/
theorem feat_kind {x : S53} (h : featB x = true) : (x.f3 == 3) = !isE x.f2 ∧ (isE x.f1 = false → isE x.f2 = true) := by
  unfold featB at h
  cases hn : nameB x with
  | true => rw [hn] at h; cases h
  | false =>
    rw [hn, cF] at h
    have hb : blockB x = true → isE x.f2 = true := fun hb => by
      unfold blockB at hb
      cases he : isE x.f2 with
      | true => rfl
      | false =>
        rw [he] at hb
        simp only [Bool.and_false, Bool.false_and, cI] at hb
        cases hb
    have hr : rowB x = true → isE x.f2 = false ∧ isE x.f1 = true := fun hr => by
      unfold rowB at hr
      cases he : isE x.f2 with
      | true => rw [he] at hr; simp only [Bool.true_or, cT] at hr; cases hr
      | false =>
        cases he1 : isE x.f1 with
        | true => exact ⟨rfl, rfl⟩
        | false => rw [he, he1] at hr; simp only [Bool.not_false, Bool.or_true, Bool.true_or, cT] at hr; cases hr
    by_cases k1 : x.f3 = 1
    · rw [qT k1, cT] at h
      have := hb h
      rw [this]
      exact ⟨by rw [qF (by omega)]; rfl, fun _ => rfl⟩
    · rw [qF k1, cF] at h
      by_cases k2 : x.f3 = 2
      · rw [qT k2, cT] at h
        have := hb h
        rw [this]
        exact ⟨by rw [qF (by omega)]; rfl, fun _ => rfl⟩
      · rw [qF k2, cF] at h
        by_cases k3 : x.f3 = 3
        · rw [qT k3, cT] at h
          obtain ⟨h1, h2⟩ := hr h
          rw [h1, h2]
          exact ⟨by rw [qT k3]; rfl, fun h => by cases h⟩
        · rw [qF k3, cF] at h; cases h

/- The map of names. -/
def idxL : Nat → List S53 → List S72
  | _, [] => []
  | k, x :: r => ⟨x.f0, (k : Int)⟩ :: idxL (k + 1) r
abbrev kp (nm : ByteArray) (e : S72) : Bool := nm.toList == e.f0.toList
theorem mhas_T (p : S72 → Bool) (l : List S72) : mhas (U := uni) 8 p l = l.any p := rfl
def mfT {E : Type} (d : E) (p : E → Bool) (l : List E) : E := (l.find? p).getD d
theorem mfind_T (p : S72 → Bool) (l : List S72) : (mfind (U := uni) 8 p l : S72) = mfT z72 p l := rfl
theorem mput_T (p : S72 → Bool) (x : S72) : ∀ l : List S72, l.any p = false → (mput (U := uni) 8 p x l : List S72) = l ++ [x]
  | [], _ => rfl
  | y :: r, h => by
    rw [List.any_cons, Bool.or_eq_false_iff] at h
    have h1 : p y = false := h.1
    show (bif p y then x :: r else y :: mput (U := uni) 8 p x r) = _
    rw [h1, cF, mput_T p x r h.2]; rfl
theorem idx_app : ∀ {l r : List S53} {k : Nat}, idxL k (l ++ r) = idxL k l ++ idxL (k + l.length) r
  | [], r, k => by simp [idxL]
  | x :: l, r, k => by
    show _ :: idxL (k + 1) (l ++ r) = _
    rw [idx_app]
    simp only [List.length_cons, idxL, List.cons_append]
    rw [show k + 1 + l.length = k + (l.length + 1) by omega]
theorem idx_any {nm : ByteArray} : ∀ {l : List S53} {k : Nat}, (idxL k l).any (kp nm) = l.any (sameN nm)
  | [], k => rfl
  | x :: l, k => by
    show (kp nm _ || (idxL (k + 1) l).any (kp nm)) = _
    rw [idx_any]; rfl
theorem any_fnd {nm : ByteArray} : ∀ {l : List S53} {k : Nat}, l.any (sameN nm) = (fndO nm k l).isSome
  | [], k => rfl
  | x :: l, k => by
    rw [List.any_cons, fndO]
    cases h : sameN nm x with
    | true => rw [if_pos rfl]; rfl
    | false => rw [if_neg (by decide), Bool.false_or, any_fnd (k := k + 1)]
theorem idx_find {nm : ByteArray} : ∀ {l : List S53} {k j : Nat}, fndO nm k l = some j → (mfT z72 (kp nm) (idxL k l)).f1 = (j : Int)
  | [], k, j, h => by cases h
  | x :: l, k, j, h => by
    simp only [fndO] at h
    unfold mfT
    rw [idxL, List.find?_cons]
    cases hs : sameN nm x with
    | true =>
      rw [hs, if_pos rfl] at h
      injection h with h; subst h
      have : kp nm ⟨x.f0, (k : Int)⟩ = true := hs
      rw [this]; rfl
    | false =>
      rw [hs, if_neg (by decide)] at h
      have : kp nm ⟨x.f0, (k : Int)⟩ = false := hs
      rw [this]
      exact idx_find h

/-- Is one there twice? -/
def dupG : List S53 → List S53 → Option S53
  | _, [] => none
  | pre, x :: r => if pre.any (sameN x.f0) = true then some x else dupG (pre ++ [x]) r

theorem F26.l2_ok (l : List S53) (hl : l.length ≤ 5000) : ∀ (m i : Nat), i + m = l.length →
    F26.l2 ((l.length : Int), (i : Int), l, idxL 0 (l.take i)) = some (match dupG (l.take i) (l.drop i) with | some x => .inl (7, [x.f0]) | none => .inr (l, idxL 0 l))
  | 0, i, hi => by
    have d : decide ((i : Int) < (l.length : Int)) = false := dF (by omega)
    rw [List.drop_eq_nil_of_le (by omega), List.take_of_length_le (by omega)]
    unfold F26.l2
    exact lim_out (by simp only [F26.l2.b, d, cF, dupG])
  | m + 1, i, hi => by
    have hlt : i < l.length := by omega
    have d : decide ((i : Int) < (l.length : Int)) = true := dT (by omega)
    have d2 : decide ((0 : Int) ≤ (i : Int)) = true := dT (by omega)
    have w : Go.IntKind.wrap .i64 ((i : Int) + 1) = ((i + 1 : Nat) : Int) := by rw [w64 (by omega) (by omega)]; rfl
    have hg : l.getD i z53 = l[i] := getD_lt hlt
    have htk : l.take (i + 1) = l.take i ++ [l[i]] := by simp
    rw [drop_cons hlt]
    simp only [dupG]
    have hidx : idxL 0 (l.take (i + 1)) = idxL 0 (l.take i) ++ [(⟨l[i].f0, (i : Int)⟩ : S72)] := by
      rw [htk, idx_app]
      congr 1
      simp only [idxL, List.length_take]
      rw [show 0 + min i l.length = i by omega]
    have ha : (idxL 0 (l.take i)).any (kp l[i].f0) = (l.take i).any (sameN l[i].f0) := idx_any
    rw [← htk]
    cases hs : (l.take i).any (sameN l[i].f0) with
    | true =>
      rw [hs] at ha
      rw [if_pos rfl]
      unfold F26.l2
      exact lim_out (by simp only [F26.l2.b, d, d2, Bool.and_self, cT, Int.toNat_natCast, hg, mhas_T, ha])
    | false =>
      rw [hs] at ha
      have hp := mput_T (kp l[i].f0) (⟨l[i].f0, (i : Int)⟩ : S72) _ ha
      rw [if_neg (by decide), ← F26.l2_ok l hl m (i + 1) (by omega), hidx]
      unfold F26.l2
      exact lim_in (by simp only [F26.l2.b, d, d2, Bool.and_self, cT, cF, Int.toNat_natCast, hg, mhas_T, ha, hp, w])

theorem F23.l2_ok (l : List S53) (hl : l.length ≤ 5000) : ∀ (m i : Nat), i + m = l.length →
    F23.l2 ((i : Int), l) = some (match dupG (l.take i) (l.drop i) with | some x => .inl (7, [], [x.f0]) | none => .inr l)
  | 0, i, hi => by
    have d : decide ((i : Int) < (l.length : Int)) = false := dF (by omega)
    rw [List.drop_eq_nil_of_le (by omega)]
    unfold F23.l2
    exact lim_out (by simp only [F23.l2.b, d, cF, dupG])
  | m + 1, i, hi => by
    have hlt : i < l.length := by omega
    have d : decide ((i : Int) < (l.length : Int)) = true := dT (by omega)
    have d2 : decide ((0 : Int) ≤ (i : Int)) = true := dT (by omega)
    have d3 : decide ((i : Int) ≤ (l.length : Int)) = true := dT (by omega)
    have d0 : decide ((0 : Nat) ≤ 0) = true := rfl
    have w : Go.IntKind.wrap .i64 ((i : Int) + 1) = ((i + 1 : Nat) : Int) := by rw [w64 (by omega) (by omega)]; rfl
    have hg : l.getD i z53 = l[i] := getD_lt hlt
    have htk : l.take (i + 1) = l.take i ++ [l[i]] := by simp
    have hwin : List.take (Int.toNat ((i : Int) - 0)) (List.drop (Int.toNat 0) l) = l.take i := by rw [Int.sub_zero, Int.toNat_natCast]; rfl
    have hf := F34.ok l[i].f0 (l.take i) (by simp; omega)
    have hge : decide (fi (l.take i) l[i].f0 ≥ 0) = (l.take i).any (sameN l[i].f0) := by
      rw [any_fnd (k := 0)]
      unfold fi
      cases h : fndO l[i].f0 0 (l.take i) with
      | none => exact dF (by dsimp only; omega)
      | some k => exact dT (by dsimp only; omega)
    rw [drop_cons hlt]
    simp only [dupG]
    rw [← htk]
    cases hs : (l.take i).any (sameN l[i].f0) with
    | true =>
      rw [hs] at hge
      rw [if_pos rfl]
      unfold F23.l2
      exact lim_out (by simp only [F23.l2.b, d, d0, d2, d3, Bool.and_self, cT, hwin, Int.toNat_natCast, hg, hf, bS, hge])
    | false =>
      rw [hs] at hge
      rw [if_neg (by decide), ← F23.l2_ok l hl m (i + 1) (by omega)]
      unfold F23.l2
      exact lim_in (by simp only [F23.l2.b, d, d0, d2, d3, Bool.and_self, cT, cF, hwin, Int.toNat_natCast, hg, hf, bS, hge, w])

/-- Is each right by itself? -/
def badG (_ : Unit) (x : S53) : Unit ⊕ S53 := bif featB x then .inl () else .inr x

theorem F26.l0_ok (l : List S53) (hl : l.length ≤ 5000) : F26.l0 ((l.length : Int), 0, l) = some (Sum.elim (fun _ => .inr l) (fun x => .inl (1, [x.f0])) (goL badG l ())) := by
  exact lim_go (f := F26.l0.b) (fun i _ => ((l.length : Int), (i : Int), l)) l z53 badG (fun _ => True) (z := fun _ => .inr l) (o := fun x => .inl (1, [x.f0])) () trivial (fun _ _ _ _ _ _ => trivial)
    (fun i a hi _ => by
      have d : decide ((i : Int) < (l.length : Int)) = true := dT (by omega)
      have d2 : decide ((0 : Int) ≤ (i : Int)) = true := dT (by omega)
      have w : Go.IntKind.wrap .i64 ((i : Int) + 1) = ((i + 1 : Nat) : Int) := by rw [w64 (by omega) (by omega)]; rfl
      unfold badG
      simp only [F26.l0.b, d, d2, Bool.and_self, cT, Int.toNat_natCast, F41.ok, bS, w]
      cases featB (l.getD i z53) <;> rfl)
    (fun a _ => by
      have d : decide ((l.length : Int) < (l.length : Int)) = false := dF (by omega)
      simp only [F26.l0.b, d, cF])
theorem F23.l0_ok (l : List S53) (hl : l.length ≤ 5000) : F23.l0 (0, l) = some (Sum.elim (fun _ => .inr l) (fun x => .inl (1, [], [x.f0])) (goL badG l ())) := by
  exact lim_go (f := F23.l0.b) (fun i _ => ((i : Int), l)) l z53 badG (fun _ => True) (z := fun _ => .inr l) (o := fun x => .inl (1, [], [x.f0])) () trivial (fun _ _ _ _ _ _ => trivial)
    (fun i a hi _ => by
      have d : decide ((i : Int) < (l.length : Int)) = true := dT (by omega)
      have d2 : decide ((0 : Int) ≤ (i : Int)) = true := dT (by omega)
      have w : Go.IntKind.wrap .i64 ((i : Int) + 1) = ((i + 1 : Nat) : Int) := by rw [w64 (by omega) (by omega)]; rfl
      unfold badG
      simp only [F23.l0.b, d, d2, Bool.and_self, cT, Int.toNat_natCast, F36.ok, bS, w]
      cases featB (l.getD i z53) <;> rfl)
    (fun a _ => by
      have d : decide ((l.length : Int) < (l.length : Int)) = false := dF (by omega)
      simp only [F23.l0.b, d, cF])

theorem badG_all : ∀ {l : List S53} {u : Unit}, goL badG l () = .inl u → ∀ x ∈ l, featB x = true
  | [], _, _, x, hx => by simp at hx
  | y :: l, u, h, x, hx => by
    unfold goL badG at h
    cases hf : featB y with
    | false => rw [hf] at h; cases h
    | true =>
      rw [hf] at h
      rcases List.mem_cons.1 hx with rfl | hx
      · exact hf
      · exact badG_all h x hx

end Go.Proofs.YtiogkndjoinpoaaDoor.AX

/- The function 7 of the program in the small machine. No conditions. -/
namespace Go.Proofs.YtiogkndjoinpoaaDoor.AX.F7
open Go Go.Proofs.Tryd
noncomputable def code : Code := bodyOf f7
abbrev Y : Type := ((List ByteArray) × Int × (List ByteArray))
def cp : Cod uni (List S53) := (cod1 (iRow 2))
def cr : Coz uni ((List ByteArray) × Int × (List ByteArray)) := (cozR (codC (iRow 1) (codC (iInt .i64) (cod1 (iRow 1)))) (codD cod0))
noncomputable def es : List (Ent prog uni) := [F23.ent, F24.ent]
theorem get : prog.funcs[7]? = some f7 := by kernel_rfl

def l0.A : Ann := ⟨[(0, .slc 5000000 []), (8, .slc 5000512 []), (9, .slc 5000576 []), (10, .sc)], [], [(5000000, false, 2), (5000512, true, 5), (5000576, true, 1)], []⟩
def l0.c : Cod uni (Int × (List S53) × (List Int) × (List ByteArray)) := (codC (iInt .i64) (codC (iRow 2) (codC (iRow 5) (cod1 (iRow 1)))))
def l0.xs : List (AExit × Ann) := [((.exit 0), ⟨[(9, .slc 5000576 [])], [], [(5000576, true, 1)], []⟩)]
def l0.y : Coy uni ((List ByteArray)) := (coy1 (cod1 (iRow 1)))
noncomputable def l0.b : Int × (List S53) × (List Int) × (List ByteArray) → Option ((Int × (List S53) × (List Int) × (List ByteArray)) ⊕ ((List ByteArray)))
  | (v10, r0, r512, r576) =>
  let x1 := (decide (v10 < ((List.length r512) : Int)))
  cond x1 (
   cond ((decide (0 ≤ v10)) && x1) (
    let x2 := (List.getD r512 (Int.toNat v10) 0)
    cond ((decide (0 ≤ x2)) && (decide (x2 < ((List.length r0) : Int)))) (
     let x0 := ((List.getD r0 (Int.toNat x2) z53).f0 :: [])
     cond (decide (((List.length r576) + (List.length x0)) ≤ 274877906944)) (
      some (.inl ((Go.IntKind.wrap (Go.IntKind.i64 ) (v10 + 1)), r0, r512, (r576 ++ x0)))) none) none) none) (
   some (.inr r576))
noncomputable def l0 (x : Int × (List S53) × (List Int) × (List ByteArray)) : Option ((List ByteArray)) := lim l0.b x
theorem l0.eq : ∀ x, l0.b x = roundX (mkE tab es 44 [] []) (loopAt 0 code) (cutOf l0.A l0.c) (cutsOf l0.xs l0.y) x := fun x => by kernel_rfl
theorem l0.owed {R : Type} : owed (mkE (R := R) tab es 44 [] []) (loopAt 0 code) = [] := by kernel_rfl
theorem l0.ok (w0 : World) (M : Own) (h : Pinned M []) {R : Type} : SoundO prog w0 M 44 (.block 0 (.loop (loopAt 0 code))) (loopO (R := R) 0 (cutOf l0.A l0.c) (cutsOf l0.xs l0.y) l0) :=
  loop_ok tabOk uniOk mixed l0.eq (h.sub rfl) (h.sub rfl) fun x hx => by rw [l0.owed] at hx; exact absurd hx List.not_mem_nil

noncomputable def F : (List S53) → Option (((List ByteArray) × Int × (List ByteArray)))
  | p0 =>
  (F23.F p0).bind fun y23 =>
  cond (y23.2.1 != 0) (
   some (([] : List ByteArray), (y23.2.1, y23.2.2))) (
   (F24.F y23.1).bind fun y24 =>
   (l0 (0, p0, y24, ([] : List ByteArray))).bind fun yl0 =>
   some (yl0, (0, ([] : List ByteArray))))
theorem F.eq : ∀ x, F x = runF (mkE tab es 44 [(0, some (loopO 0 (cutOf l0.A l0.c) (cutsOf l0.xs l0.y) l0))] []) code [.row 2 0] [.row 1, .sc, .row 1] [.tmp 2, .tmp 3, .tmp 4] (Coz.dec cr) (cp.enc x) := fun x => by kernel_rfl
theorem F.owed : owed (mkE (R := ((List ByteArray) × Int × (List ByteArray))) tab es 44 [(0, some (loopO 0 (cutOf l0.A l0.c) (cutsOf l0.xs l0.y) l0))] []) code = [((.block 0 (.loop (loopAt 0 code))), (loopO (R := _) 0 (cutOf l0.A l0.c) (cutsOf l0.xs l0.y) l0))] := by kernel_rfl
theorem con : ∀ x y, F x = some y → Con prog 7 [.row 2 0] [.row 1, .sc, .row 1] (cp.enc x) (cr.enc y).1 (cr.enc y).2 :=
  func_ok (c := code) (n := 44) (pf := [.row 2 0]) (res := [.tmp 2, .tmp 3, .tmp 4]) tabOk uniOk mixed get (by kernel_rfl) (by kernel_rfl) (by kernel_rfl) (by decide) F.eq fun w0 M h x hx => by rw [F.owed] at hx; rcases List.mem_cons.1 hx with rfl | hx; exact l0.ok w0 M h; exact absurd hx List.not_mem_nil
noncomputable def ent : Ent prog uni := Ent.of 7 [.row 2 0] [.row 1, .sc, .row 1] cp cr F con fun args w => enters_of get (by kernel_rfl) rfl args w
end Go.Proofs.YtiogkndjoinpoaaDoor.AX.F7

/- The function 9 of the program in the small machine. No conditions. -/
namespace Go.Proofs.YtiogkndjoinpoaaDoor.AX.F9
open Go Go.Proofs.Tryd
noncomputable def code : Code := bodyOf f9
abbrev Y : Type := ((List ByteArray) × Int × (List ByteArray))
def cp : Cod uni (List S53) := (cod1 (iRow 2))
def cr : Coz uni ((List ByteArray) × Int × (List ByteArray)) := (cozR (codC (iRow 1) (codC (iInt .i64) (cod1 (iRow 1)))) (codD cod0))
noncomputable def es : List (Ent prog uni) := [F26.ent]
theorem get : prog.funcs[9]? = some f9 := by kernel_rfl

def l0.A : Ann := ⟨[(0, .slc 5000000 []), (8, .slc 5000512 []), (21, .slc 5001344 []), (22, .sc), (23, .sc)], [], [(5000000, false, 2), (5001344, true, 5), (5000512, true, 1)], []⟩
def l0.c : Cod uni (Int × Int × (List S53) × (List Int) × (List ByteArray)) := (codC (iInt .i64) (codC (iInt .i64) (codC (iRow 2) (codC (iRow 5) (cod1 (iRow 1))))))
def l0.xs : List (AExit × Ann) := [((.exit 0), ⟨[(8, .slc 5000512 [])], [], [(5000512, true, 1)], []⟩)]
def l0.y : Coy uni ((List ByteArray)) := (coy1 (cod1 (iRow 1)))
noncomputable def l0.b : Int × Int × (List S53) × (List Int) × (List ByteArray) → Option ((Int × Int × (List S53) × (List Int) × (List ByteArray)) ⊕ ((List ByteArray)))
  | (v22, v23, r0, r1344, r512) =>
  cond (decide (v23 < v22)) (
   cond ((decide (0 ≤ v23)) && (decide (v23 < ((List.length r1344) : Int)))) (
    let x1 := (List.getD r1344 (Int.toNat v23) 0)
    cond ((decide (0 ≤ x1)) && (decide (x1 < ((List.length r0) : Int)))) (
     let x0 := ((List.getD r0 (Int.toNat x1) z53).f0 :: [])
     cond (decide (((List.length r512) + (List.length x0)) ≤ 274877906944)) (
      some (.inl (v22, (Go.IntKind.wrap (Go.IntKind.i64 ) (v23 + 1)), r0, r1344, (r512 ++ x0)))) none) none) none) (
   some (.inr r512))
noncomputable def l0 (x : Int × Int × (List S53) × (List Int) × (List ByteArray)) : Option ((List ByteArray)) := lim l0.b x
theorem l0.eq : ∀ x, l0.b x = roundX (mkE tab es 37 [] []) (loopAt 0 code) (cutOf l0.A l0.c) (cutsOf l0.xs l0.y) x := fun x => by kernel_rfl
theorem l0.owed {R : Type} : owed (mkE (R := R) tab es 37 [] []) (loopAt 0 code) = [] := by kernel_rfl
theorem l0.ok (w0 : World) (M : Own) (h : Pinned M []) {R : Type} : SoundO prog w0 M 37 (.block 0 (.loop (loopAt 0 code))) (loopO (R := R) 0 (cutOf l0.A l0.c) (cutsOf l0.xs l0.y) l0) :=
  loop_ok tabOk uniOk mixed l0.eq (h.sub rfl) (h.sub rfl) fun x hx => by rw [l0.owed] at hx; exact absurd hx List.not_mem_nil

noncomputable def F : (List S53) → Option (((List ByteArray) × Int × (List ByteArray)))
  | p0 =>
  (F26.F p0).bind fun y26 =>
  cond (y26.2.1 != 0) (
   some (([] : List ByteArray), (y26.2.1, y26.2.2))) (
   (l0 (((List.length y26.1) : Int), 0, p0, y26.1, ([] : List ByteArray))).bind fun yl0 =>
   some (yl0, (0, ([] : List ByteArray))))
theorem F.eq : ∀ x, F x = runF (mkE tab es 37 [(0, some (loopO 0 (cutOf l0.A l0.c) (cutsOf l0.xs l0.y) l0))] []) code [.row 2 0] [.row 1, .sc, .row 1] [.tmp 2, .tmp 3, .tmp 4] (Coz.dec cr) (cp.enc x) := fun x => by kernel_rfl
theorem F.owed : owed (mkE (R := ((List ByteArray) × Int × (List ByteArray))) tab es 37 [(0, some (loopO 0 (cutOf l0.A l0.c) (cutsOf l0.xs l0.y) l0))] []) code = [((.block 0 (.loop (loopAt 0 code))), (loopO (R := _) 0 (cutOf l0.A l0.c) (cutsOf l0.xs l0.y) l0))] := by kernel_rfl
theorem con : ∀ x y, F x = some y → Con prog 9 [.row 2 0] [.row 1, .sc, .row 1] (cp.enc x) (cr.enc y).1 (cr.enc y).2 :=
  func_ok (c := code) (n := 37) (pf := [.row 2 0]) (res := [.tmp 2, .tmp 3, .tmp 4]) tabOk uniOk mixed get (by kernel_rfl) (by kernel_rfl) (by kernel_rfl) (by decide) F.eq fun w0 M h x hx => by rw [F.owed] at hx; rcases List.mem_cons.1 hx with rfl | hx; exact l0.ok w0 M h; exact absurd hx List.not_mem_nil
noncomputable def ent : Ent prog uni := Ent.of 9 [.row 2 0] [.row 1, .sc, .row 1] cp cr F con fun args w => enters_of get (by kernel_rfl) rfl args w
end Go.Proofs.YtiogkndjoinpoaaDoor.AX.F9

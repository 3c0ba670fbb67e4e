/- The function 68 of the program in the small machine. No conditions. -/
import Derived.KernelRfl
import Derived.Test.YtchohkelpjfpcaaDoorPDc
set_option linter.unusedVariables false
set_option linter.unusedSimpArgs false
set_option linter.unusedSectionVars false
namespace Go.Proofs.YtchohkelpjfpcaaDoor.AX.F68
open Go Go.Proofs.Tryd
noncomputable def code : Code := bodyOf f68
abbrev Y : Type := Bool
def cp : Cod uni (Int × Int) := (codC (iInt .i32) (cod1 (iInt .i64)))
def cr : Coz uni Bool := (cozR (cod1 iBool) (codD (codD cod0)))
noncomputable def es : List (Ent prog uni) := []
theorem get : prog.funcs[68]? = some f68 := by kernel_rfl

noncomputable def F : (Int × Int) → Option (Bool)
  | (p0, p1) =>
  cond (p1 == 1) (
   some ((((decide (p0 ≥ 97)) && (decide (p0 ≤ 122))) || ((decide (p0 ≥ 65)) && (decide (p0 ≤ 90)))) || (p0 == 95))) (
   some ((p1 == 2) && ((((((decide (p0 ≥ 192)) && (decide (p0 ≤ 591))) && (p0 != 215)) && (p0 != 247)) || ((decide (p0 ≥ 913)) && (decide (p0 ≤ 969)))) || ((decide (p0 ≥ 1040)) && (decide (p0 ≤ 1103))))))
theorem F.eq : ∀ x, F x = runF (mkE tab es 59 [] []) code [.sc, .sc] [.sc] [.tmp 4] (Coz.dec cr) (cp.enc x) := fun x => by kernel_rfl
theorem F.owed : owed (mkE (R := Bool) tab es 59 [] []) code = [] := by kernel_rfl
theorem con : ∀ x y, F x = some y → Con prog 68 [.sc, .sc] [.sc] (cp.enc x) (cr.enc y).1 (cr.enc y).2 :=
  func_ok (c := code) (n := 59) (pf := [.sc, .sc]) (res := [.tmp 4]) tabOk uniOk mixed get (by kernel_rfl) (by kernel_rfl) (by kernel_rfl) (by decide) F.eq fun w0 M h x hx => by rw [F.owed] at hx; exact absurd hx List.not_mem_nil
noncomputable def ent : Ent prog uni := Ent.of 68 [.sc, .sc] [.sc] cp cr F con fun args w => enters_of get (by kernel_rfl) rfl args w
end Go.Proofs.YtchohkelpjfpcaaDoor.AX.F68

/- The function 63 of the program in the small machine. No conditions. -/
namespace Go.Proofs.YtchohkelpjfpcaaDoor.AX.F63
open Go Go.Proofs.Tryd
noncomputable def code : Code := bodyOf f63
abbrev Y : Type := Int
def cp : Cod uni (ByteArray × Int × Bool) := (codC iStr (codC (iInt .i64) (cod1 iBool)))
def cr : Coz uni Int := (cozR (cod1 (iInt .i64)) (codD (codD (codD cod0))))
noncomputable def es : List (Ent prog uni) := [F67.ent, F68.ent]
theorem get : prog.funcs[63]? = some f63 := by kernel_rfl

def l0.A : Ann := ⟨[(0, .sc), (1, .sc), (2, .sc), (7, .sc)], [], [], []⟩
def l0.c : Cod uni (ByteArray × Int × Bool × Int) := (codC iStr (codC (iInt .i64) (codC iBool (cod1 (iInt .i64)))))
def l0.xs : List (AExit × Ann) := [((.exit 0), ⟨[(7, .sc)], [], [], []⟩)]
def l0.y : Coy uni (Int) := (coy1 (cod1 (iInt .i64)))
noncomputable def l0.b : ByteArray × Int × Bool × Int → Option ((ByteArray × Int × Bool × Int) ⊕ (Int))
  | (v0, v1, v2, v7) =>
  let x0 := (Go.IntKind.wrap (Go.IntKind.i64 ) (v1 + v7))
  let x1 := ((ByteArray.size v0) : Int)
  cond (decide (x0 < x1)) (
   cond (((decide (0 ≤ x0)) && (decide (x0 ≤ x1))) && (decide (x1 ≤ x1))) (
    (F67.F (ByteArray.extract v0 (Int.toNat x0) (Int.toNat x1))).bind fun y67 =>
    (F68.F (y67.1, y67.2)).bind fun y68 =>
    cond (y68 || ((((decide (v7 > 0)) || v2) && (decide (y67.1 ≥ 48))) && (decide (y67.1 ≤ 57)))) (
     some (.inl (v0, v1, v2, (Go.IntKind.wrap (Go.IntKind.i64 ) (v7 + y67.2))))) (
     some (.inr v7))) none) (
   some (.inr v7))
noncomputable def l0 (x : ByteArray × Int × Bool × Int) : Option (Int) := lim l0.b x
theorem l0.eq : ∀ x, l0.b x = roundX (mkE tab es 47 [] []) (loopAt 0 code) (cutOf l0.A l0.c) (cutsOf l0.xs l0.y) x := fun x => by kernel_rfl
theorem l0.owed {R : Type} : owed (mkE (R := R) tab es 47 [] []) (loopAt 0 code) = [] := by kernel_rfl
theorem l0.ok (w0 : World) (M : Own) (h : Pinned M []) {R : Type} : SoundO prog w0 M 47 (.block 0 (.loop (loopAt 0 code))) (loopO (R := R) 0 (cutOf l0.A l0.c) (cutsOf l0.xs l0.y) l0) :=
  loop_ok tabOk uniOk mixed l0.eq (h.sub rfl) (h.sub rfl) fun x hx => by rw [l0.owed] at hx; exact absurd hx List.not_mem_nil

noncomputable def F : (ByteArray × Int × Bool) → Option (Int)
  | (p0, p1, p2) =>
  (l0 (p0, p1, p2, 0)).bind fun yl0 =>
  some yl0
theorem F.eq : ∀ x, F x = runF (mkE tab es 47 [(0, some (loopO 0 (cutOf l0.A l0.c) (cutsOf l0.xs l0.y) l0))] []) code [.sc, .sc, .sc] [.sc] [.tmp 6] (Coz.dec cr) (cp.enc x) := fun x => by kernel_rfl
theorem F.owed : owed (mkE (R := Int) tab es 47 [(0, some (loopO 0 (cutOf l0.A l0.c) (cutsOf l0.xs l0.y) l0))] []) code = [((.block 0 (.loop (loopAt 0 code))), (loopO (R := _) 0 (cutOf l0.A l0.c) (cutsOf l0.xs l0.y) l0))] := by kernel_rfl
theorem con : ∀ x y, F x = some y → Con prog 63 [.sc, .sc, .sc] [.sc] (cp.enc x) (cr.enc y).1 (cr.enc y).2 :=
  func_ok (c := code) (n := 47) (pf := [.sc, .sc, .sc]) (res := [.tmp 6]) tabOk uniOk mixed get (by kernel_rfl) (by kernel_rfl) (by kernel_rfl) (by decide) F.eq fun w0 M h x hx => by rw [F.owed] at hx; rcases List.mem_cons.1 hx with rfl | hx; exact l0.ok w0 M h; exact absurd hx List.not_mem_nil
noncomputable def ent : Ent prog uni := Ent.of 63 [.sc, .sc, .sc] [.sc] cp cr F con fun args w => enters_of get (by kernel_rfl) rfl args w
end Go.Proofs.YtchohkelpjfpcaaDoor.AX.F63

/- The function 54 of the program in the small machine. No conditions. -/
namespace Go.Proofs.YtchohkelpjfpcaaDoor.AX.F54
open Go Go.Proofs.Tryd
noncomputable def code : Code := bodyOf f54
abbrev Y : Type := Bool
def cp : Cod uni ByteArray := (cod1 iStr)
def cr : Coz uni Bool := (cozR (cod1 iBool) (codD cod0))
noncomputable def es : List (Ent prog uni) := [F63.ent]
theorem get : prog.funcs[54]? = some f54 := by kernel_rfl

noncomputable def F : ByteArray → Option (Bool)
  | p0 =>
  let x1 := ((ByteArray.size p0) : Int)
  let x0 := ((decide (x1 ≥ 1)) && (decide (x1 ≤ 40)))
  cond x0 (
   (F63.F (p0, (0, false))).bind fun y63 =>
   some (x0 && (y63 == x1))) (
   some (x0 && (0 == x1)))
theorem F.eq : ∀ x, F x = runF (mkE tab es 18 [] []) code [.sc] [.sc] [.tmp 2] (Coz.dec cr) (cp.enc x) := fun x => by kernel_rfl
theorem F.owed : owed (mkE (R := Bool) tab es 18 [] []) code = [] := by kernel_rfl
theorem con : ∀ x y, F x = some y → Con prog 54 [.sc] [.sc] (cp.enc x) (cr.enc y).1 (cr.enc y).2 :=
  func_ok (c := code) (n := 18) (pf := [.sc]) (res := [.tmp 2]) tabOk uniOk mixed get (by kernel_rfl) (by kernel_rfl) (by kernel_rfl) (by decide) F.eq fun w0 M h x hx => by rw [F.owed] at hx; exact absurd hx List.not_mem_nil
noncomputable def ent : Ent prog uni := Ent.of 54 [.sc] [.sc] cp cr F con fun args w => enters_of get (by kernel_rfl) rfl args w
end Go.Proofs.YtchohkelpjfpcaaDoor.AX.F54

/- The function 38 of the program in the small machine. No conditions. -/
namespace Go.Proofs.YtchohkelpjfpcaaDoor.AX.F38
open Go Go.Proofs.Tryd
noncomputable def code : Code := bodyOf f38
abbrev Y : Type := Bool
def cp : Cod uni ((Int × Int × Int) × (List S54)) := (codC (iAgg (codC (iInt .i64) (codC (iInt .i64) (cod1 (iInt .i64))))) (cod1 (iRow 2)))
def cr : Coz uni Bool := (cozR (cod1 iBool) (codD (codD cod0)))
noncomputable def es : List (Ent prog uni) := [F54.ent]
theorem get : prog.funcs[38]? = some f38 := by kernel_rfl

def l2.A : Ann := ⟨[(2, .box 5000128 0), (5, .mref 5000320), (44, .slc 5002816 []), (45, .sc), (46, .sc), (86, .slc 5002816 [2]), (87, .sc), (88, .sc)], [(5000128, 30, [.sc, .sc, .sc])], [(5000320, true, 14), (5002816, false, 2)], []⟩
def l2.c : Cod uni (Int × Int × Int × Int × Int × Int × Int × Int × (List S104) × (List S54)) := (codC (iInt .i64) (codC (iInt .i64) (codC (iInt .i64) (codC (iInt .i64) (codC (iInt .i64) (codC (iInt .i64) (codC (iInt .i64) (codC (iInt .i64) (codC (iRow 14) (cod1 (iRow 2)))))))))))
def l2.xs : List (AExit × Ann) := [(.ret, ⟨[(4, .sc)], [], [], []⟩), ((.exit 2), ⟨[(2, .box 5000128 0), (5, .mref 5000320), (44, .slc 5002816 []), (45, .sc), (46, .sc)], [(5000128, 30, [.sc, .sc, .sc])], [(5000320, true, 14), (5002816, false, 2)], []⟩)]
def l2.y : Coy uni (Bool ⊕ (Int × Int × Int × Int × Int × (List S104) × (List S54))) := (coyS (cod1 iBool) (coy1 (codC (iInt .i64) (codC (iInt .i64) (codC (iInt .i64) (codC (iInt .i64) (codC (iInt .i64) (codC (iRow 14) (cod1 (iRow 2))))))))))
noncomputable def l2.b : Int × Int × Int × Int × Int × Int × Int × Int × (List S104) × (List S54) → Option ((Int × Int × Int × Int × Int × Int × Int × Int × (List S104) × (List S54)) ⊕ (Bool ⊕ (Int × Int × Int × Int × Int × (List S104) × (List S54))))
  | (v45, v46, v86i0, v87, v88, b128_0, b128_1, b128_2, r320, r2816) =>
  cond (decide (v88 < v87)) (
   let x1 := (List.getD r2816 (Int.toNat v86i0) z54)
   cond ((decide (0 ≤ v88)) && (decide (v88 < ((List.length x1.f2) : Int)))) (
    let x0 := (List.getD x1.f2 (Int.toNat v88) z69)
    cond ((((((((decide (x0.f0 < 0)) || (decide (x0.f0 ≥ b128_0))) || (decide (x0.f1 < 1))) || (decide (x0.f1 > 1000))) || (decide (x0.f2 < 0))) || (decide (x0.f2 > 9))) || (decide (x0.f3 < 0))) || (decide (x0.f3 > b128_2))) (
     some (.inr (.inl false))) (
     some (.inl (v45, v46, v86i0, v87, (Go.IntKind.wrap (Go.IntKind.i64 ) (v88 + 1)), b128_0, b128_1, b128_2, r320, r2816)))) none) (
   some (.inr (.inr (v45, v46, b128_0, b128_1, b128_2, r320, r2816))))
noncomputable def l2 (x : Int × Int × Int × Int × Int × Int × Int × Int × (List S104) × (List S54)) : Option (Bool ⊕ (Int × Int × Int × Int × Int × (List S104) × (List S54))) := lim l2.b x
theorem l2.eq : ∀ x, l2.b x = roundX (mkE tab es 136 [] []) (loopAt 2 code) (cutOf l2.A l2.c) (cutsOf l2.xs l2.y) x := fun x => by kernel_rfl
theorem l2.owed {R : Type} : owed (mkE (R := R) tab es 136 [] []) (loopAt 2 code) = [] := by kernel_rfl
theorem l2.ok (w0 : World) (M : Own) (h : Pinned M []) {R : Type} : SoundO prog w0 M 136 (.block 2 (.loop (loopAt 2 code))) (loopO (R := R) 2 (cutOf l2.A l2.c) (cutsOf l2.xs l2.y) l2) :=
  loop_ok tabOk uniOk mixed l2.eq (h.sub rfl) (h.sub rfl) fun x hx => by rw [l2.owed] at hx; exact absurd hx List.not_mem_nil

def l0.A : Ann := ⟨[(2, .box 5000128 0), (5, .mref 5000320), (44, .slc 5002816 []), (45, .sc), (46, .sc)], [(5000128, 30, [.sc, .sc, .sc])], [(5000320, true, 14), (5002816, false, 2)], []⟩
def l0.c : Cod uni (Int × Int × Int × Int × Int × (List S104) × (List S54)) := (codC (iInt .i64) (codC (iInt .i64) (codC (iInt .i64) (codC (iInt .i64) (codC (iInt .i64) (codC (iRow 14) (cod1 (iRow 2))))))))
def l0.xs : List (AExit × Ann) := [(.ret, ⟨[(4, .sc)], [], [], []⟩), ((.exit 0), ⟨[], [], [], []⟩)]
def l0.y : Coy uni (Bool ⊕ Unit) := (coyS (cod1 iBool) (coy1 cod0))
noncomputable def l0.b : Int × Int × Int × Int × Int × (List S104) × (List S54) → Option ((Int × Int × Int × Int × Int × (List S104) × (List S54)) ⊕ (Bool ⊕ Unit))
  | (v45, v46, b128_0, b128_1, b128_2, r320, r2816) =>
  cond (decide (v46 < v45)) (
   cond ((decide (0 ≤ v46)) && (decide (v46 < ((List.length r2816) : Int)))) (
    let x2 := (List.getD r2816 (Int.toNat v46) z54)
    (F54.F x2.f0).bind fun y54 =>
    let x0 := ((List.length x2.f2) : Int)
    let x1 := (ByteArray.toList x2.f0)
    cond ((((((!y54) || ((mfind (U := uni) 14 (fun (e : Go.Proofs.YtchohkelpjfpcaaDoor.AX.S104) => (x1 == (ByteArray.toList e.f0))) r320) : Go.Proofs.YtchohkelpjfpcaaDoor.AX.S104).f1) || (decide (x2.f1 < 0))) || (decide (x2.f1 > 1000000))) || (decide (x0 < 1))) || (decide (x0 > 8))) (
     some (.inr (.inl false))) (
     (l2 (v45, v46, v46, x0, 0, b128_0, b128_1, b128_2, ((mput (U := uni) 14 (fun (e : Go.Proofs.YtchohkelpjfpcaaDoor.AX.S104) => (x1 == (ByteArray.toList e.f0))) (⟨x2.f0, true⟩ : S104) r320) : List Go.Proofs.YtchohkelpjfpcaaDoor.AX.S104), r2816)).bind fun q => match q with
     | (.inl yl2) =>
      some (.inr (.inl yl2))
     | (.inr yl2) =>
      some (.inl (yl2.1, (Go.IntKind.wrap (Go.IntKind.i64 ) (yl2.2.1 + 1)), yl2.2.2.1, yl2.2.2.2.1, yl2.2.2.2.2.1, yl2.2.2.2.2.2.1, yl2.2.2.2.2.2.2)))) none) (
   some (.inr (.inr ())))
noncomputable def l0 (x : Int × Int × Int × Int × Int × (List S104) × (List S54)) : Option (Bool ⊕ Unit) := lim l0.b x
theorem l0.eq : ∀ x, l0.b x = roundX (mkE tab es 136 [(2, some (loopO 2 (cutOf l2.A l2.c) (cutsOf l2.xs l2.y) l2))] []) (loopAt 0 code) (cutOf l0.A l0.c) (cutsOf l0.xs l0.y) x := fun x => by kernel_rfl
theorem l0.owed {R : Type} : owed (mkE (R := R) tab es 136 [(2, some (loopO 2 (cutOf l2.A l2.c) (cutsOf l2.xs l2.y) l2))] []) (loopAt 0 code) = [((.block 2 (.loop (loopAt 2 code))), (loopO (R := _) 2 (cutOf l2.A l2.c) (cutsOf l2.xs l2.y) l2))] := by kernel_rfl
theorem l0.ok (w0 : World) (M : Own) (h : Pinned M []) {R : Type} : SoundO prog w0 M 136 (.block 0 (.loop (loopAt 0 code))) (loopO (R := R) 0 (cutOf l0.A l0.c) (cutsOf l0.xs l0.y) l0) :=
  loop_ok tabOk uniOk mixed l0.eq (h.sub rfl) (h.sub rfl) fun x hx => by rw [l0.owed] at hx; rcases List.mem_cons.1 hx with rfl | hx; exact l2.ok w0 M h; exact absurd hx List.not_mem_nil

noncomputable def F : ((Int × Int × Int) × (List S54)) → Option (Bool)
  | ((p0_0, p0_1, p0_2), p1) =>
  let x0 := ((List.length p1) : Int)
  cond (((((((decide (x0 > 20)) || (decide (p0_0 < 1))) || (decide (p0_0 > 6))) || (decide (p0_1 < 0))) || (decide (p0_1 > 1000))) || (decide (p0_2 < 1))) || (decide (p0_2 > 1000))) (
   some false) (
   (l0 (x0, 0, p0_0, p0_1, p0_2, ([] : List S104), p1)).bind fun q => match q with
   | (.inl yl0) =>
    some yl0
   | (.inr yl0) =>
    some true)
theorem F.eq : ∀ x, F x = runF (mkE tab es 136 [(0, some (loopO 0 (cutOf l0.A l0.c) (cutsOf l0.xs l0.y) l0))] []) code [.agg [.sc, .sc, .sc], .row 2 0] [.sc] [.tmp 4] (Coz.dec cr) (cp.enc x) := fun x => by kernel_rfl
theorem F.owed : owed (mkE (R := Bool) tab es 136 [(0, some (loopO 0 (cutOf l0.A l0.c) (cutsOf l0.xs l0.y) l0))] []) code = [((.block 0 (.loop (loopAt 0 code))), (loopO (R := _) 0 (cutOf l0.A l0.c) (cutsOf l0.xs l0.y) l0))] := by kernel_rfl
theorem con : ∀ x y, F x = some y → Con prog 38 [.agg [.sc, .sc, .sc], .row 2 0] [.sc] (cp.enc x) (cr.enc y).1 (cr.enc y).2 :=
  func_ok (c := code) (n := 136) (pf := [.agg [.sc, .sc, .sc], .row 2 0]) (res := [.tmp 4]) tabOk uniOk mixed get (by kernel_rfl) (by kernel_rfl) (by kernel_rfl) (by decide) F.eq fun w0 M h x hx => by rw [F.owed] at hx; rcases List.mem_cons.1 hx with rfl | hx; exact l0.ok w0 M h; exact absurd hx List.not_mem_nil
noncomputable def ent : Ent prog uni := Ent.of 38 [.agg [.sc, .sc, .sc], .row 2 0] [.sc] cp cr F con fun args w => enters_of get (by kernel_rfl) rfl args w
end Go.Proofs.YtchohkelpjfpcaaDoor.AX.F38

/- The function 39 of the program in the small machine. No conditions. -/
namespace Go.Proofs.YtchohkelpjfpcaaDoor.AX.F39
open Go Go.Proofs.Tryd
noncomputable def code : Code := bodyOf f39
abbrev Y : Type := (List S85)
def cp : Cod uni Int := (cod1 (iInt .i64))
def cr : Coz uni (List S85) := (cozR (cod1 (iRow 9)) (codD cod0))
noncomputable def es : List (Ent prog uni) := []
theorem get : prog.funcs[39]? = some f39 := by kernel_rfl

def l0.A : Ann := ⟨[(3, .slc 5000192 []), (8, .sc), (9, .sc)], [], [(5000192, true, 9)], []⟩
def l0.c : Cod uni (Int × Int × (List S85)) := (codC (iInt .i64) (codC (iInt .i64) (cod1 (iRow 9))))
def l0.xs : List (AExit × Ann) := [((.exit 0), ⟨[(3, .slc 5000192 [])], [], [(5000192, true, 9)], []⟩)]
def l0.y : Coy uni ((List S85)) := (coy1 (cod1 (iRow 9)))
noncomputable def l0.b : Int × Int × (List S85) → Option ((Int × Int × (List S85)) ⊕ ((List S85)))
  | (v8, v9, r192) =>
  cond (decide (v9 < v8)) (
   cond ((decide (0 ≤ v9)) && (decide (v9 < ((List.length r192) : Int)))) (
    let x0 := (List.getD r192 (Int.toNat v9) z85)
    some (.inl (v8, (Go.IntKind.wrap (Go.IntKind.i64 ) (v9 + 1)), (List.set r192 (Int.toNat v9) (⟨x0.f0, (-1), x0.f2⟩ : S85))))) none) (
   some (.inr r192))
noncomputable def l0 (x : Int × Int × (List S85)) : Option ((List S85)) := lim l0.b x
theorem l0.eq : ∀ x, l0.b x = roundX (mkE tab es 18 [] []) (loopAt 0 code) (cutOf l0.A l0.c) (cutsOf l0.xs l0.y) x := fun x => by kernel_rfl
theorem l0.owed {R : Type} : owed (mkE (R := R) tab es 18 [] []) (loopAt 0 code) = [] := by kernel_rfl
theorem l0.ok (w0 : World) (M : Own) (h : Pinned M []) {R : Type} : SoundO prog w0 M 18 (.block 0 (.loop (loopAt 0 code))) (loopO (R := R) 0 (cutOf l0.A l0.c) (cutsOf l0.xs l0.y) l0) :=
  loop_ok tabOk uniOk mixed l0.eq (h.sub rfl) (h.sub rfl) fun x hx => by rw [l0.owed] at hx; exact absurd hx List.not_mem_nil

noncomputable def F : Int → Option ((List S85))
  | p0 =>
  cond (((decide (0 ≤ p0)) && (decide (p0 ≤ p0))) && (decide (p0 ≤ 274877906944))) (
   let x0 := (List.replicate (Int.toNat p0) z85)
   (l0 (((List.length x0) : Int), 0, x0)).bind fun yl0 =>
   some yl0) none
theorem F.eq : ∀ x, F x = runF (mkE tab es 18 [(0, some (loopO 0 (cutOf l0.A l0.c) (cutsOf l0.xs l0.y) l0))] []) code [.sc] [.row 9] [.tmp 2] (Coz.dec cr) (cp.enc x) := fun x => by kernel_rfl
theorem F.owed : owed (mkE (R := (List S85)) tab es 18 [(0, some (loopO 0 (cutOf l0.A l0.c) (cutsOf l0.xs l0.y) l0))] []) code = [((.block 0 (.loop (loopAt 0 code))), (loopO (R := _) 0 (cutOf l0.A l0.c) (cutsOf l0.xs l0.y) l0))] := by kernel_rfl
theorem con : ∀ x y, F x = some y → Con prog 39 [.sc] [.row 9] (cp.enc x) (cr.enc y).1 (cr.enc y).2 :=
  func_ok (c := code) (n := 18) (pf := [.sc]) (res := [.tmp 2]) tabOk uniOk mixed get (by kernel_rfl) (by kernel_rfl) (by kernel_rfl) (by decide) F.eq fun w0 M h x hx => by rw [F.owed] at hx; rcases List.mem_cons.1 hx with rfl | hx; exact l0.ok w0 M h; exact absurd hx List.not_mem_nil
noncomputable def ent : Ent prog uni := Ent.of 39 [.sc] [.row 9] cp cr F con fun args w => enters_of get (by kernel_rfl) rfl args w
end Go.Proofs.YtchohkelpjfpcaaDoor.AX.F39

/- The function 40 of the program in the small machine. No conditions. -/
namespace Go.Proofs.YtchohkelpjfpcaaDoor.AX.F40
open Go Go.Proofs.Tryd
noncomputable def code : Code := bodyOf f40
abbrev Y : Type := (Bool × ((List S85) × Unit))
def cp : Cod uni (((List S85) × Int) × (Int × Int × Int) × (Int × Int × Int × Int)) := (codC (iAgg (codC (iRow 9) (cod1 (iInt .i64)))) (codC (iAgg (codC (iInt .i64) (codC (iInt .i64) (cod1 (iInt .i64))))) (cod1 (iAgg (codC (iInt .i64) (codC (iInt .i64) (codC (iInt .i64) (cod1 (iInt .i64)))))))))
def cr : Coz uni (Bool × ((List S85) × Unit)) := (cozRM (cod1 iBool) (codC (iRow 9) (codD (codD cod0))))
noncomputable def es : List (Ent prog uni) := []
theorem get : prog.funcs[40]? = some f40 := by kernel_rfl

def t4.A : Ann := ⟨[(0, .ptr 4194304 [] 0), (5, .box 5000320 0), (7, .sc)], [(5000320, 70, [.sc, .sc, .sc, .sc])], [(4194304, true, 9)], [4194304]⟩
def t4.c : Cod uni (Int × Bool × Int × Int × Int × Int × (List S85)) := (codC (iInt .i64) (codC iBool (codC (iInt .i64) (codC (iInt .i64) (codC (iInt .i64) (codC (iInt .i64) (cod1 (iRow 9))))))))
def t4.xs : List (AExit × Ann) := [(.ret, ⟨[(0, .ptr 4194304 [] 0), (6, .sc)], [], [(4194304, true, 9)], [4194304]⟩)]
def t4.y : Coy uni ((Int × Bool × (List S85))) := (coy1 (codC (iInt .i64) (codC iBool (cod1 (iRow 9)))))
noncomputable def t4 : Int × Bool × Int × Int × Int × Int × (List S85) → Option ((Int × Bool × (List S85)))
  | (v0p, v7, b320_0, b320_1, b320_2, b320_3, r94304) =>
  some (v0p, v7, (List.set (List.set r94304 (Int.toNat v0p) (⟨(List.getD r94304 (Int.toNat v0p) z85).f0, b320_2, (List.getD r94304 (Int.toNat v0p) z85).f2⟩ : S85)) (Int.toNat v0p) (⟨(List.getD (List.set r94304 (Int.toNat v0p) (⟨(List.getD r94304 (Int.toNat v0p) z85).f0, b320_2, (List.getD r94304 (Int.toNat v0p) z85).f2⟩ : S85)) (Int.toNat v0p) z85).f0, (List.getD (List.set r94304 (Int.toNat v0p) (⟨(List.getD r94304 (Int.toNat v0p) z85).f0, b320_2, (List.getD r94304 (Int.toNat v0p) z85).f2⟩ : S85)) (Int.toNat v0p) z85).f1, (Go.IntKind.wrap (Go.IntKind.i64 ) ((List.getD (List.set r94304 (Int.toNat v0p) (⟨(List.getD r94304 (Int.toNat v0p) z85).f0, b320_2, (List.getD r94304 (Int.toNat v0p) z85).f2⟩ : S85)) (Int.toNat v0p) z85).f2 + b320_3))⟩ : S85)))
theorem t4.eq : ∀ x, t4 x = tailX (mkE tab es 46 [] []) (tailAt 4 code) (cutOf t4.A t4.c) (cutsOf t4.xs t4.y) x := fun x => by kernel_rfl
theorem t4.owed {R : Type} : owed (mkE (R := R) tab es 46 [] []) (tailAt 4 code) = [] := by kernel_rfl
theorem t4.ok (w0 : World) (M : Own) (h : Pinned M [4194304]) {R : Type} : SoundO prog w0 M 46 (tailAt 4 code) (tailO (R := R) (cutOf t4.A t4.c) (cutsOf t4.xs t4.y) t4) :=
  tail_ok tabOk uniOk mixed t4.eq (h.sub rfl) (h.sub rfl) fun x hx => by rw [t4.owed] at hx; exact absurd hx List.not_mem_nil

noncomputable def F : (((List S85) × Int) × (Int × Int × Int) × (Int × Int × Int × Int)) → Option ((Bool × ((List S85) × Unit)))
  | ((p0_l, p0_i), (p1_0, p1_1, p1_2), (p2_0, p2_1, p2_2, p2_3)) =>
  let x1 := (List.getD p0_l (Int.toNat p0_i) z85)
  let x0 := ((x1.f1 != p2_2) || (decide ((Go.IntKind.wrap (Go.IntKind.i64 ) (x1.f2 + p2_3)) > p1_2)))
  cond x0 (
   (t4 (p0_i, x0, p2_0, p2_1, p2_2, p2_3, (List.set p0_l (Int.toNat p0_i) (⟨x1.f0, x1.f1, 0⟩ : S85)))).bind fun yt4 =>
   some (yt4.2.1, (yt4.2.2, ()))) (
   (t4 (p0_i, x0, p2_0, p2_1, p2_2, p2_3, p0_l)).bind fun yt4 =>
   some (yt4.2.1, (yt4.2.2, ())))
theorem F.eq : ∀ x, F x = runF (mkE tab es 46 [] [(4, some (tailO (cutOf t4.A t4.c) (cutsOf t4.xs t4.y) t4))]) code [.elem 9, .agg [.sc, .sc, .sc], .agg [.sc, .sc, .sc, .sc]] [.sc] [.tmp 6] (Coz.dec cr) (cp.enc x) := fun x => by kernel_rfl
theorem F.owed : owed (mkE (R := (Bool × ((List S85) × Unit))) tab es 46 [] [(4, some (tailO (cutOf t4.A t4.c) (cutsOf t4.xs t4.y) t4))]) code = [((tailAt 4 code), (tailO (R := _) (cutOf t4.A t4.c) (cutsOf t4.xs t4.y) t4))] := by kernel_rfl
theorem con : ∀ x y, F x = some y → Con prog 40 [.elem 9, .agg [.sc, .sc, .sc], .agg [.sc, .sc, .sc, .sc]] [.sc] (cp.enc x) (cr.enc y).1 (cr.enc y).2 :=
  func_ok (c := code) (n := 46) (pf := [.elem 9, .agg [.sc, .sc, .sc], .agg [.sc, .sc, .sc, .sc]]) (res := [.tmp 6]) tabOk uniOk mixed get (by kernel_rfl) (by kernel_rfl) (by kernel_rfl) (by decide) F.eq fun w0 M h x hx => by rw [F.owed] at hx; rcases List.mem_cons.1 hx with rfl | hx; exact t4.ok w0 M h; exact absurd hx List.not_mem_nil
noncomputable def ent : Ent prog uni := Ent.of 40 [.elem 9, .agg [.sc, .sc, .sc], .agg [.sc, .sc, .sc, .sc]] [.sc] cp cr F con fun args w => enters_of get (by kernel_rfl) rfl args w
end Go.Proofs.YtchohkelpjfpcaaDoor.AX.F40

/- The function 17 of the program in the small machine. No conditions. -/
namespace Go.Proofs.YtchohkelpjfpcaaDoor.AX.F17
open Go Go.Proofs.Tryd
noncomputable def code : Code := bodyOf f17
abbrev Y : Type := ((List S56) × Int)
def cp : Cod uni ((Int × Int × Int) × (List S54)) := (codC (iAgg (codC (iInt .i64) (codC (iInt .i64) (cod1 (iInt .i64))))) (cod1 (iRow 2)))
def cr : Coz uni ((List S56) × Int) := (cozR (codC (iRow 3) (cod1 (iInt .i64))) (codD (codD cod0)))
noncomputable def es : List (Ent prog uni) := [F38.ent, F39.ent, F40.ent]
theorem get : prog.funcs[17]? = some f17 := by kernel_rfl

def l2.A : Ann := ⟨[(1, .slc 5000064 []), (2, .box 5000128 0), (6, .slc 5000384 []), (7, .slc 5000448 []), (8, .slc 5000512 []), (9, .slc 5000576 []), (10, .sc), (11, .sc), (34, .slc 5000064 []), (35, .sc), (36, .sc)], [(5000128, 30, [.sc, .sc, .sc])], [(5000064, false, 2), (5000384, true, 9), (5000448, true, 5), (5000512, true, 5), (5000576, true, 3)], []⟩
def l2.c : Cod uni (Int × Int × Int × Int × Int × Int × Int × (List S54) × (List S85) × (List Int) × (List Int) × (List S56)) := (codC (iInt .i64) (codC (iInt .i64) (codC (iInt .i64) (codC (iInt .i64) (codC (iInt .i64) (codC (iInt .i64) (codC (iInt .i64) (codC (iRow 2) (codC (iRow 9) (codC (iRow 5) (codC (iRow 5) (cod1 (iRow 3)))))))))))))
def l2.xs : List (AExit × Ann) := [((.exit 2), ⟨[(1, .slc 5000064 []), (2, .box 5000128 0), (6, .slc 5000384 []), (7, .slc 5000448 []), (8, .slc 5000512 []), (9, .slc 5000576 []), (10, .sc), (11, .sc)], [(5000128, 30, [.sc, .sc, .sc])], [(5000064, false, 2), (5000384, true, 9), (5000448, true, 5), (5000512, true, 5), (5000576, true, 3)], []⟩)]
def l2.y : Coy uni ((Int × Int × Int × Int × Int × (List S54) × (List S85) × (List Int) × (List Int) × (List S56))) := (coy1 (codC (iInt .i64) (codC (iInt .i64) (codC (iInt .i64) (codC (iInt .i64) (codC (iInt .i64) (codC (iRow 2) (codC (iRow 9) (codC (iRow 5) (codC (iRow 5) (cod1 (iRow 3))))))))))))
noncomputable def l2.b : Int × Int × Int × Int × Int × Int × Int × (List S54) × (List S85) × (List Int) × (List Int) × (List S56) → Option ((Int × Int × Int × Int × Int × Int × Int × (List S54) × (List S85) × (List Int) × (List Int) × (List S56)) ⊕ ((Int × Int × Int × Int × Int × (List S54) × (List S85) × (List Int) × (List Int) × (List S56))))
  | (v10, v11, v35, v36, b128_0, b128_1, b128_2, r64, r384, r448, r512, r576) =>
  cond (decide (v36 < v35)) (
   let x11 := ((List.length r64) : Int)
   cond ((decide (0 ≤ v36)) && (decide (v36 < x11))) (
    let x5 := ((decide (0 ≤ v36)) && (decide (v36 < ((List.length r448) : Int))))
    cond x5 (
     let x8 := (List.getD r64 (Int.toNat v36) z54)
     let x6 := ((List.length x8.f2) : Int)
     let x7 := (Go.IntKind.wrap (Go.IntKind.i64 ) (v36 + 1))
     let x9 := (List.getD r448 (Int.toNat v36) 0)
     cond (x9 == x6) (
      some (.inl (v10, v11, v35, x7, b128_0, b128_1, b128_2, r64, r384, r448, r512, r576))) (
      cond ((decide (0 ≤ v36)) && (decide (v36 < ((List.length r512) : Int)))) (
       cond x5 (
        cond ((decide (0 ≤ x9)) && (decide (x9 < x6))) (
         let x4 := (List.getD x8.f2 (Int.toNat x9) z69)
         cond ((decide (0 ≤ x4.f0)) && (decide (x4.f0 < ((List.length r384) : Int)))) (
          let x3 := (List.getD r384 (Int.toNat x4.f0) z85)
          let x10 := (List.getD r512 (Int.toNat v36) 0)
          let x2 := (if (x3.f0 > x10) then x3.f0 else x10)
          let x0 := ((decide (v10 < 0)) || (decide (x2 < v11)))
          let x1 := (x2 == v11)
          cond ((!((!x0) && x1)) || ((decide (0 ≤ v10)) && (decide (v10 < x11)))) (
           cond (x0 || (x1 && (decide (x8.f1 < (List.getD r64 (Int.toNat v10) z54).f1)))) (
            some (.inl (v36, x2, v35, x7, b128_0, b128_1, b128_2, r64, r384, r448, r512, r576))) (
            some (.inl (v10, v11, v35, x7, b128_0, b128_1, b128_2, r64, r384, r448, r512, r576)))) none) none) none) none) none)) none) none) (
   some (.inr (v10, v11, b128_0, b128_1, b128_2, r64, r384, r448, r512, r576)))
noncomputable def l2 (x : Int × Int × Int × Int × Int × Int × Int × (List S54) × (List S85) × (List Int) × (List Int) × (List S56)) : Option ((Int × Int × Int × Int × Int × (List S54) × (List S85) × (List Int) × (List Int) × (List S56))) := lim l2.b x
theorem l2.eq : ∀ x, l2.b x = roundX (mkE tab es 155 [] []) (loopAt 2 code) (cutOf l2.A l2.c) (cutsOf l2.xs l2.y) x := fun x => by kernel_rfl
theorem l2.owed {R : Type} : owed (mkE (R := R) tab es 155 [] []) (loopAt 2 code) = [] := by kernel_rfl
theorem l2.ok (w0 : World) (M : Own) (h : Pinned M []) {R : Type} : SoundO prog w0 M 155 (.block 2 (.loop (loopAt 2 code))) (loopO (R := R) 2 (cutOf l2.A l2.c) (cutsOf l2.xs l2.y) l2) :=
  loop_ok tabOk uniOk mixed l2.eq (h.sub rfl) (h.sub rfl) fun x hx => by rw [l2.owed] at hx; exact absurd hx List.not_mem_nil

def t25.A : Ann := ⟨[(1, .slc 5000064 []), (2, .box 5000128 0), (6, .slc 5000384 []), (7, .slc 5000448 []), (8, .slc 5000512 []), (9, .slc 5000576 []), (10, .sc), (16, .ptr 5000384 [] 0), (17, .box 5001088 0)], [(5000128, 30, [.sc, .sc, .sc]), (5001088, 57, [.sc, .sc, .sc, .sc, .sc, .sc])], [(5000064, false, 2), (5000384, true, 9), (5000448, true, 5), (5000512, true, 5), (5000576, true, 3)], []⟩
def t25.c : Cod uni (Int × Int × Int × Int × Int × Int × Int × Int × Int × Int × Bool × (List S54) × (List S85) × (List Int) × (List Int) × (List S56)) := (codC (iInt .i64) (codC (iInt .i64) (codC (iInt .i64) (codC (iInt .i64) (codC (iInt .i64) (codC (iInt .i64) (codC (iInt .i64) (codC (iInt .i64) (codC (iInt .i64) (codC (iInt .i64) (codC iBool (codC (iRow 2) (codC (iRow 9) (codC (iRow 5) (codC (iRow 5) (cod1 (iRow 3)))))))))))))))))
def t25.xs : List (AExit × Ann) := [(.normal, ⟨[(1, .slc 5000064 []), (2, .box 5000128 0), (6, .slc 5000384 []), (7, .slc 5000448 []), (8, .slc 5000512 []), (9, .slc 5000576 [])], [(5000128, 30, [.sc, .sc, .sc])], [(5000064, false, 2), (5000384, true, 9), (5000448, true, 5), (5000512, true, 5), (5000576, true, 3)], []⟩)]
def t25.y : Coy uni ((Int × Int × Int × (List S54) × (List S85) × (List Int) × (List Int) × (List S56))) := (coy1 (codC (iInt .i64) (codC (iInt .i64) (codC (iInt .i64) (codC (iRow 2) (codC (iRow 9) (codC (iRow 5) (codC (iRow 5) (cod1 (iRow 3))))))))))
noncomputable def t25 : Int × Int × Int × Int × Int × Int × Int × Int × Int × Int × Bool × (List S54) × (List S85) × (List Int) × (List Int) × (List S56) → Option ((Int × Int × Int × (List S54) × (List S85) × (List Int) × (List Int) × (List S56)))
  | (v10, v16p, b128_0, b128_1, b128_2, b1088_0, b1088_1, b1088_2, b1088_3, b1088_4, b1088_5, r64, r384, r448, r512, r576) =>
  cond ((decide (0 ≤ v10)) && (decide (v10 < ((List.length r512) : Int)))) (
   let x1 := ((decide (0 ≤ v10)) && (decide (v10 < ((List.length r448) : Int))))
   cond x1 (
    cond x1 (
     let x0 := ((⟨b1088_0, b1088_1, b1088_2, b1088_3, b1088_4, b1088_5⟩ : S56) :: [])
     cond (decide (((List.length r576) + (List.length x0)) ≤ 274877906944)) (
      let x2 := (List.getD r384 (Int.toNat v16p) z85)
      some (b128_0, b128_1, b128_2, r64, (List.set r384 (Int.toNat v16p) (⟨b1088_4, x2.f1, x2.f2⟩ : S85)), (List.set r448 (Int.toNat v10) (Go.IntKind.wrap (Go.IntKind.i64 ) ((List.getD r448 (Int.toNat v10) 0) + 1))), (List.set r512 (Int.toNat v10) b1088_4), (r576 ++ x0))) none) none) none) none
theorem t25.eq : ∀ x, t25 x = tailX (mkE tab es 155 [] []) (tailAt 25 code) (cutOf t25.A t25.c) (cutsOf t25.xs t25.y) x := fun x => by kernel_rfl
theorem t25.owed {R : Type} : owed (mkE (R := R) tab es 155 [] []) (tailAt 25 code) = [] := by kernel_rfl
theorem t25.ok (w0 : World) (M : Own) (h : Pinned M []) {R : Type} : SoundO prog w0 M 155 (tailAt 25 code) (tailO (R := R) (cutOf t25.A t25.c) (cutsOf t25.xs t25.y) t25) :=
  tail_ok tabOk uniOk mixed t25.eq (h.sub rfl) (h.sub rfl) fun x hx => by rw [t25.owed] at hx; exact absurd hx List.not_mem_nil

def l0.A : Ann := ⟨[(1, .slc 5000064 []), (2, .box 5000128 0), (6, .slc 5000384 []), (7, .slc 5000448 []), (8, .slc 5000512 []), (9, .slc 5000576 [])], [(5000128, 30, [.sc, .sc, .sc])], [(5000064, false, 2), (5000384, true, 9), (5000448, true, 5), (5000512, true, 5), (5000576, true, 3)], []⟩
def l0.c : Cod uni (Int × Int × Int × (List S54) × (List S85) × (List Int) × (List Int) × (List S56)) := (codC (iInt .i64) (codC (iInt .i64) (codC (iInt .i64) (codC (iRow 2) (codC (iRow 9) (codC (iRow 5) (codC (iRow 5) (cod1 (iRow 3)))))))))
def l0.xs : List (AExit × Ann) := [(.ret, ⟨[(4, .slc 5000256 []), (5, .sc)], [], [(5000256, true, 3)], []⟩)]
def l0.y : Coy uni ((Int × (List S56))) := (coy1 (codC (iInt .i64) (cod1 (iRow 3))))
noncomputable def l0.b : Int × Int × Int × (List S54) × (List S85) × (List Int) × (List Int) × (List S56) → Option ((Int × Int × Int × (List S54) × (List S85) × (List Int) × (List Int) × (List S56)) ⊕ ((Int × (List S56))))
  | (b128_0, b128_1, b128_2, r64, r384, r448, r512, r576) =>
  (l2 ((-1), 0, ((List.length r64) : Int), 0, b128_0, b128_1, b128_2, r64, r384, r448, r512, r576)).bind fun yl2 =>
  cond (decide (yl2.1 < 0)) (
   some (.inr (0, yl2.2.2.2.2.2.2.2.2.2))) (
   cond ((decide (0 ≤ yl2.1)) && (decide (yl2.1 < ((List.length yl2.2.2.2.2.2.1) : Int)))) (
    let x2 := ((decide (0 ≤ yl2.1)) && (decide (yl2.1 < ((List.length yl2.2.2.2.2.2.2.2.1) : Int))))
    cond x2 (
     let x3 := (List.getD yl2.2.2.2.2.2.2.2.1 (Int.toNat yl2.1) 0)
     let x4 := (List.getD yl2.2.2.2.2.2.1 (Int.toNat yl2.1) z54)
     cond ((decide (0 ≤ x3)) && (decide (x3 < ((List.length x4.f2) : Int)))) (
      let x1 := (List.getD x4.f2 (Int.toNat x3) z69)
      cond ((decide (0 ≤ x1.f0)) && (decide (x1.f0 < ((List.length yl2.2.2.2.2.2.2.1) : Int)))) (
       cond x2 (
        (F40.F ((yl2.2.2.2.2.2.2.1, x1.f0), ((yl2.2.2.1, (yl2.2.2.2.1, yl2.2.2.2.2.1)), (x1.f0, (x1.f1, (x1.f2, x1.f3)))))).bind fun y40 =>
        let x0 := (Go.IntKind.wrap (Go.IntKind.i64 ) (yl2.2.1 + x1.f1))
        cond y40.1 (
         (t25 (yl2.1, x1.f0, yl2.2.2.1, yl2.2.2.2.1, yl2.2.2.2.2.1, yl2.1, x3, x1.f0, yl2.2.1, (Go.IntKind.wrap (Go.IntKind.i64 ) (x0 + yl2.2.2.2.1)), y40.1, yl2.2.2.2.2.2.1, y40.2.1, yl2.2.2.2.2.2.2.2.1, yl2.2.2.2.2.2.2.2.2.1, yl2.2.2.2.2.2.2.2.2.2)).bind fun yt25 =>
         some (.inl (yt25.1, yt25.2.1, yt25.2.2.1, yt25.2.2.2.1, yt25.2.2.2.2.1, yt25.2.2.2.2.2.1, yt25.2.2.2.2.2.2.1, yt25.2.2.2.2.2.2.2))) (
         (t25 (yl2.1, x1.f0, yl2.2.2.1, yl2.2.2.2.1, yl2.2.2.2.2.1, yl2.1, x3, x1.f0, yl2.2.1, x0, y40.1, yl2.2.2.2.2.2.1, y40.2.1, yl2.2.2.2.2.2.2.2.1, yl2.2.2.2.2.2.2.2.2.1, yl2.2.2.2.2.2.2.2.2.2)).bind fun yt25 =>
         some (.inl (yt25.1, yt25.2.1, yt25.2.2.1, yt25.2.2.2.1, yt25.2.2.2.2.1, yt25.2.2.2.2.2.1, yt25.2.2.2.2.2.2.1, yt25.2.2.2.2.2.2.2)))) none) none) none) none) none)
noncomputable def l0 (x : Int × Int × Int × (List S54) × (List S85) × (List Int) × (List Int) × (List S56)) : Option ((Int × (List S56))) := lim l0.b x
theorem l0.eq : ∀ x, l0.b x = roundX (mkE tab es 155 [(2, some (loopO 2 (cutOf l2.A l2.c) (cutsOf l2.xs l2.y) l2))] [(25, some (tailO (cutOf t25.A t25.c) (cutsOf t25.xs t25.y) t25))]) (loopAt 0 code) (cutOf l0.A l0.c) (cutsOf l0.xs l0.y) x := fun x => by kernel_rfl
theorem l0.owed {R : Type} : owed (mkE (R := R) tab es 155 [(2, some (loopO 2 (cutOf l2.A l2.c) (cutsOf l2.xs l2.y) l2))] [(25, some (tailO (cutOf t25.A t25.c) (cutsOf t25.xs t25.y) t25))]) (loopAt 0 code) = [((.block 2 (.loop (loopAt 2 code))), (loopO (R := _) 2 (cutOf l2.A l2.c) (cutsOf l2.xs l2.y) l2)), ((tailAt 25 code), (tailO (R := _) (cutOf t25.A t25.c) (cutsOf t25.xs t25.y) t25))] := by kernel_rfl
theorem l0.ok (w0 : World) (M : Own) (h : Pinned M []) {R : Type} : SoundO prog w0 M 155 (.block 0 (.loop (loopAt 0 code))) (loopO (R := R) 0 (cutOf l0.A l0.c) (cutsOf l0.xs l0.y) l0) :=
  loop_ok tabOk uniOk mixed l0.eq (h.sub rfl) (h.sub rfl) fun x hx => by rw [l0.owed] at hx; rcases List.mem_cons.1 hx with rfl | hx; exact l2.ok w0 M h; rcases List.mem_cons.1 hx with rfl | hx; exact t25.ok w0 M h; exact absurd hx List.not_mem_nil

noncomputable def F : ((Int × Int × Int) × (List S54)) → Option (((List S56) × Int))
  | ((p0_0, p0_1, p0_2), p1) =>
  let x2 := ((List.length p1) : Int)
  cond (decide (x2 > 4096)) (
   some (([] : List S56), 2)) (
   (F38.F ((p0_0, (p0_1, p0_2)), p1)).bind fun y38 =>
   cond (!y38) (
    some (([] : List S56), 1)) (
    (F39.F p0_0).bind fun y39 =>
    let x0 := (((decide (0 ≤ x2)) && (decide (x2 ≤ x2))) && (decide (x2 ≤ 274877906944)))
    cond x0 (
     cond x0 (
      let x1 := (List.replicate (Int.toNat x2) 0)
      (l0 (p0_0, p0_1, p0_2, p1, y39, x1, x1, ([] : List S56))).bind fun yl0 =>
      some (yl0.2, yl0.1)) none) none))
theorem F.eq : ∀ x, F x = runF (mkE tab es 155 [(0, some (loopO 0 (cutOf l0.A l0.c) (cutsOf l0.xs l0.y) l0))] []) code [.agg [.sc, .sc, .sc], .row 2 0] [.row 3, .sc] [.tmp 4, .tmp 5] (Coz.dec cr) (cp.enc x) := fun x => by kernel_rfl
theorem F.owed : owed (mkE (R := ((List S56) × Int)) tab es 155 [(0, some (loopO 0 (cutOf l0.A l0.c) (cutsOf l0.xs l0.y) l0))] []) code = [((.block 0 (.loop (loopAt 0 code))), (loopO (R := _) 0 (cutOf l0.A l0.c) (cutsOf l0.xs l0.y) l0))] := by kernel_rfl
theorem con : ∀ x y, F x = some y → Con prog 17 [.agg [.sc, .sc, .sc], .row 2 0] [.row 3, .sc] (cp.enc x) (cr.enc y).1 (cr.enc y).2 :=
  func_ok (c := code) (n := 155) (pf := [.agg [.sc, .sc, .sc], .row 2 0]) (res := [.tmp 4, .tmp 5]) tabOk uniOk mixed get (by kernel_rfl) (by kernel_rfl) (by kernel_rfl) (by decide) F.eq fun w0 M h x hx => by rw [F.owed] at hx; rcases List.mem_cons.1 hx with rfl | hx; exact l0.ok w0 M h; exact absurd hx List.not_mem_nil
noncomputable def ent : Ent prog uni := Ent.of 17 [.agg [.sc, .sc, .sc], .row 2 0] [.row 3, .sc] cp cr F con fun args w => enters_of get (by kernel_rfl) rfl args w
end Go.Proofs.YtchohkelpjfpcaaDoor.AX.F17

/- The function 33 of the program in the small machine. No conditions. -/
namespace Go.Proofs.YtchohkelpjfpcaaDoor.AX.F33
open Go Go.Proofs.Tryd
noncomputable def code : Code := bodyOf f33
abbrev Y : Type := (List S71)
def cp : Cod uni Int := (cod1 (iInt .i64))
def cr : Coz uni (List S71) := (cozR (cod1 (iRow 8)) (codD cod0))
noncomputable def es : List (Ent prog uni) := []
theorem get : prog.funcs[33]? = some f33 := by kernel_rfl

def l0.A : Ann := ⟨[(0, .sc), (3, .slc 5000192 []), (4, .sc)], [], [(5000192, true, 8)], []⟩
def l0.c : Cod uni (Int × Int × (List S71)) := (codC (iInt .i64) (codC (iInt .i64) (cod1 (iRow 8))))
def l0.xs : List (AExit × Ann) := [((.exit 0), ⟨[(3, .slc 5000192 [])], [], [(5000192, true, 8)], []⟩)]
def l0.y : Coy uni ((List S71)) := (coy1 (cod1 (iRow 8)))
noncomputable def l0.b : Int × Int × (List S71) → Option ((Int × Int × (List S71)) ⊕ ((List S71)))
  | (v0, v4, r192) =>
  cond (decide (v4 < v0)) (
   cond (decide (((List.length r192) + (List.length ((⟨0, (-1), 0⟩ : S71) :: []))) ≤ 274877906944)) (
    some (.inl (v0, (Go.IntKind.wrap (Go.IntKind.i64 ) (v4 + 1)), (r192 ++ ((⟨0, (-1), 0⟩ : S71) :: []))))) none) (
   some (.inr r192))
noncomputable def l0 (x : Int × Int × (List S71)) : Option ((List S71)) := lim l0.b x
theorem l0.eq : ∀ x, l0.b x = roundX (mkE tab es 16 [] []) (loopAt 0 code) (cutOf l0.A l0.c) (cutsOf l0.xs l0.y) x := fun x => by kernel_rfl
theorem l0.owed {R : Type} : owed (mkE (R := R) tab es 16 [] []) (loopAt 0 code) = [] := by kernel_rfl
theorem l0.ok (w0 : World) (M : Own) (h : Pinned M []) {R : Type} : SoundO prog w0 M 16 (.block 0 (.loop (loopAt 0 code))) (loopO (R := R) 0 (cutOf l0.A l0.c) (cutsOf l0.xs l0.y) l0) :=
  loop_ok tabOk uniOk mixed l0.eq (h.sub rfl) (h.sub rfl) fun x hx => by rw [l0.owed] at hx; exact absurd hx List.not_mem_nil

noncomputable def F : Int → Option ((List S71))
  | p0 =>
  (l0 (p0, 0, ([] : List S71))).bind fun yl0 =>
  some yl0
theorem F.eq : ∀ x, F x = runF (mkE tab es 16 [(0, some (loopO 0 (cutOf l0.A l0.c) (cutsOf l0.xs l0.y) l0))] []) code [.sc] [.row 8] [.tmp 2] (Coz.dec cr) (cp.enc x) := fun x => by kernel_rfl
theorem F.owed : owed (mkE (R := (List S71)) tab es 16 [(0, some (loopO 0 (cutOf l0.A l0.c) (cutsOf l0.xs l0.y) l0))] []) code = [((.block 0 (.loop (loopAt 0 code))), (loopO (R := _) 0 (cutOf l0.A l0.c) (cutsOf l0.xs l0.y) l0))] := by kernel_rfl
theorem con : ∀ x y, F x = some y → Con prog 33 [.sc] [.row 8] (cp.enc x) (cr.enc y).1 (cr.enc y).2 :=
  func_ok (c := code) (n := 16) (pf := [.sc]) (res := [.tmp 2]) tabOk uniOk mixed get (by kernel_rfl) (by kernel_rfl) (by kernel_rfl) (by decide) F.eq fun w0 M h x hx => by rw [F.owed] at hx; rcases List.mem_cons.1 hx with rfl | hx; exact l0.ok w0 M h; exact absurd hx List.not_mem_nil
noncomputable def ent : Ent prog uni := Ent.of 33 [.sc] [.row 8] cp cr F con fun args w => enters_of get (by kernel_rfl) rfl args w
end Go.Proofs.YtchohkelpjfpcaaDoor.AX.F33

/- The function 34 of the program in the small machine. No conditions. -/
namespace Go.Proofs.YtchohkelpjfpcaaDoor.AX.F34
open Go Go.Proofs.Tryd
noncomputable def code : Code := bodyOf f34
abbrev Y : Type := Bool
def cp : Cod uni ((Int × Int × Int) × (Int × Int × Int × Int) × Int) := (codC (iAgg (codC (iInt .i64) (codC (iInt .i64) (cod1 (iInt .i64))))) (codC (iAgg (codC (iInt .i64) (codC (iInt .i64) (codC (iInt .i64) (cod1 (iInt .i64)))))) (cod1 (iInt .i64))))
def cr : Coz uni Bool := (cozR (cod1 iBool) (codD (codD (codD cod0))))
noncomputable def es : List (Ent prog uni) := []
theorem get : prog.funcs[34]? = some f34 := by kernel_rfl

noncomputable def F : ((Int × Int × Int) × (Int × Int × Int × Int) × Int) → Option (Bool)
  | ((p0_0, p0_1, p0_2), (p1_0, p1_1, p1_2, p1_3), p2) =>
  some ((p0_1 != p1_2) || (decide ((Go.IntKind.wrap (Go.IntKind.i64 ) (p0_2 + p1_3)) > p2)))
theorem F.eq : ∀ x, F x = runF (mkE tab es 21 [] []) code [.agg [.sc, .sc, .sc], .agg [.sc, .sc, .sc, .sc], .sc] [.sc] [.tmp 6] (Coz.dec cr) (cp.enc x) := fun x => by kernel_rfl
theorem F.owed : owed (mkE (R := Bool) tab es 21 [] []) code = [] := by kernel_rfl
theorem con : ∀ x y, F x = some y → Con prog 34 [.agg [.sc, .sc, .sc], .agg [.sc, .sc, .sc, .sc], .sc] [.sc] (cp.enc x) (cr.enc y).1 (cr.enc y).2 :=
  func_ok (c := code) (n := 21) (pf := [.agg [.sc, .sc, .sc], .agg [.sc, .sc, .sc, .sc], .sc]) (res := [.tmp 6]) tabOk uniOk mixed get (by kernel_rfl) (by kernel_rfl) (by kernel_rfl) (by decide) F.eq fun w0 M h x hx => by rw [F.owed] at hx; exact absurd hx List.not_mem_nil
noncomputable def ent : Ent prog uni := Ent.of 34 [.agg [.sc, .sc, .sc], .agg [.sc, .sc, .sc, .sc], .sc] [.sc] cp cr F con fun args w => enters_of get (by kernel_rfl) rfl args w
end Go.Proofs.YtchohkelpjfpcaaDoor.AX.F34

/- The function 35 of the program in the small machine. No conditions. -/
namespace Go.Proofs.YtchohkelpjfpcaaDoor.AX.F35
open Go Go.Proofs.Tryd
noncomputable def code : Code := bodyOf f35
abbrev Y : Type := (Int × Int × Int)
def cp : Cod uni ((Int × Int × Int) × (Int × Int × Int × Int) × Bool × Int) := (codC (iAgg (codC (iInt .i64) (codC (iInt .i64) (cod1 (iInt .i64))))) (codC (iAgg (codC (iInt .i64) (codC (iInt .i64) (codC (iInt .i64) (cod1 (iInt .i64)))))) (codC iBool (cod1 (iInt .i64)))))
def cr : Coz uni (Int × Int × Int) := (cozR (cod1 (iAgg (codC (iInt .i64) (codC (iInt .i64) (cod1 (iInt .i64)))))) (codD (codD (codD (codD cod0)))))
noncomputable def es : List (Ent prog uni) := []
theorem get : prog.funcs[35]? = some f35 := by kernel_rfl

def t3.A : Ann := ⟨[(3, .sc), (4, .box 5000256 0), (5, .box 5000320 0), (8, .box 5000512 0)], [(5000256, 72, [.sc, .sc, .sc]), (5000320, 70, [.sc, .sc, .sc, .sc]), (5000512, 72, [.sc, .sc, .sc])], [], []⟩
def t3.c : Cod uni (Int × Int × Int × Int × Int × Int × Int × Int × Int × Int × Int) := (codC (iInt .i64) (codC (iInt .i64) (codC (iInt .i64) (codC (iInt .i64) (codC (iInt .i64) (codC (iInt .i64) (codC (iInt .i64) (codC (iInt .i64) (codC (iInt .i64) (codC (iInt .i64) (cod1 (iInt .i64))))))))))))
def t3.xs : List (AExit × Ann) := [(.ret, ⟨[(8, .box 5000512 0)], [(5000512, 72, [.sc, .sc, .sc])], [], []⟩)]
def t3.y : Coy uni ((Int × Int × Int)) := (coy1 (codC (iInt .i64) (codC (iInt .i64) (cod1 (iInt .i64)))))
noncomputable def t3 : Int × Int × Int × Int × Int × Int × Int × Int × Int × Int × Int → Option ((Int × Int × Int))
  | (v3, b256_0, b256_1, b256_2, b320_0, b320_1, b320_2, b320_3, b512_0, b512_1, b512_2) =>
  some ((if (v3 > b256_0) then v3 else b256_0), b320_2, (Go.IntKind.wrap (Go.IntKind.i64 ) (b256_2 + b320_3)))
theorem t3.eq : ∀ x, t3 x = tailX (mkE tab es 26 [] []) (tailAt 3 code) (cutOf t3.A t3.c) (cutsOf t3.xs t3.y) x := fun x => by kernel_rfl
theorem t3.owed {R : Type} : owed (mkE (R := R) tab es 26 [] []) (tailAt 3 code) = [] := by kernel_rfl
theorem t3.ok (w0 : World) (M : Own) (h : Pinned M []) {R : Type} : SoundO prog w0 M 26 (tailAt 3 code) (tailO (R := R) (cutOf t3.A t3.c) (cutsOf t3.xs t3.y) t3) :=
  tail_ok tabOk uniOk mixed t3.eq (h.sub rfl) (h.sub rfl) fun x hx => by rw [t3.owed] at hx; exact absurd hx List.not_mem_nil

noncomputable def F : ((Int × Int × Int) × (Int × Int × Int × Int) × Bool × Int) → Option ((Int × Int × Int))
  | ((p0_0, p0_1, p0_2), (p1_0, p1_1, p1_2, p1_3), p2, p3) =>
  cond p2 (
   (t3 (p3, p0_0, p0_1, 0, p1_0, p1_1, p1_2, p1_3, 0, 0, 0)).bind fun yt3 =>
   some (yt3.1, (yt3.2.1, yt3.2.2))) (
   (t3 (p3, p0_0, p0_1, p0_2, p1_0, p1_1, p1_2, p1_3, 0, 0, 0)).bind fun yt3 =>
   some (yt3.1, (yt3.2.1, yt3.2.2)))
theorem F.eq : ∀ x, F x = runF (mkE tab es 26 [] [(3, some (tailO (cutOf t3.A t3.c) (cutsOf t3.xs t3.y) t3))]) code [.agg [.sc, .sc, .sc], .agg [.sc, .sc, .sc, .sc], .sc, .sc] [.agg [.sc, .sc, .sc]] [.cell 8 72] (Coz.dec cr) (cp.enc x) := fun x => by kernel_rfl
theorem F.owed : owed (mkE (R := (Int × Int × Int)) tab es 26 [] [(3, some (tailO (cutOf t3.A t3.c) (cutsOf t3.xs t3.y) t3))]) code = [((tailAt 3 code), (tailO (R := _) (cutOf t3.A t3.c) (cutsOf t3.xs t3.y) t3))] := by kernel_rfl
theorem con : ∀ x y, F x = some y → Con prog 35 [.agg [.sc, .sc, .sc], .agg [.sc, .sc, .sc, .sc], .sc, .sc] [.agg [.sc, .sc, .sc]] (cp.enc x) (cr.enc y).1 (cr.enc y).2 :=
  func_ok (c := code) (n := 26) (pf := [.agg [.sc, .sc, .sc], .agg [.sc, .sc, .sc, .sc], .sc, .sc]) (res := [.cell 8 72]) tabOk uniOk mixed get (by kernel_rfl) (by kernel_rfl) (by kernel_rfl) (by decide) F.eq fun w0 M h x hx => by rw [F.owed] at hx; rcases List.mem_cons.1 hx with rfl | hx; exact t3.ok w0 M h; exact absurd hx List.not_mem_nil
noncomputable def ent : Ent prog uni := Ent.of 35 [.agg [.sc, .sc, .sc], .agg [.sc, .sc, .sc, .sc], .sc, .sc] [.agg [.sc, .sc, .sc]] cp cr F con fun args w => enters_of get (by kernel_rfl) rfl args w
end Go.Proofs.YtchohkelpjfpcaaDoor.AX.F35

/- The function 16 of the program in the small machine. No conditions. -/
namespace Go.Proofs.YtchohkelpjfpcaaDoor.AX.F16
open Go Go.Proofs.Tryd
noncomputable def code : Code := bodyOf f16
abbrev Y : Type := ((List S56) × Int)
def cp : Cod uni ((Int × Int × Int) × (List S54)) := (codC (iAgg (codC (iInt .i64) (codC (iInt .i64) (cod1 (iInt .i64))))) (cod1 (iRow 2)))
def cr : Coz uni ((List S56) × Int) := (cozR (codC (iRow 3) (cod1 (iInt .i64))) (codD (codD cod0)))
noncomputable def es : List (Ent prog uni) := [F32.ent, F33.ent, F34.ent, F35.ent]
theorem get : prog.funcs[16]? = some f16 := by kernel_rfl

def l2.A : Ann := ⟨[(1, .slc 5000064 []), (2, .box 5000128 0), (6, .slc 5000384 []), (7, .slc 5000448 []), (8, .slc 5000512 []), (9, .slc 5000576 []), (10, .sc), (11, .sc), (12, .sc)], [(5000128, 30, [.sc, .sc, .sc])], [(5000064, false, 2), (5000384, true, 8), (5000448, true, 5), (5000512, true, 5), (5000576, true, 3)], []⟩
def l2.c : Cod uni (Int × Int × Int × Int × Int × Int × (List S54) × (List S71) × (List Int) × (List Int) × (List S56)) := (codC (iInt .i64) (codC (iInt .i64) (codC (iInt .i64) (codC (iInt .i64) (codC (iInt .i64) (codC (iInt .i64) (codC (iRow 2) (codC (iRow 8) (codC (iRow 5) (codC (iRow 5) (cod1 (iRow 3))))))))))))
def l2.xs : List (AExit × Ann) := [((.exit 2), ⟨[(1, .slc 5000064 []), (2, .box 5000128 0), (6, .slc 5000384 []), (7, .slc 5000448 []), (8, .slc 5000512 []), (9, .slc 5000576 []), (10, .sc), (11, .sc)], [(5000128, 30, [.sc, .sc, .sc])], [(5000064, false, 2), (5000384, true, 8), (5000448, true, 5), (5000512, true, 5), (5000576, true, 3)], []⟩)]
def l2.y : Coy uni ((Int × Int × Int × Int × Int × (List S54) × (List S71) × (List Int) × (List Int) × (List S56))) := (coy1 (codC (iInt .i64) (codC (iInt .i64) (codC (iInt .i64) (codC (iInt .i64) (codC (iInt .i64) (codC (iRow 2) (codC (iRow 8) (codC (iRow 5) (codC (iRow 5) (cod1 (iRow 3))))))))))))
noncomputable def l2.b : Int × Int × Int × Int × Int × Int × (List S54) × (List S71) × (List Int) × (List Int) × (List S56) → Option ((Int × Int × Int × Int × Int × Int × (List S54) × (List S71) × (List Int) × (List Int) × (List S56)) ⊕ ((Int × Int × Int × Int × Int × (List S54) × (List S71) × (List Int) × (List Int) × (List S56))))
  | (v10, v11, v12, b128_0, b128_1, b128_2, r64, r384, r448, r512, r576) =>
  let x14 := ((List.length r64) : Int)
  let x10 := (decide (v12 < x14))
  cond x10 (
   let x6 := ((decide (0 ≤ v12)) && (decide (v12 < ((List.length r448) : Int))))
   cond x6 (
    let x7 := ((decide (0 ≤ v12)) && x10)
    cond x7 (
     let x11 := (List.getD r64 (Int.toNat v12) z54)
     let x8 := ((List.length x11.f2) : Int)
     let x9 := (Go.IntKind.wrap (Go.IntKind.i64 ) (v12 + 1))
     let x12 := (List.getD r448 (Int.toNat v12) 0)
     cond (x12 == x8) (
      some (.inl (v10, v11, x9, b128_0, b128_1, b128_2, r64, r384, r448, r512, r576))) (
      cond ((decide (0 ≤ v12)) && (decide (v12 < ((List.length r512) : Int)))) (
       cond x7 (
        cond x6 (
         cond ((decide (0 ≤ x12)) && (decide (x12 < x8))) (
          let x5 := (List.getD x11.f2 (Int.toNat x12) z69)
          cond ((decide (0 ≤ x5.f0)) && (decide (x5.f0 < ((List.length r384) : Int)))) (
           let x4 := (List.getD r384 (Int.toNat x5.f0) z71)
           let x13 := (List.getD r512 (Int.toNat v12) 0)
           let x3 := (if (x4.f0 > x13) then x4.f0 else x13)
           let x1 := ((decide (v10 < 0)) || (decide (x3 < v11)))
           let x2 := (x3 == v11)
           let x0 := (!((!x1) && x2))
           cond (x0 || x7) (
            cond (x0 || ((decide (0 ≤ v10)) && (decide (v10 < x14)))) (
             cond (x1 || (x2 && (decide (x11.f1 < (List.getD r64 (Int.toNat v10) z54).f1)))) (
              some (.inl (v12, x3, x9, b128_0, b128_1, b128_2, r64, r384, r448, r512, r576))) (
              some (.inl (v10, v11, x9, b128_0, b128_1, b128_2, r64, r384, r448, r512, r576)))) none) none) none) none) none) none) none)) none) none) (
   some (.inr (v10, v11, b128_0, b128_1, b128_2, r64, r384, r448, r512, r576)))
noncomputable def l2 (x : Int × Int × Int × Int × Int × Int × (List S54) × (List S71) × (List Int) × (List Int) × (List S56)) : Option ((Int × Int × Int × Int × Int × (List S54) × (List S71) × (List Int) × (List Int) × (List S56))) := lim l2.b x
theorem l2.eq : ∀ x, l2.b x = roundX (mkE tab es 170 [] []) (loopAt 2 code) (cutOf l2.A l2.c) (cutsOf l2.xs l2.y) x := fun x => by kernel_rfl
theorem l2.owed {R : Type} : owed (mkE (R := R) tab es 170 [] []) (loopAt 2 code) = [] := by kernel_rfl
theorem l2.ok (w0 : World) (M : Own) (h : Pinned M []) {R : Type} : SoundO prog w0 M 170 (.block 2 (.loop (loopAt 2 code))) (loopO (R := R) 2 (cutOf l2.A l2.c) (cutsOf l2.xs l2.y) l2) :=
  loop_ok tabOk uniOk mixed l2.eq (h.sub rfl) (h.sub rfl) fun x hx => by rw [l2.owed] at hx; exact absurd hx List.not_mem_nil

def t26.A : Ann := ⟨[(1, .slc 5000064 []), (2, .box 5000128 0), (6, .slc 5000384 []), (7, .slc 5000448 []), (8, .slc 5000512 []), (9, .slc 5000576 []), (10, .sc), (11, .sc), (14, .box 5000896 0), (15, .sc), (16, .sc)], [(5000128, 30, [.sc, .sc, .sc]), (5000896, 70, [.sc, .sc, .sc, .sc])], [(5000064, false, 2), (5000384, true, 8), (5000448, true, 5), (5000512, true, 5), (5000576, true, 3)], []⟩
def t26.c : Cod uni (Int × Int × Bool × Int × Int × Int × Int × Int × Int × Int × Int × (List S54) × (List S71) × (List Int) × (List Int) × (List S56)) := (codC (iInt .i64) (codC (iInt .i64) (codC iBool (codC (iInt .i64) (codC (iInt .i64) (codC (iInt .i64) (codC (iInt .i64) (codC (iInt .i64) (codC (iInt .i64) (codC (iInt .i64) (codC (iInt .i64) (codC (iRow 2) (codC (iRow 8) (codC (iRow 5) (codC (iRow 5) (cod1 (iRow 3)))))))))))))))))
def t26.xs : List (AExit × Ann) := [(.normal, ⟨[(1, .slc 5000064 []), (2, .box 5000128 0), (6, .slc 5000384 []), (7, .slc 5000448 []), (8, .slc 5000512 []), (9, .slc 5000576 [])], [(5000128, 30, [.sc, .sc, .sc])], [(5000064, false, 2), (5000384, true, 8), (5000448, true, 5), (5000512, true, 5), (5000576, true, 3)], []⟩)]
def t26.y : Coy uni ((Int × Int × Int × (List S54) × (List S71) × (List Int) × (List Int) × (List S56))) := (coy1 (codC (iInt .i64) (codC (iInt .i64) (codC (iInt .i64) (codC (iRow 2) (codC (iRow 8) (codC (iRow 5) (codC (iRow 5) (cod1 (iRow 3))))))))))
noncomputable def t26 : Int × Int × Bool × Int × Int × Int × Int × Int × Int × Int × Int × (List S54) × (List S71) × (List Int) × (List Int) × (List S56) → Option ((Int × Int × Int × (List S54) × (List S71) × (List Int) × (List Int) × (List S56)))
  | (v10, v11, v15, v16, b128_0, b128_1, b128_2, b896_0, b896_1, b896_2, b896_3, r64, r384, r448, r512, r576) =>
  let x1 := ((decide (0 ≤ b896_0)) && (decide (b896_0 < ((List.length r384) : Int))))
  cond x1 (
   let x3 := (List.getD r384 (Int.toNat b896_0) z71)
   (F35.F ((x3.f0, (x3.f1, x3.f2)), ((b896_0, (b896_1, (b896_2, b896_3))), (v15, v16)))).bind fun y35 =>
   cond x1 (
    let x2 := ((decide (0 ≤ v10)) && (decide (v10 < ((List.length r448) : Int))))
    cond x2 (
     let x4 := (List.getD r448 (Int.toNat v10) 0)
     let x0 := ((⟨v10, x4, b896_0, v11, v16, v15⟩ : S56) :: [])
     cond (decide (((List.length r576) + (List.length x0)) ≤ 274877906944)) (
      cond x2 (
       cond x2 (
        cond ((decide (0 ≤ v10)) && (decide (v10 < ((List.length r512) : Int)))) (
         some (b128_0, b128_1, b128_2, r64, (List.set r384 (Int.toNat b896_0) (⟨y35.1, y35.2.1, y35.2.2⟩ : S71)), (List.set r448 (Int.toNat v10) (Go.IntKind.wrap (Go.IntKind.i64 ) (x4 + 1))), (List.set r512 (Int.toNat v10) v16), (r576 ++ x0))) none) none) none) none) none) none) none
theorem t26.eq : ∀ x, t26 x = tailX (mkE tab es 170 [] []) (tailAt 26 code) (cutOf t26.A t26.c) (cutsOf t26.xs t26.y) x := fun x => by kernel_rfl
theorem t26.owed {R : Type} : owed (mkE (R := R) tab es 170 [] []) (tailAt 26 code) = [] := by kernel_rfl
theorem t26.ok (w0 : World) (M : Own) (h : Pinned M []) {R : Type} : SoundO prog w0 M 170 (tailAt 26 code) (tailO (R := R) (cutOf t26.A t26.c) (cutsOf t26.xs t26.y) t26) :=
  tail_ok tabOk uniOk mixed t26.eq (h.sub rfl) (h.sub rfl) fun x hx => by rw [t26.owed] at hx; exact absurd hx List.not_mem_nil

def l0.A : Ann := ⟨[(1, .slc 5000064 []), (2, .box 5000128 0), (6, .slc 5000384 []), (7, .slc 5000448 []), (8, .slc 5000512 []), (9, .slc 5000576 [])], [(5000128, 30, [.sc, .sc, .sc])], [(5000064, false, 2), (5000384, true, 8), (5000448, true, 5), (5000512, true, 5), (5000576, true, 3)], []⟩
def l0.c : Cod uni (Int × Int × Int × (List S54) × (List S71) × (List Int) × (List Int) × (List S56)) := (codC (iInt .i64) (codC (iInt .i64) (codC (iInt .i64) (codC (iRow 2) (codC (iRow 8) (codC (iRow 5) (codC (iRow 5) (cod1 (iRow 3)))))))))
def l0.xs : List (AExit × Ann) := [(.ret, ⟨[(4, .slc 5000256 []), (5, .sc)], [], [(5000256, true, 3)], []⟩)]
def l0.y : Coy uni ((Int × (List S56))) := (coy1 (codC (iInt .i64) (cod1 (iRow 3))))
noncomputable def l0.b : Int × Int × Int × (List S54) × (List S71) × (List Int) × (List Int) × (List S56) → Option ((Int × Int × Int × (List S54) × (List S71) × (List Int) × (List Int) × (List S56)) ⊕ ((Int × (List S56))))
  | (b128_0, b128_1, b128_2, r64, r384, r448, r512, r576) =>
  (l2 ((-1), 0, 0, b128_0, b128_1, b128_2, r64, r384, r448, r512, r576)).bind fun yl2 =>
  cond (decide (yl2.1 < 0)) (
   some (.inr (0, yl2.2.2.2.2.2.2.2.2.2))) (
   cond ((decide (0 ≤ yl2.1)) && (decide (yl2.1 < ((List.length yl2.2.2.2.2.2.1) : Int)))) (
    cond ((decide (0 ≤ yl2.1)) && (decide (yl2.1 < ((List.length yl2.2.2.2.2.2.2.2.1) : Int)))) (
     let x3 := (List.getD yl2.2.2.2.2.2.2.2.1 (Int.toNat yl2.1) 0)
     let x4 := (List.getD yl2.2.2.2.2.2.1 (Int.toNat yl2.1) z54)
     cond ((decide (0 ≤ x3)) && (decide (x3 < ((List.length x4.f2) : Int)))) (
      let x2 := (List.getD x4.f2 (Int.toNat x3) z69)
      cond ((decide (0 ≤ x2.f0)) && (decide (x2.f0 < ((List.length yl2.2.2.2.2.2.2.1) : Int)))) (
       let x1 := (List.getD yl2.2.2.2.2.2.2.1 (Int.toNat x2.f0) z71)
       (F34.F ((x1.f0, (x1.f1, x1.f2)), ((x2.f0, (x2.f1, (x2.f2, x2.f3))), yl2.2.2.2.2.1))).bind fun y34 =>
       let x0 := (Go.IntKind.wrap (Go.IntKind.i64 ) (yl2.2.1 + x2.f1))
       cond y34 (
        (t26 (yl2.1, yl2.2.1, y34, (Go.IntKind.wrap (Go.IntKind.i64 ) (x0 + yl2.2.2.2.1)), yl2.2.2.1, yl2.2.2.2.1, yl2.2.2.2.2.1, x2.f0, x2.f1, x2.f2, x2.f3, yl2.2.2.2.2.2.1, yl2.2.2.2.2.2.2.1, yl2.2.2.2.2.2.2.2.1, yl2.2.2.2.2.2.2.2.2.1, yl2.2.2.2.2.2.2.2.2.2)).bind fun yt26 =>
        some (.inl (yt26.1, yt26.2.1, yt26.2.2.1, yt26.2.2.2.1, yt26.2.2.2.2.1, yt26.2.2.2.2.2.1, yt26.2.2.2.2.2.2.1, yt26.2.2.2.2.2.2.2))) (
        (t26 (yl2.1, yl2.2.1, y34, x0, yl2.2.2.1, yl2.2.2.2.1, yl2.2.2.2.2.1, x2.f0, x2.f1, x2.f2, x2.f3, yl2.2.2.2.2.2.1, yl2.2.2.2.2.2.2.1, yl2.2.2.2.2.2.2.2.1, yl2.2.2.2.2.2.2.2.2.1, yl2.2.2.2.2.2.2.2.2.2)).bind fun yt26 =>
        some (.inl (yt26.1, yt26.2.1, yt26.2.2.1, yt26.2.2.2.1, yt26.2.2.2.2.1, yt26.2.2.2.2.2.1, yt26.2.2.2.2.2.2.1, yt26.2.2.2.2.2.2.2)))) none) none) none) none)
noncomputable def l0 (x : Int × Int × Int × (List S54) × (List S71) × (List Int) × (List Int) × (List S56)) : Option ((Int × (List S56))) := lim l0.b x
theorem l0.eq : ∀ x, l0.b x = roundX (mkE tab es 170 [(2, some (loopO 2 (cutOf l2.A l2.c) (cutsOf l2.xs l2.y) l2))] [(26, some (tailO (cutOf t26.A t26.c) (cutsOf t26.xs t26.y) t26))]) (loopAt 0 code) (cutOf l0.A l0.c) (cutsOf l0.xs l0.y) x := fun x => by kernel_rfl
theorem l0.owed {R : Type} : owed (mkE (R := R) tab es 170 [(2, some (loopO 2 (cutOf l2.A l2.c) (cutsOf l2.xs l2.y) l2))] [(26, some (tailO (cutOf t26.A t26.c) (cutsOf t26.xs t26.y) t26))]) (loopAt 0 code) = [((.block 2 (.loop (loopAt 2 code))), (loopO (R := _) 2 (cutOf l2.A l2.c) (cutsOf l2.xs l2.y) l2)), ((tailAt 26 code), (tailO (R := _) (cutOf t26.A t26.c) (cutsOf t26.xs t26.y) t26))] := by kernel_rfl
theorem l0.ok (w0 : World) (M : Own) (h : Pinned M []) {R : Type} : SoundO prog w0 M 170 (.block 0 (.loop (loopAt 0 code))) (loopO (R := R) 0 (cutOf l0.A l0.c) (cutsOf l0.xs l0.y) l0) :=
  loop_ok tabOk uniOk mixed l0.eq (h.sub rfl) (h.sub rfl) fun x hx => by rw [l0.owed] at hx; rcases List.mem_cons.1 hx with rfl | hx; exact l2.ok w0 M h; rcases List.mem_cons.1 hx with rfl | hx; exact t26.ok w0 M h; exact absurd hx List.not_mem_nil

noncomputable def F : ((Int × Int × Int) × (List S54)) → Option (((List S56) × Int))
  | ((p0_0, p0_1, p0_2), p1) =>
  let x2 := ((List.length p1) : Int)
  cond (decide (x2 > 4096)) (
   some (([] : List S56), 2)) (
   (F32.F ((p0_0, (p0_1, p0_2)), p1)).bind fun y32 =>
   cond (!y32) (
    some (([] : List S56), 1)) (
    (F33.F p0_0).bind fun y33 =>
    let x0 := (((decide (0 ≤ x2)) && (decide (x2 ≤ x2))) && (decide (x2 ≤ 274877906944)))
    cond x0 (
     cond x0 (
      let x1 := (List.replicate (Int.toNat x2) 0)
      (l0 (p0_0, p0_1, p0_2, p1, y33, x1, x1, ([] : List S56))).bind fun yl0 =>
      some (yl0.2, yl0.1)) none) none))
theorem F.eq : ∀ x, F x = runF (mkE tab es 170 [(0, some (loopO 0 (cutOf l0.A l0.c) (cutsOf l0.xs l0.y) l0))] []) code [.agg [.sc, .sc, .sc], .row 2 0] [.row 3, .sc] [.tmp 4, .tmp 5] (Coz.dec cr) (cp.enc x) := fun x => by kernel_rfl
theorem F.owed : owed (mkE (R := ((List S56) × Int)) tab es 170 [(0, some (loopO 0 (cutOf l0.A l0.c) (cutsOf l0.xs l0.y) l0))] []) code = [((.block 0 (.loop (loopAt 0 code))), (loopO (R := _) 0 (cutOf l0.A l0.c) (cutsOf l0.xs l0.y) l0))] := by kernel_rfl
theorem con : ∀ x y, F x = some y → Con prog 16 [.agg [.sc, .sc, .sc], .row 2 0] [.row 3, .sc] (cp.enc x) (cr.enc y).1 (cr.enc y).2 :=
  func_ok (c := code) (n := 170) (pf := [.agg [.sc, .sc, .sc], .row 2 0]) (res := [.tmp 4, .tmp 5]) tabOk uniOk mixed get (by kernel_rfl) (by kernel_rfl) (by kernel_rfl) (by decide) F.eq fun w0 M h x hx => by rw [F.owed] at hx; rcases List.mem_cons.1 hx with rfl | hx; exact l0.ok w0 M h; exact absurd hx List.not_mem_nil
noncomputable def ent : Ent prog uni := Ent.of 16 [.agg [.sc, .sc, .sc], .row 2 0] [.row 3, .sc] cp cr F con fun args w => enters_of get (by kernel_rfl) rfl args w
end Go.Proofs.YtchohkelpjfpcaaDoor.AX.F16

/- The function 22 of the program in the small machine. No conditions. -/
namespace Go.Proofs.YtchohkelpjfpcaaDoor.AX.F22
open Go Go.Proofs.Tryd
noncomputable def code : Code := bodyOf f22
abbrev Y : Type := Bool
def cp : Cod uni ((List S56) × (List S56)) := (codC (iRow 3) (cod1 (iRow 3)))
def cr : Coz uni Bool := (cozR (cod1 iBool) (codD (codD cod0)))
noncomputable def es : List (Ent prog uni) := []
theorem get : prog.funcs[22]? = some f22 := by kernel_rfl

def l0.A : Ann := ⟨[(0, .slc 5000000 []), (1, .slc 5000064 []), (5, .sc)], [], [(5000000, false, 3), (5000064, false, 3)], []⟩
def l0.c : Cod uni (Int × (List S56) × (List S56)) := (codC (iInt .i64) (codC (iRow 3) (cod1 (iRow 3))))
def l0.xs : List (AExit × Ann) := [(.ret, ⟨[(4, .sc)], [], [], []⟩), ((.exit 0), ⟨[], [], [], []⟩)]
def l0.y : Coy uni (Bool ⊕ Unit) := (coyS (cod1 iBool) (coy1 cod0))
noncomputable def l0.b : Int × (List S56) × (List S56) → Option ((Int × (List S56) × (List S56)) ⊕ (Bool ⊕ Unit))
  | (v5, r0, r64) =>
  let x0 := (decide (v5 < ((List.length r0) : Int)))
  cond x0 (
   cond ((decide (0 ≤ v5)) && x0) (
    cond ((decide (0 ≤ v5)) && (decide (v5 < ((List.length r64) : Int)))) (
     let x1 := (List.getD r64 (Int.toNat v5) z56)
     let x2 := (List.getD r0 (Int.toNat v5) z56)
     cond (!((x2.f0 == x1.f0) && ((x2.f1 == x1.f1) && ((x2.f2 == x1.f2) && ((x2.f3 == x1.f3) && ((x2.f4 == x1.f4) && (x2.f5 == x1.f5))))))) (
      some (.inr (.inl false))) (
      some (.inl ((Go.IntKind.wrap (Go.IntKind.i64 ) (v5 + 1)), r0, r64)))) none) none) (
   some (.inr (.inr ())))
noncomputable def l0 (x : Int × (List S56) × (List S56)) : Option (Bool ⊕ Unit) := lim l0.b x
theorem l0.eq : ∀ x, l0.b x = roundX (mkE tab es 26 [] []) (loopAt 0 code) (cutOf l0.A l0.c) (cutsOf l0.xs l0.y) x := fun x => by kernel_rfl
theorem l0.owed {R : Type} : owed (mkE (R := R) tab es 26 [] []) (loopAt 0 code) = [] := by kernel_rfl
theorem l0.ok (w0 : World) (M : Own) (h : Pinned M []) {R : Type} : SoundO prog w0 M 26 (.block 0 (.loop (loopAt 0 code))) (loopO (R := R) 0 (cutOf l0.A l0.c) (cutsOf l0.xs l0.y) l0) :=
  loop_ok tabOk uniOk mixed l0.eq (h.sub rfl) (h.sub rfl) fun x hx => by rw [l0.owed] at hx; exact absurd hx List.not_mem_nil

noncomputable def F : ((List S56) × (List S56)) → Option (Bool)
  | (p0, p1) =>
  cond (((List.length p0) : Int) != ((List.length p1) : Int)) (
   some false) (
   (l0 (0, p0, p1)).bind fun q => match q with
   | (.inl yl0) =>
    some yl0
   | (.inr yl0) =>
    some true)
theorem F.eq : ∀ x, F x = runF (mkE tab es 26 [(0, some (loopO 0 (cutOf l0.A l0.c) (cutsOf l0.xs l0.y) l0))] []) code [.row 3 0, .row 3 0] [.sc] [.tmp 4] (Coz.dec cr) (cp.enc x) := fun x => by kernel_rfl
theorem F.owed : owed (mkE (R := Bool) tab es 26 [(0, some (loopO 0 (cutOf l0.A l0.c) (cutsOf l0.xs l0.y) l0))] []) code = [((.block 0 (.loop (loopAt 0 code))), (loopO (R := _) 0 (cutOf l0.A l0.c) (cutsOf l0.xs l0.y) l0))] := by kernel_rfl
theorem con : ∀ x y, F x = some y → Con prog 22 [.row 3 0, .row 3 0] [.sc] (cp.enc x) (cr.enc y).1 (cr.enc y).2 :=
  func_ok (c := code) (n := 26) (pf := [.row 3 0, .row 3 0]) (res := [.tmp 4]) tabOk uniOk mixed get (by kernel_rfl) (by kernel_rfl) (by kernel_rfl) (by decide) F.eq fun w0 M h x hx => by rw [F.owed] at hx; rcases List.mem_cons.1 hx with rfl | hx; exact l0.ok w0 M h; exact absurd hx List.not_mem_nil
noncomputable def ent : Ent prog uni := Ent.of 22 [.row 3 0, .row 3 0] [.sc] cp cr F con fun args w => enters_of get (by kernel_rfl) rfl args w
end Go.Proofs.YtchohkelpjfpcaaDoor.AX.F22

/- The function 13 of the program in the small machine. No conditions. -/
namespace Go.Proofs.YtchohkelpjfpcaaDoor.AX.F13
open Go Go.Proofs.Tryd
noncomputable def code : Code := bodyOf f13
abbrev Y : Type := (Int × Int)
def cp : Cod uni ((Int × Int × Int) × (List S54) × (List S56)) := (codC (iAgg (codC (iInt .i64) (codC (iInt .i64) (cod1 (iInt .i64))))) (codC (iRow 2) (cod1 (iRow 3))))
def cr : Coz uni (Int × Int) := (cozR (codC (iInt .i64) (cod1 (iInt .i64))) (codD (codD (codD cod0))))
noncomputable def es : List (Ent prog uni) := [F38.ent, F39.ent, F40.ent]
theorem get : prog.funcs[13]? = some f13 := by kernel_rfl

def t31.A : Ann := ⟨[(1, .slc 5000064 []), (2, .slc 5000128 []), (3, .box 5000192 0), (8, .mref 5000512), (9, .slc 5000576 []), (10, .sc), (11, .box 5000704 0), (12, .box 5000768 0), (17, .ptr 5000576 [] 0), (19, .sc), (39, .slc 5000128 []), (40, .sc), (41, .sc)], [(5000192, 30, [.sc, .sc, .sc]), (5000704, 57, [.sc, .sc, .sc, .sc, .sc, .sc]), (5000768, 82, [.sc, .sc])], [(5000064, false, 2), (5000128, false, 3), (5000512, true, 12), (5000576, true, 9)], []⟩
def t31.c : Cod uni (Int × Int × Int × Int × Int × Int × Int × Int × Int × Int × Int × Int × Int × Bool × Int × Int × (List S54) × (List S56) × (List S78) × (List S85)) := (codC (iInt .i64) (codC (iInt .i64) (codC (iInt .i64) (codC (iInt .i64) (codC (iInt .i64) (codC (iInt .i64) (codC (iInt .i64) (codC (iInt .i64) (codC (iInt .i64) (codC (iInt .i64) (codC (iInt .i64) (codC (iInt .i64) (codC (iInt .i64) (codC iBool (codC (iInt .i64) (codC (iInt .i64) (codC (iRow 2) (codC (iRow 3) (codC (iRow 12) (cod1 (iRow 9)))))))))))))))))))))
def t31.xs : List (AExit × Ann) := [(.ret, ⟨[(6, .sc), (7, .sc)], [], [], []⟩), (.normal, ⟨[(1, .slc 5000064 []), (2, .slc 5000128 []), (3, .box 5000192 0), (8, .mref 5000512), (9, .slc 5000576 []), (39, .slc 5000128 []), (40, .sc), (41, .sc)], [(5000192, 30, [.sc, .sc, .sc])], [(5000064, false, 2), (5000128, false, 3), (5000512, true, 12), (5000576, true, 9)], []⟩)]
def t31.y : Coy uni ((Int × Int) ⊕ (Int × Int × Int × Int × Int × (List S54) × (List S56) × (List S78) × (List S85))) := (coyS (codC (iInt .i64) (cod1 (iInt .i64))) (coy1 (codC (iInt .i64) (codC (iInt .i64) (codC (iInt .i64) (codC (iInt .i64) (codC (iInt .i64) (codC (iRow 2) (codC (iRow 3) (codC (iRow 12) (cod1 (iRow 9))))))))))))
noncomputable def t31 : Int × Int × Int × Int × Int × Int × Int × Int × Int × Int × Int × Int × Int × Bool × Int × Int × (List S54) × (List S56) × (List S78) × (List S85) → Option ((Int × Int) ⊕ (Int × Int × Int × Int × Int × (List S54) × (List S56) × (List S78) × (List S85)))
  | (v10, v17p, v19, v40, v41, b192_0, b192_1, b192_2, b704_0, b704_1, b704_2, b704_3, b704_4, b704_5, b768_0, b768_1, r64, r128, r512, r576) =>
  cond (b704_4 != v19) (
   some (.inl (19, v10))) (
   let x0 := (List.getD r576 (Int.toNat v17p) z85)
   some (.inr (v40, v41, b192_0, b192_1, b192_2, r64, r128, ((mput (U := uni) 12 (fun (e : Go.Proofs.YtchohkelpjfpcaaDoor.AX.S78) => ((b768_0 == e.f0) && (b768_1 == e.f1))) (⟨b768_0, b768_1, v19⟩ : S78) r512) : List Go.Proofs.YtchohkelpjfpcaaDoor.AX.S78), (List.set r576 (Int.toNat v17p) (⟨v19, x0.f1, x0.f2⟩ : S85)))))
theorem t31.eq : ∀ x, t31 x = tailX (mkE tab es 207 [] []) (tailAt 31 code) (cutOf t31.A t31.c) (cutsOf t31.xs t31.y) x := fun x => by kernel_rfl
theorem t31.owed {R : Type} : owed (mkE (R := R) tab es 207 [] []) (tailAt 31 code) = [] := by kernel_rfl
theorem t31.ok (w0 : World) (M : Own) (h : Pinned M []) {R : Type} : SoundO prog w0 M 207 (tailAt 31 code) (tailO (R := R) (cutOf t31.A t31.c) (cutsOf t31.xs t31.y) t31) :=
  tail_ok tabOk uniOk mixed t31.eq (h.sub rfl) (h.sub rfl) fun x hx => by rw [t31.owed] at hx; exact absurd hx List.not_mem_nil

def t22.A : Ann := ⟨[(1, .slc 5000064 []), (2, .slc 5000128 []), (3, .box 5000192 0), (8, .mref 5000512), (9, .slc 5000576 []), (10, .sc), (11, .box 5000704 0), (12, .box 5000768 0), (39, .slc 5000128 []), (40, .sc), (41, .sc)], [(5000192, 30, [.sc, .sc, .sc]), (5000704, 57, [.sc, .sc, .sc, .sc, .sc, .sc]), (5000768, 82, [.sc, .sc])], [(5000064, false, 2), (5000128, false, 3), (5000512, true, 12), (5000576, true, 9)], []⟩
def t22.c : Cod uni (Int × Int × Int × Int × Int × Int × Int × Int × Int × Int × Int × Bool × Int × Int × (List S54) × (List S56) × (List S78) × (List S85)) := (codC (iInt .i64) (codC (iInt .i64) (codC (iInt .i64) (codC (iInt .i64) (codC (iInt .i64) (codC (iInt .i64) (codC (iInt .i64) (codC (iInt .i64) (codC (iInt .i64) (codC (iInt .i64) (codC (iInt .i64) (codC iBool (codC (iInt .i64) (codC (iInt .i64) (codC (iRow 2) (codC (iRow 3) (codC (iRow 12) (cod1 (iRow 9)))))))))))))))))))
def t22.xs : List (AExit × Ann) := [(.ret, ⟨[(6, .sc), (7, .sc)], [], [], []⟩), (.normal, ⟨[(1, .slc 5000064 []), (2, .slc 5000128 []), (3, .box 5000192 0), (8, .mref 5000512), (9, .slc 5000576 []), (39, .slc 5000128 []), (40, .sc), (41, .sc)], [(5000192, 30, [.sc, .sc, .sc])], [(5000064, false, 2), (5000128, false, 3), (5000512, true, 12), (5000576, true, 9)], []⟩)]
def t22.y : Coy uni ((Int × Int) ⊕ (Int × Int × Int × Int × Int × (List S54) × (List S56) × (List S78) × (List S85))) := (coyS (codC (iInt .i64) (cod1 (iInt .i64))) (coy1 (codC (iInt .i64) (codC (iInt .i64) (codC (iInt .i64) (codC (iInt .i64) (codC (iInt .i64) (codC (iRow 2) (codC (iRow 3) (codC (iRow 12) (cod1 (iRow 9))))))))))))
noncomputable def t22 : Int × Int × Int × Int × Int × Int × Int × Int × Int × Int × Int × Bool × Int × Int × (List S54) × (List S56) × (List S78) × (List S85) → Option ((Int × Int) ⊕ (Int × Int × Int × Int × Int × (List S54) × (List S56) × (List S78) × (List S85)))
  | (v10, v40, v41, b192_0, b192_1, b192_2, b704_0, b704_1, b704_2, b704_3, b704_4, b704_5, b768_0, b768_1, r64, r128, r512, r576) =>
  cond ((decide (0 ≤ b704_2)) && (decide (b704_2 < ((List.length r576) : Int)))) (
   cond (decide (b704_3 < (List.getD r576 (Int.toNat b704_2) z85).f0)) (
    some (.inl (13, v10))) (
    cond ((decide (0 ≤ b704_0)) && (decide (b704_0 < ((List.length r64) : Int)))) (
     let x2 := (List.getD r64 (Int.toNat b704_0) z54)
     cond ((decide (0 ≤ b704_1)) && (decide (b704_1 < ((List.length x2.f2) : Int)))) (
      let x1 := (List.getD x2.f2 (Int.toNat b704_1) z69)
      (F40.F ((r576, b704_2), ((b192_0, (b192_1, b192_2)), (x1.f0, (x1.f1, (x1.f2, x1.f3)))))).bind fun y40 =>
      cond (!(y40.1 == b704_5)) (
       some (.inl (16, v10))) (
       let x0 := (Go.IntKind.wrap (Go.IntKind.i64 ) (b704_3 + x1.f1))
       cond b704_5 (
        (t31 (v10, b704_2, (Go.IntKind.wrap (Go.IntKind.i64 ) (x0 + b192_1)), v40, v41, b192_0, b192_1, b192_2, b704_0, b704_1, b704_2, b704_3, b704_4, b704_5, b768_0, b768_1, r64, r128, r512, y40.2.1)).bind fun q => match q with
        | (.inl yt31) =>
         some (.inl (yt31.1, yt31.2))
        | (.inr yt31) =>
         some (.inr (yt31.1, yt31.2.1, yt31.2.2.1, yt31.2.2.2.1, yt31.2.2.2.2.1, yt31.2.2.2.2.2.1, yt31.2.2.2.2.2.2.1, yt31.2.2.2.2.2.2.2.1, yt31.2.2.2.2.2.2.2.2))) (
        (t31 (v10, b704_2, x0, v40, v41, b192_0, b192_1, b192_2, b704_0, b704_1, b704_2, b704_3, b704_4, b704_5, b768_0, b768_1, r64, r128, r512, y40.2.1)).bind fun q => match q with
        | (.inl yt31) =>
         some (.inl (yt31.1, yt31.2))
        | (.inr yt31) =>
         some (.inr (yt31.1, yt31.2.1, yt31.2.2.1, yt31.2.2.2.1, yt31.2.2.2.2.1, yt31.2.2.2.2.2.1, yt31.2.2.2.2.2.2.1, yt31.2.2.2.2.2.2.2.1, yt31.2.2.2.2.2.2.2.2))))) none) none)) none
theorem t22.eq : ∀ x, t22 x = tailX (mkE tab es 207 [] [(31, some (tailO (cutOf t31.A t31.c) (cutsOf t31.xs t31.y) t31))]) (tailAt 22 code) (cutOf t22.A t22.c) (cutsOf t22.xs t22.y) x := fun x => by kernel_rfl
theorem t22.owed {R : Type} : owed (mkE (R := R) tab es 207 [] [(31, some (tailO (cutOf t31.A t31.c) (cutsOf t31.xs t31.y) t31))]) (tailAt 22 code) = [((tailAt 31 code), (tailO (R := _) (cutOf t31.A t31.c) (cutsOf t31.xs t31.y) t31))] := by kernel_rfl
theorem t22.ok (w0 : World) (M : Own) (h : Pinned M []) {R : Type} : SoundO prog w0 M 207 (tailAt 22 code) (tailO (R := R) (cutOf t22.A t22.c) (cutsOf t22.xs t22.y) t22) :=
  tail_ok tabOk uniOk mixed t22.eq (h.sub rfl) (h.sub rfl) fun x hx => by rw [t22.owed] at hx; rcases List.mem_cons.1 hx with rfl | hx; exact t31.ok w0 M h; exact absurd hx List.not_mem_nil

def l0.A : Ann := ⟨[(1, .slc 5000064 []), (2, .slc 5000128 []), (3, .box 5000192 0), (8, .mref 5000512), (9, .slc 5000576 []), (39, .slc 5000128 []), (40, .sc), (41, .sc)], [(5000192, 30, [.sc, .sc, .sc])], [(5000064, false, 2), (5000128, false, 3), (5000512, true, 12), (5000576, true, 9)], []⟩
def l0.c : Cod uni (Int × Int × Int × Int × Int × (List S54) × (List S56) × (List S78) × (List S85)) := (codC (iInt .i64) (codC (iInt .i64) (codC (iInt .i64) (codC (iInt .i64) (codC (iInt .i64) (codC (iRow 2) (codC (iRow 3) (codC (iRow 12) (cod1 (iRow 9))))))))))
def l0.xs : List (AExit × Ann) := [(.ret, ⟨[(6, .sc), (7, .sc)], [], [], []⟩), ((.exit 0), ⟨[(1, .slc 5000064 []), (2, .slc 5000128 []), (8, .mref 5000512)], [], [(5000064, false, 2), (5000128, false, 3), (5000512, true, 12)], []⟩)]
def l0.y : Coy uni ((Int × Int) ⊕ ((List S54) × (List S56) × (List S78))) := (coyS (codC (iInt .i64) (cod1 (iInt .i64))) (coy1 (codC (iRow 2) (codC (iRow 3) (cod1 (iRow 12))))))
noncomputable def l0.b : Int × Int × Int × Int × Int × (List S54) × (List S56) × (List S78) × (List S85) → Option ((Int × Int × Int × Int × Int × (List S54) × (List S56) × (List S78) × (List S85)) ⊕ ((Int × Int) ⊕ ((List S54) × (List S56) × (List S78))))
  | (v40, v41, b192_0, b192_1, b192_2, r64, r128, r512, r576) =>
  cond (decide (v41 < v40)) (
   cond ((decide (0 ≤ v41)) && (decide (v41 < ((List.length r128) : Int)))) (
    let x8 := (List.getD r128 (Int.toNat v41) z56)
    let x9 := ((List.length r64) : Int)
    let x3 := (((decide (x8.f0 < 0)) || (decide (x8.f0 ≥ x9))) || (decide (x8.f1 < 0)))
    let x4 := ((decide (0 ≤ x8.f0)) && (decide (x8.f0 < x9)))
    cond ((!(!x3)) || x4) (
     let x7 := (List.getD r64 (Int.toNat x8.f0) z54)
     let x5 := ((List.length x7.f2) : Int)
     let x2 := (x3 || (decide (x8.f1 ≥ x5)))
     let x1 := (!(!x2))
     cond (x1 || x4) (
      cond (x1 || ((decide (0 ≤ x8.f1)) && (decide (x8.f1 < x5)))) (
       cond (x2 || ((List.getD x7.f2 (Int.toNat x8.f1) z69).f0 != x8.f2)) (
        some (.inr (.inl (8, v41)))) (
        cond (mhas (U := uni) 12 (fun (e : Go.Proofs.YtchohkelpjfpcaaDoor.AX.S78) => ((x8.f0 == e.f0) && (x8.f1 == e.f1))) r512) (
         some (.inr (.inl (7, v41)))) (
         cond ((decide (x8.f3 < 0)) || (decide (x8.f3 > 1000000000))) (
          some (.inr (.inl (5, v41)))) (
          let x0 := (t22 (v41, v40, v41, b192_0, b192_1, b192_2, x8.f0, x8.f1, x8.f2, x8.f3, x8.f4, x8.f5, x8.f0, x8.f1, r64, r128, r512, r576))
          cond (decide (x8.f1 > 0)) (
           let x6 := (Go.IntKind.wrap (Go.IntKind.i64 ) (x8.f1 - 1))
           cond ((!(mhas (U := uni) 12 (fun (e : Go.Proofs.YtchohkelpjfpcaaDoor.AX.S78) => ((x8.f0 == e.f0) && (x6 == e.f1))) r512)) || (decide (x8.f3 < ((mfind (U := uni) 12 (fun (e : Go.Proofs.YtchohkelpjfpcaaDoor.AX.S78) => ((x8.f0 == e.f0) && (x6 == e.f1))) r512) : Go.Proofs.YtchohkelpjfpcaaDoor.AX.S78).f2))) (
            some (.inr (.inl (13, v41)))) (
            x0.bind fun q => match q with
            | (.inl yt22) =>
             some (.inr (.inl (yt22.1, yt22.2)))
            | (.inr yt22) =>
             some (.inl (yt22.1, (Go.IntKind.wrap (Go.IntKind.i64 ) (yt22.2.1 + 1)), yt22.2.2.1, yt22.2.2.2.1, yt22.2.2.2.2.1, yt22.2.2.2.2.2.1, yt22.2.2.2.2.2.2.1, yt22.2.2.2.2.2.2.2.1, yt22.2.2.2.2.2.2.2.2)))) (
           x0.bind fun q => match q with
           | (.inl yt22) =>
            some (.inr (.inl (yt22.1, yt22.2)))
           | (.inr yt22) =>
            some (.inl (yt22.1, (Go.IntKind.wrap (Go.IntKind.i64 ) (yt22.2.1 + 1)), yt22.2.2.1, yt22.2.2.2.1, yt22.2.2.2.2.1, yt22.2.2.2.2.2.1, yt22.2.2.2.2.2.2.1, yt22.2.2.2.2.2.2.2.1, yt22.2.2.2.2.2.2.2.2))))))) none) none) none) none) (
   some (.inr (.inr (r64, r128, r512))))
noncomputable def l0 (x : Int × Int × Int × Int × Int × (List S54) × (List S56) × (List S78) × (List S85)) : Option ((Int × Int) ⊕ ((List S54) × (List S56) × (List S78))) := lim l0.b x
theorem l0.eq : ∀ x, l0.b x = roundX (mkE tab es 207 [] [(22, some (tailO (cutOf t22.A t22.c) (cutsOf t22.xs t22.y) t22))]) (loopAt 0 code) (cutOf l0.A l0.c) (cutsOf l0.xs l0.y) x := fun x => by kernel_rfl
theorem l0.owed {R : Type} : owed (mkE (R := R) tab es 207 [] [(22, some (tailO (cutOf t22.A t22.c) (cutsOf t22.xs t22.y) t22))]) (loopAt 0 code) = [((tailAt 22 code), (tailO (R := _) (cutOf t22.A t22.c) (cutsOf t22.xs t22.y) t22))] := by kernel_rfl
theorem l0.ok (w0 : World) (M : Own) (h : Pinned M []) {R : Type} : SoundO prog w0 M 207 (.block 0 (.loop (loopAt 0 code))) (loopO (R := R) 0 (cutOf l0.A l0.c) (cutsOf l0.xs l0.y) l0) :=
  loop_ok tabOk uniOk mixed l0.eq (h.sub rfl) (h.sub rfl) fun x hx => by rw [l0.owed] at hx; rcases List.mem_cons.1 hx with rfl | hx; exact t22.ok w0 M h; exact absurd hx List.not_mem_nil

def l2.A : Ann := ⟨[(2, .slc 5000128 []), (8, .mref 5000512), (20, .sc), (189, .slc 5012096 []), (190, .sc), (191, .sc)], [], [(5000128, false, 3), (5000512, true, 12), (5012096, false, 2)], []⟩
def l2.c : Cod uni (Int × Int × Int × (List S56) × (List S78) × (List S54)) := (codC (iInt .i64) (codC (iInt .i64) (codC (iInt .i64) (codC (iRow 3) (codC (iRow 12) (cod1 (iRow 2)))))))
def l2.xs : List (AExit × Ann) := [((.exit 2), ⟨[(2, .slc 5000128 []), (8, .mref 5000512), (20, .sc)], [], [(5000128, false, 3), (5000512, true, 12)], []⟩)]
def l2.y : Coy uni ((Int × (List S56) × (List S78))) := (coy1 (codC (iInt .i64) (codC (iRow 3) (cod1 (iRow 12)))))
noncomputable def l2.b : Int × Int × Int × (List S56) × (List S78) × (List S54) → Option ((Int × Int × Int × (List S56) × (List S78) × (List S54)) ⊕ ((Int × (List S56) × (List S78))))
  | (v20, v190, v191, r128, r512, r12096) =>
  cond (decide (v191 < v190)) (
   cond ((decide (0 ≤ v191)) && (decide (v191 < ((List.length r12096) : Int)))) (
    some (.inl ((Go.IntKind.wrap (Go.IntKind.i64 ) (v20 + ((List.length (List.getD r12096 (Int.toNat v191) z54).f2) : Int))), v190, (Go.IntKind.wrap (Go.IntKind.i64 ) (v191 + 1)), r128, r512, r12096))) none) (
   some (.inr (v20, r128, r512)))
noncomputable def l2 (x : Int × Int × Int × (List S56) × (List S78) × (List S54)) : Option ((Int × (List S56) × (List S78))) := lim l2.b x
theorem l2.eq : ∀ x, l2.b x = roundX (mkE tab es 207 [] []) (loopAt 2 code) (cutOf l2.A l2.c) (cutsOf l2.xs l2.y) x := fun x => by kernel_rfl
theorem l2.owed {R : Type} : owed (mkE (R := R) tab es 207 [] []) (loopAt 2 code) = [] := by kernel_rfl
theorem l2.ok (w0 : World) (M : Own) (h : Pinned M []) {R : Type} : SoundO prog w0 M 207 (.block 2 (.loop (loopAt 2 code))) (loopO (R := R) 2 (cutOf l2.A l2.c) (cutsOf l2.xs l2.y) l2) :=
  loop_ok tabOk uniOk mixed l2.eq (h.sub rfl) (h.sub rfl) fun x hx => by rw [l2.owed] at hx; exact absurd hx List.not_mem_nil

noncomputable def F : ((Int × Int × Int) × (List S54) × (List S56)) → Option ((Int × Int))
  | ((p0_0, p0_1, p0_2), p1, p2) =>
  let x0 := ((List.length p2) : Int)
  cond ((decide (((List.length p1) : Int) > 4096)) || (decide (x0 > 4096))) (
   some (2, 0)) (
   (F38.F ((p0_0, (p0_1, p0_2)), p1)).bind fun y38 =>
   cond (!y38) (
    some (1, 0)) (
    (F39.F p0_0).bind fun y39 =>
    (l0 (x0, 0, p0_0, p0_1, p0_2, p1, p2, ([] : List S78), y39)).bind fun q => match q with
    | (.inl yl0) =>
     some (yl0.1, yl0.2)
    | (.inr yl0) =>
     (l2 (0, ((List.length yl0.1) : Int), 0, yl0.2.1, yl0.2.2, yl0.1)).bind fun yl2 =>
     cond (decide (((List.length yl2.2.2) : Int) < yl2.1)) (
      some (18, ((List.length yl2.2.1) : Int))) (
      some (0, 0))))
theorem F.eq : ∀ x, F x = runF (mkE tab es 207 [(0, some (loopO 0 (cutOf l0.A l0.c) (cutsOf l0.xs l0.y) l0)), (2, some (loopO 2 (cutOf l2.A l2.c) (cutsOf l2.xs l2.y) l2))] []) code [.agg [.sc, .sc, .sc], .row 2 0, .row 3 0] [.sc, .sc] [.tmp 6, .tmp 7] (Coz.dec cr) (cp.enc x) := fun x => by kernel_rfl
theorem F.owed : owed (mkE (R := (Int × Int)) tab es 207 [(0, some (loopO 0 (cutOf l0.A l0.c) (cutsOf l0.xs l0.y) l0)), (2, some (loopO 2 (cutOf l2.A l2.c) (cutsOf l2.xs l2.y) l2))] []) code = [((.block 0 (.loop (loopAt 0 code))), (loopO (R := _) 0 (cutOf l0.A l0.c) (cutsOf l0.xs l0.y) l0)), ((.block 2 (.loop (loopAt 2 code))), (loopO (R := _) 2 (cutOf l2.A l2.c) (cutsOf l2.xs l2.y) l2))] := by kernel_rfl
theorem con : ∀ x y, F x = some y → Con prog 13 [.agg [.sc, .sc, .sc], .row 2 0, .row 3 0] [.sc, .sc] (cp.enc x) (cr.enc y).1 (cr.enc y).2 :=
  func_ok (c := code) (n := 207) (pf := [.agg [.sc, .sc, .sc], .row 2 0, .row 3 0]) (res := [.tmp 6, .tmp 7]) tabOk uniOk mixed get (by kernel_rfl) (by kernel_rfl) (by kernel_rfl) (by decide) F.eq fun w0 M h x hx => by rw [F.owed] at hx; rcases List.mem_cons.1 hx with rfl | hx; exact l0.ok w0 M h; rcases List.mem_cons.1 hx with rfl | hx; exact l2.ok w0 M h; exact absurd hx List.not_mem_nil
noncomputable def ent : Ent prog uni := Ent.of 13 [.agg [.sc, .sc, .sc], .row 2 0, .row 3 0] [.sc, .sc] cp cr F con fun args w => enters_of get (by kernel_rfl) rfl args w
end Go.Proofs.YtchohkelpjfpcaaDoor.AX.F13

/- The function 23 of the program in the small machine. No conditions. -/
namespace Go.Proofs.YtchohkelpjfpcaaDoor.AX.F23
open Go Go.Proofs.Tryd
noncomputable def code : Code := bodyOf f23
abbrev Y : Type := ((Int × Int × Int × Int × (List Int)) × Int)
def cp : Cod uni ((Int × Int × Int) × (List S54) × (List S56)) := (codC (iAgg (codC (iInt .i64) (codC (iInt .i64) (cod1 (iInt .i64))))) (codC (iRow 2) (cod1 (iRow 3))))
def cr : Coz uni ((Int × Int × Int × Int × (List Int)) × Int) := (cozR (codC (iAgg (codC (iInt .i64) (codC (iInt .i64) (codC (iInt .i64) (codC (iInt .i64) (cod1 (iRow 5))))))) (cod1 (iInt .i64))) (codD (codD (codD cod0))))
noncomputable def es : List (Ent prog uni) := [F13.ent]
theorem get : prog.funcs[23]? = some f23 := by kernel_rfl

def l0.A : Ann := ⟨[(1, .slc 5000064 []), (3, .box 5000192 0), (6, .box 5000384 0), (10, .box 5000640 0), (11, .slc 5000704 []), (34, .slc 5002176 []), (35, .sc), (36, .sc)], [(5000192, 30, [.sc, .sc, .sc]), (5000384, 49, [.sc, .sc, .sc, .sc, .nil]), (5000640, 49, [.sc, .sc, .sc, .sc, .slc 5000654 []])], [(5000064, false, 2), (5000704, true, 5), (5002176, false, 3), (5000654, true, 5)], []⟩
def l0.c : Cod uni (Int × Int × Int × Int × Int × Int × Int × Int × Int × Int × Int × Int × Int × (List S54) × (List Int) × (List S56) × (List Int)) := (codC (iInt .i64) (codC (iInt .i64) (codC (iInt .i64) (codC (iInt .i64) (codC (iInt .i64) (codC (iInt .i64) (codC (iInt .i64) (codC (iInt .i64) (codC (iInt .i64) (codC (iInt .i64) (codC (iInt .i64) (codC (iInt .i64) (codC (iInt .i64) (codC (iRow 2) (codC (iRow 5) (codC (iRow 3) (cod1 (iRow 5))))))))))))))))))
def l0.xs : List (AExit × Ann) := [((.exit 0), ⟨[(1, .slc 5000064 []), (3, .box 5000192 0), (6, .box 5000384 0), (10, .box 5000640 0), (11, .slc 5000704 [])], [(5000192, 30, [.sc, .sc, .sc]), (5000384, 49, [.sc, .sc, .sc, .sc, .nil]), (5000640, 49, [.sc, .sc, .sc, .sc, .slc 5000654 []])], [(5000064, false, 2), (5000704, true, 5), (5000654, true, 5)], []⟩)]
def l0.y : Coy uni ((Int × Int × Int × Int × Int × Int × Int × Int × Int × Int × Int × (List S54) × (List Int) × (List Int))) := (coy1 (codC (iInt .i64) (codC (iInt .i64) (codC (iInt .i64) (codC (iInt .i64) (codC (iInt .i64) (codC (iInt .i64) (codC (iInt .i64) (codC (iInt .i64) (codC (iInt .i64) (codC (iInt .i64) (codC (iInt .i64) (codC (iRow 2) (codC (iRow 5) (cod1 (iRow 5))))))))))))))))
noncomputable def l0.b : Int × Int × Int × Int × Int × Int × Int × Int × Int × Int × Int × Int × Int × (List S54) × (List Int) × (List S56) × (List Int) → Option ((Int × Int × Int × Int × Int × Int × Int × Int × Int × Int × Int × Int × Int × (List S54) × (List Int) × (List S56) × (List Int)) ⊕ ((Int × Int × Int × Int × Int × Int × Int × Int × Int × Int × Int × (List S54) × (List Int) × (List Int))))
  | (v35, v36, b192_0, b192_1, b192_2, b384_0, b384_1, b384_2, b384_3, b640_0, b640_1, b640_2, b640_3, r64, r704, r2176, r654) =>
  cond (decide (v36 < v35)) (
   cond ((decide (0 ≤ v36)) && (decide (v36 < ((List.length r2176) : Int)))) (
    let x9 := (List.getD r2176 (Int.toNat v36) z56)
    let x2 := ((decide (0 ≤ x9.f0)) && (decide (x9.f0 < ((List.length r704) : Int))))
    cond x2 (
     cond x2 (
      let x3 := ((decide (0 ≤ x9.f2)) && (decide (x9.f2 < ((List.length r654) : Int))))
      cond x3 (
       cond x3 (
        let x6 := (Int.toNat x9.f0)
        let x5 := (List.getD r704 x6 0)
        let x0 := (List.set r704 x6 (if (x9.f4 > x5) then x9.f4 else x5))
        let x7 := (Int.toNat x9.f2)
        let x1 := (List.set r654 x7 (Go.IntKind.wrap (Go.IntKind.i64 ) ((List.getD r654 x7 0) + (Go.IntKind.wrap (Go.IntKind.i64 ) (x9.f4 - x9.f3)))))
        let x4 := (if (x9.f4 > b640_0) then x9.f4 else b640_0)
        let x8 := (Go.IntKind.wrap (Go.IntKind.i64 ) (v36 + 1))
        cond x9.f5 (
         some (.inl (v35, x8, b192_0, b192_1, b192_2, b384_0, b384_1, b384_2, b384_3, x4, b640_1, b640_2, (Go.IntKind.wrap (Go.IntKind.i64 ) (b640_3 + 1)), r64, x0, r2176, x1))) (
         some (.inl (v35, x8, b192_0, b192_1, b192_2, b384_0, b384_1, b384_2, b384_3, x4, b640_1, b640_2, b640_3, r64, x0, r2176, x1)))) none) none) none) none) none) (
   some (.inr (b192_0, b192_1, b192_2, b384_0, b384_1, b384_2, b384_3, b640_0, b640_1, b640_2, b640_3, r64, r704, r654)))
noncomputable def l0 (x : Int × Int × Int × Int × Int × Int × Int × Int × Int × Int × Int × Int × Int × (List S54) × (List Int) × (List S56) × (List Int)) : Option ((Int × Int × Int × Int × Int × Int × Int × Int × Int × Int × Int × (List S54) × (List Int) × (List Int))) := lim l0.b x
theorem l0.eq : ∀ x, l0.b x = roundX (mkE tab es 105 [] []) (loopAt 0 code) (cutOf l0.A l0.c) (cutsOf l0.xs l0.y) x := fun x => by kernel_rfl
theorem l0.owed {R : Type} : owed (mkE (R := R) tab es 105 [] []) (loopAt 0 code) = [] := by kernel_rfl
theorem l0.ok (w0 : World) (M : Own) (h : Pinned M []) {R : Type} : SoundO prog w0 M 105 (.block 0 (.loop (loopAt 0 code))) (loopO (R := R) 0 (cutOf l0.A l0.c) (cutsOf l0.xs l0.y) l0) :=
  loop_ok tabOk uniOk mixed l0.eq (h.sub rfl) (h.sub rfl) fun x hx => by rw [l0.owed] at hx; exact absurd hx List.not_mem_nil

def l2.A : Ann := ⟨[(6, .box 5000384 0), (10, .box 5000640 0), (11, .slc 5000704 []), (84, .slc 5005376 []), (85, .sc), (86, .sc)], [(5000384, 49, [.sc, .sc, .sc, .sc, .nil]), (5000640, 49, [.sc, .sc, .sc, .sc, .slc 5000654 []])], [(5000704, true, 5), (5005376, false, 2), (5000654, true, 5)], []⟩
def l2.c : Cod uni (Int × Int × Int × Int × Int × Int × Int × Int × Int × Int × (List Int) × (List S54) × (List Int)) := (codC (iInt .i64) (codC (iInt .i64) (codC (iInt .i64) (codC (iInt .i64) (codC (iInt .i64) (codC (iInt .i64) (codC (iInt .i64) (codC (iInt .i64) (codC (iInt .i64) (codC (iInt .i64) (codC (iRow 5) (codC (iRow 2) (cod1 (iRow 5))))))))))))))
def l2.xs : List (AExit × Ann) := [((.exit 2), ⟨[(6, .box 5000384 0), (10, .box 5000640 0)], [(5000384, 49, [.sc, .sc, .sc, .sc, .nil]), (5000640, 49, [.sc, .sc, .sc, .sc, .slc 5000654 []])], [(5000654, true, 5)], []⟩)]
def l2.y : Coy uni ((Int × Int × Int × Int × Int × Int × Int × Int × (List Int))) := (coy1 (codC (iInt .i64) (codC (iInt .i64) (codC (iInt .i64) (codC (iInt .i64) (codC (iInt .i64) (codC (iInt .i64) (codC (iInt .i64) (codC (iInt .i64) (cod1 (iRow 5)))))))))))
noncomputable def l2.b : Int × Int × Int × Int × Int × Int × Int × Int × Int × Int × (List Int) × (List S54) × (List Int) → Option ((Int × Int × Int × Int × Int × Int × Int × Int × Int × Int × (List Int) × (List S54) × (List Int)) ⊕ ((Int × Int × Int × Int × Int × Int × Int × Int × (List Int))))
  | (v85, v86, b384_0, b384_1, b384_2, b384_3, b640_0, b640_1, b640_2, b640_3, r704, r5376, r654) =>
  cond (decide (v86 < v85)) (
   cond ((decide (0 ≤ v86)) && (decide (v86 < ((List.length r5376) : Int)))) (
    cond ((decide (0 ≤ v86)) && (decide (v86 < ((List.length r704) : Int)))) (
     let x0 := (Go.IntKind.wrap (Go.IntKind.i64 ) ((List.getD r704 (Int.toNat v86) 0) - (List.getD r5376 (Int.toNat v86) z54).f1))
     some (.inl (v85, (Go.IntKind.wrap (Go.IntKind.i64 ) (v86 + 1)), b384_0, b384_1, b384_2, b384_3, b640_0, (Go.IntKind.wrap (Go.IntKind.i64 ) (b640_1 + (if (x0 > 0) then x0 else 0))), b640_2, b640_3, r704, r5376, r654))) none) none) (
   some (.inr (b384_0, b384_1, b384_2, b384_3, b640_0, b640_1, b640_2, b640_3, r654)))
noncomputable def l2 (x : Int × Int × Int × Int × Int × Int × Int × Int × Int × Int × (List Int) × (List S54) × (List Int)) : Option ((Int × Int × Int × Int × Int × Int × Int × Int × (List Int))) := lim l2.b x
theorem l2.eq : ∀ x, l2.b x = roundX (mkE tab es 105 [] []) (loopAt 2 code) (cutOf l2.A l2.c) (cutsOf l2.xs l2.y) x := fun x => by kernel_rfl
theorem l2.owed {R : Type} : owed (mkE (R := R) tab es 105 [] []) (loopAt 2 code) = [] := by kernel_rfl
theorem l2.ok (w0 : World) (M : Own) (h : Pinned M []) {R : Type} : SoundO prog w0 M 105 (.block 2 (.loop (loopAt 2 code))) (loopO (R := R) 2 (cutOf l2.A l2.c) (cutsOf l2.xs l2.y) l2) :=
  loop_ok tabOk uniOk mixed l2.eq (h.sub rfl) (h.sub rfl) fun x hx => by rw [l2.owed] at hx; exact absurd hx List.not_mem_nil

noncomputable def F : ((Int × Int × Int) × (List S54) × (List S56)) → Option (((Int × Int × Int × Int × (List Int)) × Int))
  | ((p0_0, p0_1, p0_2), p1, p2) =>
  (F13.F ((p0_0, (p0_1, p0_2)), (p1, p2))).bind fun y13 =>
  cond (y13.1 != 0) (
   some ((0, (0, (0, (0, ([] : List Int))))), y13.1)) (
   cond (((decide (0 ≤ p0_0)) && (decide (p0_0 ≤ p0_0))) && (decide (p0_0 ≤ 274877906944))) (
    let x0 := ((List.length p1) : Int)
    cond (((decide (0 ≤ x0)) && (decide (x0 ≤ x0))) && (decide (x0 ≤ 274877906944))) (
     (l0 (((List.length p2) : Int), 0, p0_0, p0_1, p0_2, 0, 0, 0, 0, 0, 0, 0, 0, p1, (List.replicate (Int.toNat x0) 0), p2, (List.replicate (Int.toNat p0_0) 0))).bind fun yl0 =>
     (l2 (((List.length yl0.2.2.2.2.2.2.2.2.2.2.2.1) : Int), 0, yl0.2.2.2.1, yl0.2.2.2.2.1, yl0.2.2.2.2.2.1, yl0.2.2.2.2.2.2.1, yl0.2.2.2.2.2.2.2.1, yl0.2.2.2.2.2.2.2.2.1, (Go.IntKind.wrap (Go.IntKind.i64 ) (yl0.2.2.2.2.2.2.2.2.2.2.1 * yl0.2.1)), yl0.2.2.2.2.2.2.2.2.2.2.1, yl0.2.2.2.2.2.2.2.2.2.2.2.2.1, yl0.2.2.2.2.2.2.2.2.2.2.2.1, yl0.2.2.2.2.2.2.2.2.2.2.2.2.2)).bind fun yl2 =>
     some ((yl2.2.2.2.2.1, (yl2.2.2.2.2.2.1, (yl2.2.2.2.2.2.2.1, (yl2.2.2.2.2.2.2.2.1, yl2.2.2.2.2.2.2.2.2)))), 0)) none) none)
theorem F.eq : ∀ x, F x = runF (mkE tab es 105 [(0, some (loopO 0 (cutOf l0.A l0.c) (cutsOf l0.xs l0.y) l0)), (2, some (loopO 2 (cutOf l2.A l2.c) (cutsOf l2.xs l2.y) l2))] []) code [.agg [.sc, .sc, .sc], .row 2 0, .row 3 0] [.agg [.sc, .sc, .sc, .sc, .row 5], .sc] [.cell 6 49, .tmp 7] (Coz.dec cr) (cp.enc x) := fun x => by kernel_rfl
theorem F.owed : owed (mkE (R := ((Int × Int × Int × Int × (List Int)) × Int)) tab es 105 [(0, some (loopO 0 (cutOf l0.A l0.c) (cutsOf l0.xs l0.y) l0)), (2, some (loopO 2 (cutOf l2.A l2.c) (cutsOf l2.xs l2.y) l2))] []) code = [((.block 0 (.loop (loopAt 0 code))), (loopO (R := _) 0 (cutOf l0.A l0.c) (cutsOf l0.xs l0.y) l0)), ((.block 2 (.loop (loopAt 2 code))), (loopO (R := _) 2 (cutOf l2.A l2.c) (cutsOf l2.xs l2.y) l2))] := by kernel_rfl
theorem con : ∀ x y, F x = some y → Con prog 23 [.agg [.sc, .sc, .sc], .row 2 0, .row 3 0] [.agg [.sc, .sc, .sc, .sc, .row 5], .sc] (cp.enc x) (cr.enc y).1 (cr.enc y).2 :=
  func_ok (c := code) (n := 105) (pf := [.agg [.sc, .sc, .sc], .row 2 0, .row 3 0]) (res := [.cell 6 49, .tmp 7]) tabOk uniOk mixed get (by kernel_rfl) (by kernel_rfl) (by kernel_rfl) (by decide) F.eq fun w0 M h x hx => by rw [F.owed] at hx; rcases List.mem_cons.1 hx with rfl | hx; exact l0.ok w0 M h; rcases List.mem_cons.1 hx with rfl | hx; exact l2.ok w0 M h; exact absurd hx List.not_mem_nil
noncomputable def ent : Ent prog uni := Ent.of 23 [.agg [.sc, .sc, .sc], .row 2 0, .row 3 0] [.agg [.sc, .sc, .sc, .sc, .row 5], .sc] cp cr F con fun args w => enters_of get (by kernel_rfl) rfl args w
end Go.Proofs.YtchohkelpjfpcaaDoor.AX.F23

/- The function 24 of the program in the small machine. No conditions. -/
namespace Go.Proofs.YtchohkelpjfpcaaDoor.AX.F24
open Go Go.Proofs.Tryd
noncomputable def code : Code := bodyOf f24
abbrev Y : Type := (Int × Int)
def cp : Cod uni ((Int × Int × Int) × (List S54)) := (codC (iAgg (codC (iInt .i64) (codC (iInt .i64) (cod1 (iInt .i64))))) (cod1 (iRow 2)))
def cr : Coz uni (Int × Int) := (cozR (codC (iInt .i64) (cod1 (iInt .i64))) (codD (codD cod0)))
noncomputable def es : List (Ent prog uni) := [F38.ent]
theorem get : prog.funcs[24]? = some f24 := by kernel_rfl

def l2.A : Ann := ⟨[(2, .box 5000128 0), (6, .sc), (7, .slc 5000448 []), (8, .mref 5000512), (11, .sc), (28, .slc 5001792 []), (29, .sc), (30, .sc), (35, .slc 5001792 [2]), (36, .sc), (37, .sc)], [(5000128, 30, [.sc, .sc, .sc])], [(5000448, true, 5), (5000512, true, 13), (5001792, false, 2)], []⟩
def l2.c : Cod uni (Int × Int × Int × Int × Int × Int × Int × Int × Int × Int × (List Int) × (List S95) × (List S54)) := (codC (iInt .i64) (codC (iInt .i64) (codC (iInt .i64) (codC (iInt .i64) (codC (iInt .i64) (codC (iInt .i64) (codC (iInt .i64) (codC (iInt .i64) (codC (iInt .i64) (codC (iInt .i64) (codC (iRow 5) (codC (iRow 13) (cod1 (iRow 2))))))))))))))
def l2.xs : List (AExit × Ann) := [((.exit 2), ⟨[(2, .box 5000128 0), (6, .sc), (7, .slc 5000448 []), (8, .mref 5000512), (11, .sc), (28, .slc 5001792 []), (29, .sc), (30, .sc)], [(5000128, 30, [.sc, .sc, .sc])], [(5000448, true, 5), (5000512, true, 13), (5001792, false, 2)], []⟩)]
def l2.y : Coy uni ((Int × Int × Int × Int × Int × Int × Int × (List Int) × (List S95) × (List S54))) := (coy1 (codC (iInt .i64) (codC (iInt .i64) (codC (iInt .i64) (codC (iInt .i64) (codC (iInt .i64) (codC (iInt .i64) (codC (iInt .i64) (codC (iRow 5) (codC (iRow 13) (cod1 (iRow 2))))))))))))
noncomputable def l2.b : Int × Int × Int × Int × Int × Int × Int × Int × Int × Int × (List Int) × (List S95) × (List S54) → Option ((Int × Int × Int × Int × Int × Int × Int × Int × Int × Int × (List Int) × (List S95) × (List S54)) ⊕ ((Int × Int × Int × Int × Int × Int × Int × (List Int) × (List S95) × (List S54))))
  | (v6, v11, v29, v30, v35i0, v36, v37, b128_0, b128_1, b128_2, r448, r512, r1792) =>
  cond (decide (v37 < v36)) (
   let x8 := (List.getD r1792 (Int.toNat v35i0) z54)
   cond ((decide (0 ≤ v37)) && (decide (v37 < ((List.length x8.f2) : Int)))) (
    let x6 := (List.getD x8.f2 (Int.toNat v37) z69)
    let x4 := (decide (0 ≤ x6.f0))
    let x2 := (x4 && (decide (x6.f0 < ((List.length r448) : Int))))
    cond x2 (
     cond x2 (
      let x5 := (Int.toNat x6.f0)
      let x1 := (List.set r448 x5 (Go.IntKind.wrap (Go.IntKind.i64 ) ((List.getD r448 x5 0) + x6.f1)))
      let x3 := (Go.IntKind.wrap (Go.IntKind.i64 ) (v11 + x6.f1))
      let x7 := (Go.IntKind.wrap (Go.IntKind.i64 ) (v37 + 1))
      cond (!((mfind (U := uni) 13 (fun (e : Go.Proofs.YtchohkelpjfpcaaDoor.AX.S95) => ((x6.f0 == e.f0) && (x6.f2 == e.f1))) r512) : Go.Proofs.YtchohkelpjfpcaaDoor.AX.S95).f2) (
       let x0 := (x4 && (decide (x6.f0 < ((List.length x1) : Int))))
       cond x0 (
        cond x0 (
         some (.inl (v6, x3, v29, v30, v35i0, v36, x7, b128_0, b128_1, b128_2, (List.set x1 x5 (Go.IntKind.wrap (Go.IntKind.i64 ) ((List.getD x1 x5 0) + b128_1))), ((mput (U := uni) 13 (fun (e : Go.Proofs.YtchohkelpjfpcaaDoor.AX.S95) => ((x6.f0 == e.f0) && (x6.f2 == e.f1))) (⟨x6.f0, x6.f2, true⟩ : S95) r512) : List Go.Proofs.YtchohkelpjfpcaaDoor.AX.S95), r1792))) none) none) (
       some (.inl (v6, x3, v29, v30, v35i0, v36, x7, b128_0, b128_1, b128_2, x1, r512, r1792)))) none) none) none) (
   some (.inr (v6, v11, v29, v30, b128_0, b128_1, b128_2, r448, r512, r1792)))
noncomputable def l2 (x : Int × Int × Int × Int × Int × Int × Int × Int × Int × Int × (List Int) × (List S95) × (List S54)) : Option ((Int × Int × Int × Int × Int × Int × Int × (List Int) × (List S95) × (List S54))) := lim l2.b x
theorem l2.eq : ∀ x, l2.b x = roundX (mkE tab es 90 [] []) (loopAt 2 code) (cutOf l2.A l2.c) (cutsOf l2.xs l2.y) x := fun x => by kernel_rfl
theorem l2.owed {R : Type} : owed (mkE (R := R) tab es 90 [] []) (loopAt 2 code) = [] := by kernel_rfl
theorem l2.ok (w0 : World) (M : Own) (h : Pinned M []) {R : Type} : SoundO prog w0 M 90 (.block 2 (.loop (loopAt 2 code))) (loopO (R := R) 2 (cutOf l2.A l2.c) (cutsOf l2.xs l2.y) l2) :=
  loop_ok tabOk uniOk mixed l2.eq (h.sub rfl) (h.sub rfl) fun x hx => by rw [l2.owed] at hx; exact absurd hx List.not_mem_nil

def l0.A : Ann := ⟨[(2, .box 5000128 0), (6, .sc), (7, .slc 5000448 []), (8, .mref 5000512), (28, .slc 5001792 []), (29, .sc), (30, .sc)], [(5000128, 30, [.sc, .sc, .sc])], [(5000448, true, 5), (5000512, true, 13), (5001792, false, 2)], []⟩
def l0.c : Cod uni (Int × Int × Int × Int × Int × Int × (List Int) × (List S95) × (List S54)) := (codC (iInt .i64) (codC (iInt .i64) (codC (iInt .i64) (codC (iInt .i64) (codC (iInt .i64) (codC (iInt .i64) (codC (iRow 5) (codC (iRow 13) (cod1 (iRow 2))))))))))
def l0.xs : List (AExit × Ann) := [((.exit 0), ⟨[(6, .sc), (7, .slc 5000448 [])], [], [(5000448, true, 5)], []⟩)]
def l0.y : Coy uni ((Int × (List Int))) := (coy1 (codC (iInt .i64) (cod1 (iRow 5))))
noncomputable def l0.b : Int × Int × Int × Int × Int × Int × (List Int) × (List S95) × (List S54) → Option ((Int × Int × Int × Int × Int × Int × (List Int) × (List S95) × (List S54)) ⊕ ((Int × (List Int))))
  | (v6, v29, v30, b128_0, b128_1, b128_2, r448, r512, r1792) =>
  cond (decide (v30 < v29)) (
   cond ((decide (0 ≤ v30)) && (decide (v30 < ((List.length r1792) : Int)))) (
    (l2 (v6, 0, v29, v30, v30, ((List.length (List.getD r1792 (Int.toNat v30) z54).f2) : Int), 0, b128_0, b128_1, b128_2, r448, r512, r1792)).bind fun yl2 =>
    some (.inl ((if (yl2.2.1 > yl2.1) then yl2.2.1 else yl2.1), yl2.2.2.1, (Go.IntKind.wrap (Go.IntKind.i64 ) (yl2.2.2.2.1 + 1)), yl2.2.2.2.2.1, yl2.2.2.2.2.2.1, yl2.2.2.2.2.2.2.1, yl2.2.2.2.2.2.2.2.1, yl2.2.2.2.2.2.2.2.2.1, yl2.2.2.2.2.2.2.2.2.2))) none) (
   some (.inr (v6, r448)))
noncomputable def l0 (x : Int × Int × Int × Int × Int × Int × (List Int) × (List S95) × (List S54)) : Option ((Int × (List Int))) := lim l0.b x
theorem l0.eq : ∀ x, l0.b x = roundX (mkE tab es 90 [(2, some (loopO 2 (cutOf l2.A l2.c) (cutsOf l2.xs l2.y) l2))] []) (loopAt 0 code) (cutOf l0.A l0.c) (cutsOf l0.xs l0.y) x := fun x => by kernel_rfl
theorem l0.owed {R : Type} : owed (mkE (R := R) tab es 90 [(2, some (loopO 2 (cutOf l2.A l2.c) (cutsOf l2.xs l2.y) l2))] []) (loopAt 0 code) = [((.block 2 (.loop (loopAt 2 code))), (loopO (R := _) 2 (cutOf l2.A l2.c) (cutsOf l2.xs l2.y) l2))] := by kernel_rfl
theorem l0.ok (w0 : World) (M : Own) (h : Pinned M []) {R : Type} : SoundO prog w0 M 90 (.block 0 (.loop (loopAt 0 code))) (loopO (R := R) 0 (cutOf l0.A l0.c) (cutsOf l0.xs l0.y) l0) :=
  loop_ok tabOk uniOk mixed l0.eq (h.sub rfl) (h.sub rfl) fun x hx => by rw [l0.owed] at hx; rcases List.mem_cons.1 hx with rfl | hx; exact l2.ok w0 M h; exact absurd hx List.not_mem_nil

def l4.A : Ann := ⟨[(6, .sc), (79, .slc 5005056 []), (80, .sc), (81, .sc)], [], [(5005056, true, 5)], []⟩
def l4.c : Cod uni (Int × Int × Int × (List Int)) := (codC (iInt .i64) (codC (iInt .i64) (codC (iInt .i64) (cod1 (iRow 5)))))
def l4.xs : List (AExit × Ann) := [((.exit 4), ⟨[(6, .sc)], [], [], []⟩)]
def l4.y : Coy uni (Int) := (coy1 (cod1 (iInt .i64)))
noncomputable def l4.b : Int × Int × Int × (List Int) → Option ((Int × Int × Int × (List Int)) ⊕ (Int))
  | (v6, v80, v81, r5056) =>
  cond (decide (v81 < v80)) (
   cond ((decide (0 ≤ v81)) && (decide (v81 < ((List.length r5056) : Int)))) (
    let x0 := (List.getD r5056 (Int.toNat v81) 0)
    some (.inl ((if (x0 > v6) then x0 else v6), v80, (Go.IntKind.wrap (Go.IntKind.i64 ) (v81 + 1)), r5056))) none) (
   some (.inr v6))
noncomputable def l4 (x : Int × Int × Int × (List Int)) : Option (Int) := lim l4.b x
theorem l4.eq : ∀ x, l4.b x = roundX (mkE tab es 90 [] []) (loopAt 4 code) (cutOf l4.A l4.c) (cutsOf l4.xs l4.y) x := fun x => by kernel_rfl
theorem l4.owed {R : Type} : owed (mkE (R := R) tab es 90 [] []) (loopAt 4 code) = [] := by kernel_rfl
theorem l4.ok (w0 : World) (M : Own) (h : Pinned M []) {R : Type} : SoundO prog w0 M 90 (.block 4 (.loop (loopAt 4 code))) (loopO (R := R) 4 (cutOf l4.A l4.c) (cutsOf l4.xs l4.y) l4) :=
  loop_ok tabOk uniOk mixed l4.eq (h.sub rfl) (h.sub rfl) fun x hx => by rw [l4.owed] at hx; exact absurd hx List.not_mem_nil

noncomputable def F : ((Int × Int × Int) × (List S54)) → Option ((Int × Int))
  | ((p0_0, p0_1, p0_2), p1) =>
  let x0 := ((List.length p1) : Int)
  cond (decide (x0 > 4096)) (
   some (0, 2)) (
   (F38.F ((p0_0, (p0_1, p0_2)), p1)).bind fun y38 =>
   cond (!y38) (
    some (0, 1)) (
    cond (((decide (0 ≤ p0_0)) && (decide (p0_0 ≤ p0_0))) && (decide (p0_0 ≤ 274877906944))) (
     (l0 (0, x0, 0, p0_0, p0_1, p0_2, (List.replicate (Int.toNat p0_0) 0), ([] : List S95), p1)).bind fun yl0 =>
     (l4 (yl0.1, ((List.length yl0.2) : Int), 0, yl0.2)).bind fun yl4 =>
     some (yl4, 0)) none))
theorem F.eq : ∀ x, F x = runF (mkE tab es 90 [(0, some (loopO 0 (cutOf l0.A l0.c) (cutsOf l0.xs l0.y) l0)), (4, some (loopO 4 (cutOf l4.A l4.c) (cutsOf l4.xs l4.y) l4))] []) code [.agg [.sc, .sc, .sc], .row 2 0] [.sc, .sc] [.tmp 4, .tmp 5] (Coz.dec cr) (cp.enc x) := fun x => by kernel_rfl
theorem F.owed : owed (mkE (R := (Int × Int)) tab es 90 [(0, some (loopO 0 (cutOf l0.A l0.c) (cutsOf l0.xs l0.y) l0)), (4, some (loopO 4 (cutOf l4.A l4.c) (cutsOf l4.xs l4.y) l4))] []) code = [((.block 0 (.loop (loopAt 0 code))), (loopO (R := _) 0 (cutOf l0.A l0.c) (cutsOf l0.xs l0.y) l0)), ((.block 4 (.loop (loopAt 4 code))), (loopO (R := _) 4 (cutOf l4.A l4.c) (cutsOf l4.xs l4.y) l4))] := by kernel_rfl
theorem con : ∀ x y, F x = some y → Con prog 24 [.agg [.sc, .sc, .sc], .row 2 0] [.sc, .sc] (cp.enc x) (cr.enc y).1 (cr.enc y).2 :=
  func_ok (c := code) (n := 90) (pf := [.agg [.sc, .sc, .sc], .row 2 0]) (res := [.tmp 4, .tmp 5]) tabOk uniOk mixed get (by kernel_rfl) (by kernel_rfl) (by kernel_rfl) (by decide) F.eq fun w0 M h x hx => by rw [F.owed] at hx; rcases List.mem_cons.1 hx with rfl | hx; exact l0.ok w0 M h; rcases List.mem_cons.1 hx with rfl | hx; exact l4.ok w0 M h; exact absurd hx List.not_mem_nil
noncomputable def ent : Ent prog uni := Ent.of 24 [.agg [.sc, .sc, .sc], .row 2 0] [.sc, .sc] cp cr F con fun args w => enters_of get (by kernel_rfl) rfl args w
end Go.Proofs.YtchohkelpjfpcaaDoor.AX.F24

/- The function 25 of the program in the small machine. No conditions. -/
namespace Go.Proofs.YtchohkelpjfpcaaDoor.AX.F25
open Go Go.Proofs.Tryd
noncomputable def code : Code := bodyOf f25
abbrev Y : Type := (Int × Int)
def cp : Cod uni ((Int × Int × Int) × (List S54)) := (codC (iAgg (codC (iInt .i64) (codC (iInt .i64) (cod1 (iInt .i64))))) (cod1 (iRow 2)))
def cr : Coz uni (Int × Int) := (cozR (codC (iInt .i64) (cod1 (iInt .i64))) (codD (codD cod0)))
noncomputable def es : List (Ent prog uni) := [F32.ent]
theorem get : prog.funcs[25]? = some f25 := by kernel_rfl

def l2.A : Ann := ⟨[(1, .slc 5000064 []), (2, .box 5000128 0), (6, .sc), (7, .slc 5000448 []), (8, .slc 5000512 []), (9, .sc), (10, .sc), (11, .sc)], [(5000128, 30, [.sc, .sc, .sc])], [(5000064, false, 2), (5000448, true, 5), (5000512, true, 10)], []⟩
def l2.c : Cod uni (Int × Int × Int × Int × Int × Int × Int × (List S54) × (List Int) × (List Bool)) := (codC (iInt .i64) (codC (iInt .i64) (codC (iInt .i64) (codC (iInt .i64) (codC (iInt .i64) (codC (iInt .i64) (codC (iInt .i64) (codC (iRow 2) (codC (iRow 5) (cod1 (iRow 10)))))))))))
def l2.xs : List (AExit × Ann) := [((.exit 2), ⟨[(1, .slc 5000064 []), (2, .box 5000128 0), (6, .sc), (7, .slc 5000448 []), (8, .slc 5000512 []), (9, .sc), (10, .sc)], [(5000128, 30, [.sc, .sc, .sc])], [(5000064, false, 2), (5000448, true, 5), (5000512, true, 10)], []⟩)]
def l2.y : Coy uni ((Int × Int × Int × Int × Int × Int × (List S54) × (List Int) × (List Bool))) := (coy1 (codC (iInt .i64) (codC (iInt .i64) (codC (iInt .i64) (codC (iInt .i64) (codC (iInt .i64) (codC (iInt .i64) (codC (iRow 2) (codC (iRow 5) (cod1 (iRow 10)))))))))))
noncomputable def l2.b : Int × Int × Int × Int × Int × Int × Int × (List S54) × (List Int) × (List Bool) → Option ((Int × Int × Int × Int × Int × Int × Int × (List S54) × (List Int) × (List Bool)) ⊕ ((Int × Int × Int × Int × Int × Int × (List S54) × (List Int) × (List Bool))))
  | (v6, v9, v10, v11, b128_0, b128_1, b128_2, r64, r448, r512) =>
  let x11 := ((decide (0 ≤ v9)) && (decide (v9 < ((List.length r64) : Int))))
  cond x11 (
   let x13 := (List.getD r64 (Int.toNat v9) z54)
   let x9 := (decide (v11 < ((List.length x13.f2) : Int)))
   cond x9 (
    cond x11 (
     cond ((decide (0 ≤ v11)) && x9) (
      let x10 := (List.getD x13.f2 (Int.toNat v11) z69)
      let x7 := (decide (0 ≤ x10.f0))
      let x5 := (x7 && (decide (x10.f0 < ((List.length r448) : Int))))
      cond x5 (
       cond x5 (
        let x4 := (Go.IntKind.wrap (Go.IntKind.i64 ) ((Go.IntKind.wrap (Go.IntKind.i64 ) (10 * x10.f0)) + x10.f2))
        let x1 := ((decide (0 ≤ x4)) && (decide (x4 < ((List.length r512) : Int))))
        cond x1 (
         let x8 := (Int.toNat x10.f0)
         let x2 := (List.set r448 x8 (Go.IntKind.wrap (Go.IntKind.i64 ) ((List.getD r448 x8 0) + x10.f1)))
         let x3 := (Int.toNat x4)
         let x6 := (Go.IntKind.wrap (Go.IntKind.i64 ) (v10 + x10.f1))
         let x12 := (Go.IntKind.wrap (Go.IntKind.i64 ) (v11 + 1))
         cond (!(List.getD r512 x3 false)) (
          cond x1 (
           let x0 := (x7 && (decide (x10.f0 < ((List.length x2) : Int))))
           cond x0 (
            cond x0 (
             some (.inl (v6, v9, x6, x12, b128_0, b128_1, b128_2, r64, (List.set x2 x8 (Go.IntKind.wrap (Go.IntKind.i64 ) ((List.getD x2 x8 0) + b128_1))), (List.set r512 x3 true)))) none) none) none) (
          some (.inl (v6, v9, x6, x12, b128_0, b128_1, b128_2, r64, x2, r512)))) none) none) none) none) none) (
    some (.inr (v6, v9, v10, b128_0, b128_1, b128_2, r64, r448, r512)))) none
noncomputable def l2 (x : Int × Int × Int × Int × Int × Int × Int × (List S54) × (List Int) × (List Bool)) : Option ((Int × Int × Int × Int × Int × Int × (List S54) × (List Int) × (List Bool))) := lim l2.b x
theorem l2.eq : ∀ x, l2.b x = roundX (mkE tab es 108 [] []) (loopAt 2 code) (cutOf l2.A l2.c) (cutsOf l2.xs l2.y) x := fun x => by kernel_rfl
theorem l2.owed {R : Type} : owed (mkE (R := R) tab es 108 [] []) (loopAt 2 code) = [] := by kernel_rfl
theorem l2.ok (w0 : World) (M : Own) (h : Pinned M []) {R : Type} : SoundO prog w0 M 108 (.block 2 (.loop (loopAt 2 code))) (loopO (R := R) 2 (cutOf l2.A l2.c) (cutsOf l2.xs l2.y) l2) :=
  loop_ok tabOk uniOk mixed l2.eq (h.sub rfl) (h.sub rfl) fun x hx => by rw [l2.owed] at hx; exact absurd hx List.not_mem_nil

def l0.A : Ann := ⟨[(1, .slc 5000064 []), (2, .box 5000128 0), (6, .sc), (7, .slc 5000448 []), (8, .slc 5000512 []), (9, .sc)], [(5000128, 30, [.sc, .sc, .sc])], [(5000064, false, 2), (5000448, true, 5), (5000512, true, 10)], []⟩
def l0.c : Cod uni (Int × Int × Int × Int × Int × (List S54) × (List Int) × (List Bool)) := (codC (iInt .i64) (codC (iInt .i64) (codC (iInt .i64) (codC (iInt .i64) (codC (iInt .i64) (codC (iRow 2) (codC (iRow 5) (cod1 (iRow 10)))))))))
def l0.xs : List (AExit × Ann) := [((.exit 0), ⟨[(2, .box 5000128 0), (6, .sc), (7, .slc 5000448 [])], [(5000128, 30, [.sc, .sc, .sc])], [(5000448, true, 5)], []⟩)]
def l0.y : Coy uni ((Int × Int × Int × Int × (List Int))) := (coy1 (codC (iInt .i64) (codC (iInt .i64) (codC (iInt .i64) (codC (iInt .i64) (cod1 (iRow 5)))))))
noncomputable def l0.b : Int × Int × Int × Int × Int × (List S54) × (List Int) × (List Bool) → Option ((Int × Int × Int × Int × Int × (List S54) × (List Int) × (List Bool)) ⊕ ((Int × Int × Int × Int × (List Int))))
  | (v6, v9, b128_0, b128_1, b128_2, r64, r448, r512) =>
  cond (decide (v9 < ((List.length r64) : Int))) (
   (l2 (v6, v9, 0, 0, b128_0, b128_1, b128_2, r64, r448, r512)).bind fun yl2 =>
   some (.inl ((if (yl2.2.2.1 > yl2.1) then yl2.2.2.1 else yl2.1), (Go.IntKind.wrap (Go.IntKind.i64 ) (yl2.2.1 + 1)), yl2.2.2.2.1, yl2.2.2.2.2.1, yl2.2.2.2.2.2.1, yl2.2.2.2.2.2.2.1, yl2.2.2.2.2.2.2.2.1, yl2.2.2.2.2.2.2.2.2))) (
   some (.inr (v6, b128_0, b128_1, b128_2, r448)))
noncomputable def l0 (x : Int × Int × Int × Int × Int × (List S54) × (List Int) × (List Bool)) : Option ((Int × Int × Int × Int × (List Int))) := lim l0.b x
theorem l0.eq : ∀ x, l0.b x = roundX (mkE tab es 108 [(2, some (loopO 2 (cutOf l2.A l2.c) (cutsOf l2.xs l2.y) l2))] []) (loopAt 0 code) (cutOf l0.A l0.c) (cutsOf l0.xs l0.y) x := fun x => by kernel_rfl
theorem l0.owed {R : Type} : owed (mkE (R := R) tab es 108 [(2, some (loopO 2 (cutOf l2.A l2.c) (cutsOf l2.xs l2.y) l2))] []) (loopAt 0 code) = [((.block 2 (.loop (loopAt 2 code))), (loopO (R := _) 2 (cutOf l2.A l2.c) (cutsOf l2.xs l2.y) l2))] := by kernel_rfl
theorem l0.ok (w0 : World) (M : Own) (h : Pinned M []) {R : Type} : SoundO prog w0 M 108 (.block 0 (.loop (loopAt 0 code))) (loopO (R := R) 0 (cutOf l0.A l0.c) (cutsOf l0.xs l0.y) l0) :=
  loop_ok tabOk uniOk mixed l0.eq (h.sub rfl) (h.sub rfl) fun x hx => by rw [l0.owed] at hx; rcases List.mem_cons.1 hx with rfl | hx; exact l2.ok w0 M h; exact absurd hx List.not_mem_nil

def l4.A : Ann := ⟨[(2, .box 5000128 0), (6, .sc), (7, .slc 5000448 []), (13, .sc)], [(5000128, 30, [.sc, .sc, .sc])], [(5000448, true, 5)], []⟩
def l4.c : Cod uni (Int × Int × Int × Int × Int × (List Int)) := (codC (iInt .i64) (codC (iInt .i64) (codC (iInt .i64) (codC (iInt .i64) (codC (iInt .i64) (cod1 (iRow 5)))))))
def l4.xs : List (AExit × Ann) := [((.exit 4), ⟨[(6, .sc)], [], [], []⟩)]
def l4.y : Coy uni (Int) := (coy1 (cod1 (iInt .i64)))
noncomputable def l4.b : Int × Int × Int × Int × Int × (List Int) → Option ((Int × Int × Int × Int × Int × (List Int)) ⊕ (Int))
  | (v6, v13, b128_0, b128_1, b128_2, r448) =>
  cond (decide (v13 < b128_0)) (
   cond ((decide (0 ≤ v13)) && (decide (v13 < ((List.length r448) : Int)))) (
    let x0 := (List.getD r448 (Int.toNat v13) 0)
    some (.inl ((if (x0 > v6) then x0 else v6), (Go.IntKind.wrap (Go.IntKind.i64 ) (v13 + 1)), b128_0, b128_1, b128_2, r448))) none) (
   some (.inr v6))
noncomputable def l4 (x : Int × Int × Int × Int × Int × (List Int)) : Option (Int) := lim l4.b x
theorem l4.eq : ∀ x, l4.b x = roundX (mkE tab es 108 [] []) (loopAt 4 code) (cutOf l4.A l4.c) (cutsOf l4.xs l4.y) x := fun x => by kernel_rfl
theorem l4.owed {R : Type} : owed (mkE (R := R) tab es 108 [] []) (loopAt 4 code) = [] := by kernel_rfl
theorem l4.ok (w0 : World) (M : Own) (h : Pinned M []) {R : Type} : SoundO prog w0 M 108 (.block 4 (.loop (loopAt 4 code))) (loopO (R := R) 4 (cutOf l4.A l4.c) (cutsOf l4.xs l4.y) l4) :=
  loop_ok tabOk uniOk mixed l4.eq (h.sub rfl) (h.sub rfl) fun x hx => by rw [l4.owed] at hx; exact absurd hx List.not_mem_nil

noncomputable def F : ((Int × Int × Int) × (List S54)) → Option ((Int × Int))
  | ((p0_0, p0_1, p0_2), p1) =>
  cond (decide (((List.length p1) : Int) > 4096)) (
   some (0, 2)) (
   (F32.F ((p0_0, (p0_1, p0_2)), p1)).bind fun y32 =>
   cond (!y32) (
    some (0, 1)) (
    cond (((decide (0 ≤ p0_0)) && (decide (p0_0 ≤ p0_0))) && (decide (p0_0 ≤ 274877906944))) (
     let x0 := (Go.IntKind.wrap (Go.IntKind.i64 ) (10 * p0_0))
     cond (((decide (0 ≤ x0)) && (decide (x0 ≤ x0))) && (decide (x0 ≤ 274877906944))) (
      (l0 (0, 0, p0_0, p0_1, p0_2, p1, (List.replicate (Int.toNat p0_0) 0), (List.replicate (Int.toNat x0) false))).bind fun yl0 =>
      (l4 (yl0.1, 0, yl0.2.1, yl0.2.2.1, yl0.2.2.2.1, yl0.2.2.2.2)).bind fun yl4 =>
      some (yl4, 0)) none) none))
theorem F.eq : ∀ x, F x = runF (mkE tab es 108 [(0, some (loopO 0 (cutOf l0.A l0.c) (cutsOf l0.xs l0.y) l0)), (4, some (loopO 4 (cutOf l4.A l4.c) (cutsOf l4.xs l4.y) l4))] []) code [.agg [.sc, .sc, .sc], .row 2 0] [.sc, .sc] [.tmp 4, .tmp 5] (Coz.dec cr) (cp.enc x) := fun x => by kernel_rfl
theorem F.owed : owed (mkE (R := (Int × Int)) tab es 108 [(0, some (loopO 0 (cutOf l0.A l0.c) (cutsOf l0.xs l0.y) l0)), (4, some (loopO 4 (cutOf l4.A l4.c) (cutsOf l4.xs l4.y) l4))] []) code = [((.block 0 (.loop (loopAt 0 code))), (loopO (R := _) 0 (cutOf l0.A l0.c) (cutsOf l0.xs l0.y) l0)), ((.block 4 (.loop (loopAt 4 code))), (loopO (R := _) 4 (cutOf l4.A l4.c) (cutsOf l4.xs l4.y) l4))] := by kernel_rfl
theorem con : ∀ x y, F x = some y → Con prog 25 [.agg [.sc, .sc, .sc], .row 2 0] [.sc, .sc] (cp.enc x) (cr.enc y).1 (cr.enc y).2 :=
  func_ok (c := code) (n := 108) (pf := [.agg [.sc, .sc, .sc], .row 2 0]) (res := [.tmp 4, .tmp 5]) tabOk uniOk mixed get (by kernel_rfl) (by kernel_rfl) (by kernel_rfl) (by decide) F.eq fun w0 M h x hx => by rw [F.owed] at hx; rcases List.mem_cons.1 hx with rfl | hx; exact l0.ok w0 M h; rcases List.mem_cons.1 hx with rfl | hx; exact l4.ok w0 M h; exact absurd hx List.not_mem_nil
noncomputable def ent : Ent prog uni := Ent.of 25 [.agg [.sc, .sc, .sc], .row 2 0] [.sc, .sc] cp cr F con fun args w => enters_of get (by kernel_rfl) rfl args w
end Go.Proofs.YtchohkelpjfpcaaDoor.AX.F25

/- The function 26 of the program in the small machine. No conditions. -/
namespace Go.Proofs.YtchohkelpjfpcaaDoor.AX.F26
open Go Go.Proofs.Tryd
noncomputable def code : Code := bodyOf f26
abbrev Y : Type := Int
def cp : Cod uni ((List Int) × Int × Int) := (codC (iRow 4) (codC (iInt .i64) (cod1 (iInt .i64))))
def cr : Coz uni Int := (cozR (cod1 (iInt .i64)) (codD (codD (codD cod0))))
noncomputable def es : List (Ent prog uni) := []
theorem get : prog.funcs[26]? = some f26 := by kernel_rfl

noncomputable def F : ((List Int) × Int × Int) → Option (Int)
  | (p0, p1, p2) =>
  cond (decide (p2 ≤ 1)) (
   some 0) (
   let x3 := ((List.length p0) : Int)
   cond (x3 == 0) (
    cond (!(decide (p2 = 0))) (
     some (Int.tmod (Go.IntKind.wrap (Go.IntKind.i64 ) (p1 * 7)) p2)) none) (
    let x1 := (!(decide (x3 = 0)))
    cond x1 (
     let x2 := (Int.tmod p1 x3)
     cond ((decide (0 ≤ x2)) && (decide (x2 < x3))) (
      cond x1 (
       let x0 := (Int.tmod (Go.IntKind.wrap (Go.IntKind.i64 ) (p1 + 1)) x3)
       cond ((decide (0 ≤ x0)) && (decide (x0 < x3))) (
        cond x1 (
         cond (!(decide (p2 = 0))) (
          some (Int.tmod (Go.IntKind.wrap (Go.IntKind.i64 ) ((Go.IntKind.wrap (Go.IntKind.i64 ) ((Go.IntKind.wrap (Go.IntKind.i64 ) ((Go.IntKind.wrap (Go.IntKind.i64 ) (List.getD p0 (Int.toNat x2) 0)) * 31)) + (Go.IntKind.wrap (Go.IntKind.i64 ) (List.getD p0 (Int.toNat x0) 0)))) + (Go.IntKind.wrap (Go.IntKind.i64 ) (Int.tdiv p1 x3)))) p2)) none) none) none) none) none) none))
theorem F.eq : ∀ x, F x = runF (mkE tab es 42 [] []) code [.row 4 0, .sc, .sc] [.sc] [.tmp 6] (Coz.dec cr) (cp.enc x) := fun x => by kernel_rfl
theorem F.owed : owed (mkE (R := Int) tab es 42 [] []) code = [] := by kernel_rfl
theorem con : ∀ x y, F x = some y → Con prog 26 [.row 4 0, .sc, .sc] [.sc] (cp.enc x) (cr.enc y).1 (cr.enc y).2 :=
  func_ok (c := code) (n := 42) (pf := [.row 4 0, .sc, .sc]) (res := [.tmp 6]) tabOk uniOk mixed get (by kernel_rfl) (by kernel_rfl) (by kernel_rfl) (by decide) F.eq fun w0 M h x hx => by rw [F.owed] at hx; exact absurd hx List.not_mem_nil
noncomputable def ent : Ent prog uni := Ent.of 26 [.row 4 0, .sc, .sc] [.sc] cp cr F con fun args w => enters_of get (by kernel_rfl) rfl args w
end Go.Proofs.YtchohkelpjfpcaaDoor.AX.F26

/- The function 5 of the program in the small machine. No conditions. -/
namespace Go.Proofs.YtchohkelpjfpcaaDoor.AX.F5
open Go Go.Proofs.Tryd
noncomputable def code : Code := bodyOf f5
abbrev Y : Type := Bool
def cp : Cod uni ((List Int) × (List Int)) := (codC (iRow 4) (cod1 (iRow 4)))
def cr : Coz uni Bool := (cozR (cod1 iBool) (codD (codD cod0)))
noncomputable def es : List (Ent prog uni) := [F21.ent, F17.ent, F16.ent, F22.ent, F13.ent, F23.ent, F24.ent, F25.ent, F26.ent]
theorem get : prog.funcs[5]? = some f5 := by kernel_rfl

def l0.A : Ann := ⟨[(1, .slc 5000064 []), (5, .box 5000320 0), (6, .slc 5000384 []), (7, .slc 5000448 []), (13, .box 5000832 0), (19, .sc), (20, .sc)], [(5000320, 30, [.sc, .sc, .sc]), (5000832, 49, [.sc, .sc, .sc, .sc, .slc 5000846 []])], [(5000064, false, 4), (5000384, true, 2), (5000448, true, 3), (5000846, true, 5)], []⟩
def l0.c : Cod uni (Int × Int × Int × Int × Int × Int × Int × Int × Int × (List Int) × (List S54) × (List S56) × (List Int)) := (codC (iInt .i64) (codC (iInt .i64) (codC (iInt .i64) (codC (iInt .i64) (codC (iInt .i64) (codC (iInt .i64) (codC (iInt .i64) (codC (iInt .i64) (codC (iInt .i64) (codC (iRow 4) (codC (iRow 2) (codC (iRow 3) (cod1 (iRow 5))))))))))))))
def l0.xs : List (AExit × Ann) := [((.exit 0), ⟨[(1, .slc 5000064 []), (5, .box 5000320 0), (6, .slc 5000384 []), (7, .slc 5000448 []), (13, .box 5000832 0), (19, .sc)], [(5000320, 30, [.sc, .sc, .sc]), (5000832, 49, [.sc, .sc, .sc, .sc, .slc 5000846 []])], [(5000064, false, 4), (5000384, true, 2), (5000448, true, 3), (5000846, true, 5)], []⟩)]
def l0.y : Coy uni ((Int × Int × Int × Int × Int × Int × Int × Int × (List Int) × (List S54) × (List S56) × (List Int))) := (coy1 (codC (iInt .i64) (codC (iInt .i64) (codC (iInt .i64) (codC (iInt .i64) (codC (iInt .i64) (codC (iInt .i64) (codC (iInt .i64) (codC (iInt .i64) (codC (iRow 4) (codC (iRow 2) (codC (iRow 3) (cod1 (iRow 5))))))))))))))
noncomputable def l0.b : Int × Int × Int × Int × Int × Int × Int × Int × Int × (List Int) × (List S54) × (List S56) × (List Int) → Option ((Int × Int × Int × Int × Int × Int × Int × Int × Int × (List Int) × (List S54) × (List S56) × (List Int)) ⊕ ((Int × Int × Int × Int × Int × Int × Int × Int × (List Int) × (List S54) × (List S56) × (List Int))))
  | (v19, v20, b320_0, b320_1, b320_2, b832_0, b832_1, b832_2, b832_3, r64, r384, r448, r846) =>
  let x0 := (decide (v20 < ((List.length r384) : Int)))
  cond x0 (
   cond ((decide (0 ≤ v20)) && x0) (
    some (.inl ((Go.IntKind.wrap (Go.IntKind.i64 ) (v19 + ((List.length (List.getD r384 (Int.toNat v20) z54).f2) : Int))), (Go.IntKind.wrap (Go.IntKind.i64 ) (v20 + 1)), b320_0, b320_1, b320_2, b832_0, b832_1, b832_2, b832_3, r64, r384, r448, r846))) none) (
   some (.inr (v19, b320_0, b320_1, b320_2, b832_0, b832_1, b832_2, b832_3, r64, r384, r448, r846)))
noncomputable def l0 (x : Int × Int × Int × Int × Int × Int × Int × Int × Int × (List Int) × (List S54) × (List S56) × (List Int)) : Option ((Int × Int × Int × Int × Int × Int × Int × Int × (List Int) × (List S54) × (List S56) × (List Int))) := lim l0.b x
theorem l0.eq : ∀ x, l0.b x = roundX (mkE tab es 333 [] []) (loopAt 0 code) (cutOf l0.A l0.c) (cutsOf l0.xs l0.y) x := fun x => by kernel_rfl
theorem l0.owed {R : Type} : owed (mkE (R := R) tab es 333 [] []) (loopAt 0 code) = [] := by kernel_rfl
theorem l0.ok (w0 : World) (M : Own) (h : Pinned M []) {R : Type} : SoundO prog w0 M 333 (.block 0 (.loop (loopAt 0 code))) (loopO (R := R) 0 (cutOf l0.A l0.c) (cutsOf l0.xs l0.y) l0) :=
  loop_ok tabOk uniOk mixed l0.eq (h.sub rfl) (h.sub rfl) fun x hx => by rw [l0.owed] at hx; exact absurd hx List.not_mem_nil

def l2.A : Ann := ⟨[(1, .slc 5000064 []), (5, .box 5000320 0), (6, .slc 5000384 []), (7, .slc 5000448 []), (13, .box 5000832 0), (19, .sc), (21, .sc), (22, .sc), (23, .sc), (24, .sc), (25, .slc 5001600 []), (26, .sc)], [(5000320, 30, [.sc, .sc, .sc]), (5000832, 49, [.sc, .sc, .sc, .sc, .slc 5000846 []])], [(5000064, false, 4), (5000384, true, 2), (5000448, true, 3), (5001600, true, 5), (5000846, true, 5)], []⟩
def l2.c : Cod uni (Int × Int × Int × Int × Int × Int × Int × Int × Int × Int × Int × Int × Int × (List Int) × (List S54) × (List S56) × (List Int) × (List Int)) := (codC (iInt .i64) (codC (iInt .i64) (codC (iInt .i64) (codC (iInt .i64) (codC (iInt .i64) (codC (iInt .i64) (codC (iInt .i64) (codC (iInt .i64) (codC (iInt .i64) (codC (iInt .i64) (codC (iInt .i64) (codC (iInt .i64) (codC (iInt .i64) (codC (iRow 4) (codC (iRow 2) (codC (iRow 3) (codC (iRow 5) (cod1 (iRow 5)))))))))))))))))))
def l2.xs : List (AExit × Ann) := [((.exit 2), ⟨[(1, .slc 5000064 []), (5, .box 5000320 0), (6, .slc 5000384 []), (7, .slc 5000448 []), (13, .box 5000832 0), (19, .sc), (21, .sc), (22, .sc), (23, .sc), (24, .sc), (25, .slc 5001600 [])], [(5000320, 30, [.sc, .sc, .sc]), (5000832, 49, [.sc, .sc, .sc, .sc, .slc 5000846 []])], [(5000064, false, 4), (5000384, true, 2), (5000448, true, 3), (5001600, true, 5), (5000846, true, 5)], []⟩)]
def l2.y : Coy uni ((Int × Int × Int × Int × Int × Int × Int × Int × Int × Int × Int × Int × (List Int) × (List S54) × (List S56) × (List Int) × (List Int))) := (coy1 (codC (iInt .i64) (codC (iInt .i64) (codC (iInt .i64) (codC (iInt .i64) (codC (iInt .i64) (codC (iInt .i64) (codC (iInt .i64) (codC (iInt .i64) (codC (iInt .i64) (codC (iInt .i64) (codC (iInt .i64) (codC (iInt .i64) (codC (iRow 4) (codC (iRow 2) (codC (iRow 3) (codC (iRow 5) (cod1 (iRow 5)))))))))))))))))))
noncomputable def l2.b : Int × Int × Int × Int × Int × Int × Int × Int × Int × Int × Int × Int × Int × (List Int) × (List S54) × (List S56) × (List Int) × (List Int) → Option ((Int × Int × Int × Int × Int × Int × Int × Int × Int × Int × Int × Int × Int × (List Int) × (List S54) × (List S56) × (List Int) × (List Int)) ⊕ ((Int × Int × Int × Int × Int × Int × Int × Int × Int × Int × Int × Int × (List Int) × (List S54) × (List S56) × (List Int) × (List Int))))
  | (v19, v21, v22, v23, v24, v26, b320_0, b320_1, b320_2, b832_0, b832_1, b832_2, b832_3, r64, r384, r448, r1600, r846) =>
  let x5 := (decide (v26 < ((List.length r448) : Int)))
  cond x5 (
   let x3 := ((decide (0 ≤ v26)) && x5)
   cond x3 (
    cond x3 (
     cond x3 (
      cond x3 (
       cond x3 (
        let x6 := (List.getD r448 (Int.toNat v26) z56)
        cond ((decide (0 ≤ x6.f0)) && (decide (x6.f0 < ((List.length r1600) : Int)))) (
         cond x3 (
          let x0 := (Go.IntKind.wrap (Go.IntKind.i64 ) (v21 + (Go.IntKind.wrap (Go.IntKind.i64 ) (x6.f4 - x6.f3))))
          let x1 := (List.set r1600 (Int.toNat x6.f0) x6.f4)
          let x2 := (if (x6.f4 > v23) then x6.f4 else v23)
          let x4 := (Go.IntKind.wrap (Go.IntKind.i64 ) (v26 + 1))
          cond x6.f5 (
           some (.inl (v19, x0, (Go.IntKind.wrap (Go.IntKind.i64 ) (v22 + 1)), x2, v24, x4, b320_0, b320_1, b320_2, b832_0, b832_1, b832_2, b832_3, r64, r384, r448, x1, r846))) (
           some (.inl (v19, x0, v22, x2, v24, x4, b320_0, b320_1, b320_2, b832_0, b832_1, b832_2, b832_3, r64, r384, r448, x1, r846)))) none) none) none) none) none) none) none) (
   some (.inr (v19, v21, v22, v23, v24, b320_0, b320_1, b320_2, b832_0, b832_1, b832_2, b832_3, r64, r384, r448, r1600, r846)))
noncomputable def l2 (x : Int × Int × Int × Int × Int × Int × Int × Int × Int × Int × Int × Int × Int × (List Int) × (List S54) × (List S56) × (List Int) × (List Int)) : Option ((Int × Int × Int × Int × Int × Int × Int × Int × Int × Int × Int × Int × (List Int) × (List S54) × (List S56) × (List Int) × (List Int))) := lim l2.b x
theorem l2.eq : ∀ x, l2.b x = roundX (mkE tab es 333 [] []) (loopAt 2 code) (cutOf l2.A l2.c) (cutsOf l2.xs l2.y) x := fun x => by kernel_rfl
theorem l2.owed {R : Type} : owed (mkE (R := R) tab es 333 [] []) (loopAt 2 code) = [] := by kernel_rfl
theorem l2.ok (w0 : World) (M : Own) (h : Pinned M []) {R : Type} : SoundO prog w0 M 333 (.block 2 (.loop (loopAt 2 code))) (loopO (R := R) 2 (cutOf l2.A l2.c) (cutsOf l2.xs l2.y) l2) :=
  loop_ok tabOk uniOk mixed l2.eq (h.sub rfl) (h.sub rfl) fun x hx => by rw [l2.owed] at hx; exact absurd hx List.not_mem_nil

def l4.A : Ann := ⟨[(1, .slc 5000064 []), (5, .box 5000320 0), (6, .slc 5000384 []), (7, .slc 5000448 []), (13, .box 5000832 0), (19, .sc), (21, .sc), (22, .sc), (23, .sc), (24, .sc), (25, .slc 5001600 []), (27, .sc)], [(5000320, 30, [.sc, .sc, .sc]), (5000832, 49, [.sc, .sc, .sc, .sc, .slc 5000846 []])], [(5000064, false, 4), (5000384, true, 2), (5000448, true, 3), (5001600, true, 5), (5000846, true, 5)], []⟩
def l4.c : Cod uni (Int × Int × Int × Int × Int × Int × Int × Int × Int × Int × Int × Int × Int × (List Int) × (List S54) × (List S56) × (List Int) × (List Int)) := (codC (iInt .i64) (codC (iInt .i64) (codC (iInt .i64) (codC (iInt .i64) (codC (iInt .i64) (codC (iInt .i64) (codC (iInt .i64) (codC (iInt .i64) (codC (iInt .i64) (codC (iInt .i64) (codC (iInt .i64) (codC (iInt .i64) (codC (iInt .i64) (codC (iRow 4) (codC (iRow 2) (codC (iRow 3) (codC (iRow 5) (cod1 (iRow 5)))))))))))))))))))
def l4.xs : List (AExit × Ann) := [((.exit 4), ⟨[(1, .slc 5000064 []), (5, .box 5000320 0), (6, .slc 5000384 []), (7, .slc 5000448 []), (13, .box 5000832 0), (19, .sc), (21, .sc), (22, .sc), (23, .sc), (24, .sc)], [(5000320, 30, [.sc, .sc, .sc]), (5000832, 49, [.sc, .sc, .sc, .sc, .slc 5000846 []])], [(5000064, false, 4), (5000384, true, 2), (5000448, true, 3), (5000846, true, 5)], []⟩)]
def l4.y : Coy uni ((Int × Int × Int × Int × Int × Int × Int × Int × Int × Int × Int × Int × (List Int) × (List S54) × (List S56) × (List Int))) := (coy1 (codC (iInt .i64) (codC (iInt .i64) (codC (iInt .i64) (codC (iInt .i64) (codC (iInt .i64) (codC (iInt .i64) (codC (iInt .i64) (codC (iInt .i64) (codC (iInt .i64) (codC (iInt .i64) (codC (iInt .i64) (codC (iInt .i64) (codC (iRow 4) (codC (iRow 2) (codC (iRow 3) (cod1 (iRow 5))))))))))))))))))
noncomputable def l4.b : Int × Int × Int × Int × Int × Int × Int × Int × Int × Int × Int × Int × Int × (List Int) × (List S54) × (List S56) × (List Int) × (List Int) → Option ((Int × Int × Int × Int × Int × Int × Int × Int × Int × Int × Int × Int × Int × (List Int) × (List S54) × (List S56) × (List Int) × (List Int)) ⊕ ((Int × Int × Int × Int × Int × Int × Int × Int × Int × Int × Int × Int × (List Int) × (List S54) × (List S56) × (List Int))))
  | (v19, v21, v22, v23, v24, v27, b320_0, b320_1, b320_2, b832_0, b832_1, b832_2, b832_3, r64, r384, r448, r1600, r846) =>
  let x1 := (decide (v27 < ((List.length r384) : Int)))
  cond x1 (
   cond ((decide (0 ≤ v27)) && (decide (v27 < ((List.length r1600) : Int)))) (
    cond ((decide (0 ≤ v27)) && x1) (
     let x0 := (Go.IntKind.wrap (Go.IntKind.i64 ) ((List.getD r1600 (Int.toNat v27) 0) - (List.getD r384 (Int.toNat v27) z54).f1))
     some (.inl (v19, v21, v22, v23, (Go.IntKind.wrap (Go.IntKind.i64 ) (v24 + (if (0 > x0) then 0 else x0))), (Go.IntKind.wrap (Go.IntKind.i64 ) (v27 + 1)), b320_0, b320_1, b320_2, b832_0, b832_1, b832_2, b832_3, r64, r384, r448, r1600, r846))) none) none) (
   some (.inr (v19, v21, v22, v23, v24, b320_0, b320_1, b320_2, b832_0, b832_1, b832_2, b832_3, r64, r384, r448, r846)))
noncomputable def l4 (x : Int × Int × Int × Int × Int × Int × Int × Int × Int × Int × Int × Int × Int × (List Int) × (List S54) × (List S56) × (List Int) × (List Int)) : Option ((Int × Int × Int × Int × Int × Int × Int × Int × Int × Int × Int × Int × (List Int) × (List S54) × (List S56) × (List Int))) := lim l4.b x
theorem l4.eq : ∀ x, l4.b x = roundX (mkE tab es 333 [] []) (loopAt 4 code) (cutOf l4.A l4.c) (cutsOf l4.xs l4.y) x := fun x => by kernel_rfl
theorem l4.owed {R : Type} : owed (mkE (R := R) tab es 333 [] []) (loopAt 4 code) = [] := by kernel_rfl
theorem l4.ok (w0 : World) (M : Own) (h : Pinned M []) {R : Type} : SoundO prog w0 M 333 (.block 4 (.loop (loopAt 4 code))) (loopO (R := R) 4 (cutOf l4.A l4.c) (cutsOf l4.xs l4.y) l4) :=
  loop_ok tabOk uniOk mixed l4.eq (h.sub rfl) (h.sub rfl) fun x hx => by rw [l4.owed] at hx; exact absurd hx List.not_mem_nil

def l6.A : Ann := ⟨[(1, .slc 5000064 []), (5, .box 5000320 0), (6, .slc 5000384 []), (7, .slc 5000448 []), (13, .box 5000832 0), (19, .sc), (21, .sc), (22, .sc), (23, .sc), (24, .sc), (28, .sc), (29, .sc)], [(5000320, 30, [.sc, .sc, .sc]), (5000832, 49, [.sc, .sc, .sc, .sc, .slc 5000846 []])], [(5000064, false, 4), (5000384, true, 2), (5000448, true, 3), (5000846, true, 5)], []⟩
def l6.c : Cod uni (Int × Int × Int × Int × Int × Int × Int × Int × Int × Int × Int × Int × Int × Int × (List Int) × (List S54) × (List S56) × (List Int)) := (codC (iInt .i64) (codC (iInt .i64) (codC (iInt .i64) (codC (iInt .i64) (codC (iInt .i64) (codC (iInt .i64) (codC (iInt .i64) (codC (iInt .i64) (codC (iInt .i64) (codC (iInt .i64) (codC (iInt .i64) (codC (iInt .i64) (codC (iInt .i64) (codC (iInt .i64) (codC (iRow 4) (codC (iRow 2) (codC (iRow 3) (cod1 (iRow 5)))))))))))))))))))
def l6.xs : List (AExit × Ann) := [((.exit 6), ⟨[(1, .slc 5000064 []), (5, .box 5000320 0), (6, .slc 5000384 []), (7, .slc 5000448 []), (13, .box 5000832 0), (19, .sc), (21, .sc), (22, .sc), (23, .sc), (24, .sc), (28, .sc)], [(5000320, 30, [.sc, .sc, .sc]), (5000832, 49, [.sc, .sc, .sc, .sc, .slc 5000846 []])], [(5000064, false, 4), (5000384, true, 2), (5000448, true, 3), (5000846, true, 5)], []⟩)]
def l6.y : Coy uni ((Int × Int × Int × Int × Int × Int × Int × Int × Int × Int × Int × Int × Int × (List Int) × (List S54) × (List S56) × (List Int))) := (coy1 (codC (iInt .i64) (codC (iInt .i64) (codC (iInt .i64) (codC (iInt .i64) (codC (iInt .i64) (codC (iInt .i64) (codC (iInt .i64) (codC (iInt .i64) (codC (iInt .i64) (codC (iInt .i64) (codC (iInt .i64) (codC (iInt .i64) (codC (iInt .i64) (codC (iRow 4) (codC (iRow 2) (codC (iRow 3) (cod1 (iRow 5)))))))))))))))))))
noncomputable def l6.b : Int × Int × Int × Int × Int × Int × Int × Int × Int × Int × Int × Int × Int × Int × (List Int) × (List S54) × (List S56) × (List Int) → Option ((Int × Int × Int × Int × Int × Int × Int × Int × Int × Int × Int × Int × Int × Int × (List Int) × (List S54) × (List S56) × (List Int)) ⊕ ((Int × Int × Int × Int × Int × Int × Int × Int × Int × Int × Int × Int × Int × (List Int) × (List S54) × (List S56) × (List Int))))
  | (v19, v21, v22, v23, v24, v28, v29, b320_0, b320_1, b320_2, b832_0, b832_1, b832_2, b832_3, r64, r384, r448, r846) =>
  cond (decide (v29 < b320_0)) (
   cond ((decide (0 ≤ v29)) && (decide (v29 < ((List.length r846) : Int)))) (
    some (.inl (v19, v21, v22, v23, v24, (Go.IntKind.wrap (Go.IntKind.i64 ) (v28 + (List.getD r846 (Int.toNat v29) 0))), (Go.IntKind.wrap (Go.IntKind.i64 ) (v29 + 1)), b320_0, b320_1, b320_2, b832_0, b832_1, b832_2, b832_3, r64, r384, r448, r846))) none) (
   some (.inr (v19, v21, v22, v23, v24, v28, b320_0, b320_1, b320_2, b832_0, b832_1, b832_2, b832_3, r64, r384, r448, r846)))
noncomputable def l6 (x : Int × Int × Int × Int × Int × Int × Int × Int × Int × Int × Int × Int × Int × Int × (List Int) × (List S54) × (List S56) × (List Int)) : Option ((Int × Int × Int × Int × Int × Int × Int × Int × Int × Int × Int × Int × Int × (List Int) × (List S54) × (List S56) × (List Int))) := lim l6.b x
theorem l6.eq : ∀ x, l6.b x = roundX (mkE tab es 333 [] []) (loopAt 6 code) (cutOf l6.A l6.c) (cutsOf l6.xs l6.y) x := fun x => by kernel_rfl
theorem l6.owed {R : Type} : owed (mkE (R := R) tab es 333 [] []) (loopAt 6 code) = [] := by kernel_rfl
theorem l6.ok (w0 : World) (M : Own) (h : Pinned M []) {R : Type} : SoundO prog w0 M 333 (.block 6 (.loop (loopAt 6 code))) (loopO (R := R) 6 (cutOf l6.A l6.c) (cutsOf l6.xs l6.y) l6) :=
  loop_ok tabOk uniOk mixed l6.eq (h.sub rfl) (h.sub rfl) fun x hx => by rw [l6.owed] at hx; exact absurd hx List.not_mem_nil

def l8.A : Ann := ⟨[(5, .box 5000320 0), (6, .slc 5000384 []), (7, .slc 5000448 []), (13, .box 5000832 0), (30, .slc 5001920 []), (31, .sc), (32, .sc)], [(5000320, 30, [.sc, .sc, .sc]), (5000832, 49, [.sc, .sc, .sc, .sc, .slc 5000846 []])], [(5000384, true, 2), (5000448, true, 3), (5001920, true, 3), (5000846, true, 5)], []⟩
def l8.c : Cod uni (Int × Int × Int × Int × Int × Int × Int × Int × Int × (List S54) × (List S56) × (List S56) × (List Int)) := (codC (iInt .i64) (codC (iInt .i64) (codC (iInt .i64) (codC (iInt .i64) (codC (iInt .i64) (codC (iInt .i64) (codC (iInt .i64) (codC (iInt .i64) (codC (iInt .i64) (codC (iRow 2) (codC (iRow 3) (codC (iRow 3) (cod1 (iRow 5))))))))))))))
def l8.xs : List (AExit × Ann) := [((.exit 8), ⟨[(5, .box 5000320 0), (6, .slc 5000384 []), (13, .box 5000832 0), (30, .slc 5001920 []), (31, .sc)], [(5000320, 30, [.sc, .sc, .sc]), (5000832, 49, [.sc, .sc, .sc, .sc, .slc 5000846 []])], [(5000384, true, 2), (5001920, true, 3), (5000846, true, 5)], []⟩)]
def l8.y : Coy uni ((Int × Int × Int × Int × Int × Int × Int × Int × (List S54) × (List S56) × (List Int))) := (coy1 (codC (iInt .i64) (codC (iInt .i64) (codC (iInt .i64) (codC (iInt .i64) (codC (iInt .i64) (codC (iInt .i64) (codC (iInt .i64) (codC (iInt .i64) (codC (iRow 2) (codC (iRow 3) (cod1 (iRow 5)))))))))))))
noncomputable def l8.b : Int × Int × Int × Int × Int × Int × Int × Int × Int × (List S54) × (List S56) × (List S56) × (List Int) → Option ((Int × Int × Int × Int × Int × Int × Int × Int × Int × (List S54) × (List S56) × (List S56) × (List Int)) ⊕ ((Int × Int × Int × Int × Int × Int × Int × Int × (List S54) × (List S56) × (List Int))))
  | (v31, v32, b320_0, b320_1, b320_2, b832_0, b832_1, b832_2, b832_3, r384, r448, r1920, r846) =>
  let x1 := (decide (v32 < ((List.length r448) : Int)))
  cond x1 (
   cond ((decide (0 ≤ v32)) && x1) (
    let x2 := (List.getD r448 (Int.toNat v32) z56)
    let x0 := ((⟨x2.f0, x2.f1, x2.f2, (Go.IntKind.wrap (Go.IntKind.i64 ) (x2.f3 + v31)), (Go.IntKind.wrap (Go.IntKind.i64 ) (x2.f4 + v31)), x2.f5⟩ : S56) :: [])
    cond (decide (((List.length r1920) + (List.length x0)) ≤ 274877906944)) (
     some (.inl (v31, (Go.IntKind.wrap (Go.IntKind.i64 ) (v32 + 1)), b320_0, b320_1, b320_2, b832_0, b832_1, b832_2, b832_3, r384, r448, (r1920 ++ x0), r846))) none) none) (
   some (.inr (v31, b320_0, b320_1, b320_2, b832_0, b832_1, b832_2, b832_3, r384, r1920, r846)))
noncomputable def l8 (x : Int × Int × Int × Int × Int × Int × Int × Int × Int × (List S54) × (List S56) × (List S56) × (List Int)) : Option ((Int × Int × Int × Int × Int × Int × Int × Int × (List S54) × (List S56) × (List Int))) := lim l8.b x
theorem l8.eq : ∀ x, l8.b x = roundX (mkE tab es 333 [] []) (loopAt 8 code) (cutOf l8.A l8.c) (cutsOf l8.xs l8.y) x := fun x => by kernel_rfl
theorem l8.owed {R : Type} : owed (mkE (R := R) tab es 333 [] []) (loopAt 8 code) = [] := by kernel_rfl
theorem l8.ok (w0 : World) (M : Own) (h : Pinned M []) {R : Type} : SoundO prog w0 M 333 (.block 8 (.loop (loopAt 8 code))) (loopO (R := R) 8 (cutOf l8.A l8.c) (cutsOf l8.xs l8.y) l8) :=
  loop_ok tabOk uniOk mixed l8.eq (h.sub rfl) (h.sub rfl) fun x hx => by rw [l8.owed] at hx; exact absurd hx List.not_mem_nil

noncomputable def F : ((List Int) × (List Int)) → Option (Bool)
  | (p0, p1) =>
  cond ((decide (((List.length p0) : Int) > 1048576)) || (decide (((List.length p1) : Int) > 1048576))) (
   some true) (
   (F21.F p0).bind fun y21 =>
   (F17.F ((y21.1.1, (y21.1.2.1, y21.1.2.2)), y21.2)).bind fun y17 =>
   (F16.F ((y21.1.1, (y21.1.2.1, y21.1.2.2)), y21.2)).bind fun y16 =>
   let x1 := (F13.F ((y21.1.1, (y21.1.2.1, y21.1.2.2)), (y21.2, y17.1)))
   let x2 := (F23.F ((y21.1.1, (y21.1.2.1, y21.1.2.2)), (y21.2, y17.1)))
   let x4 := (F24.F ((y21.1.1, (y21.1.2.1, y21.1.2.2)), y21.2))
   let x5 := (F25.F ((y21.1.1, (y21.1.2.1, y21.1.2.2)), y21.2))
   cond (!(y17.2 != 0)) (
    (F22.F (y17.1, y16.1)).bind fun y22 =>
    cond ((y17.2 != 0) || (!y22)) (
     some false) (
     x1.bind fun y13 =>
     x2.bind fun y23 =>
     x4.bind fun y24 =>
     x5.bind fun y25 =>
     cond (((((((y13.1 != 0) || (y13.2 != 0)) || (y23.2 != 0)) || (y24.2 != 0)) || (y24.1 != y25.1)) || (decide (y23.1.1 < y24.1))) || (((List.length y23.1.2.2.2.2) : Int) != y21.1.1)) (
      some false) (
      (l0 (0, 0, y21.1.1, y21.1.2.1, y21.1.2.2, y23.1.1, y23.1.2.1, y23.1.2.2.1, y23.1.2.2.2.1, p1, y21.2, y17.1, y23.1.2.2.2.2)).bind fun yl0 =>
      let x6 := ((List.length yl0.2.2.2.2.2.2.2.2.2.1) : Int)
      cond (((decide (0 ≤ x6)) && (decide (x6 ≤ x6))) && (decide (x6 ≤ 274877906944))) (
       (l2 (yl0.1, 0, 0, 0, 0, 0, yl0.2.1, yl0.2.2.1, yl0.2.2.2.1, yl0.2.2.2.2.1, yl0.2.2.2.2.2.1, yl0.2.2.2.2.2.2.1, yl0.2.2.2.2.2.2.2.1, yl0.2.2.2.2.2.2.2.2.1, yl0.2.2.2.2.2.2.2.2.2.1, yl0.2.2.2.2.2.2.2.2.2.2.1, (List.replicate (Int.toNat x6) 0), yl0.2.2.2.2.2.2.2.2.2.2.2)).bind fun yl2 =>
       (l4 (yl2.1, yl2.2.1, yl2.2.2.1, yl2.2.2.2.1, yl2.2.2.2.2.1, 0, yl2.2.2.2.2.2.1, yl2.2.2.2.2.2.2.1, yl2.2.2.2.2.2.2.2.1, yl2.2.2.2.2.2.2.2.2.1, yl2.2.2.2.2.2.2.2.2.2.1, yl2.2.2.2.2.2.2.2.2.2.2.1, yl2.2.2.2.2.2.2.2.2.2.2.2.1, yl2.2.2.2.2.2.2.2.2.2.2.2.2.1, yl2.2.2.2.2.2.2.2.2.2.2.2.2.2.1, yl2.2.2.2.2.2.2.2.2.2.2.2.2.2.2.1, yl2.2.2.2.2.2.2.2.2.2.2.2.2.2.2.2.1, yl2.2.2.2.2.2.2.2.2.2.2.2.2.2.2.2.2)).bind fun yl4 =>
       (l6 (yl4.1, yl4.2.1, yl4.2.2.1, yl4.2.2.2.1, yl4.2.2.2.2.1, 0, 0, yl4.2.2.2.2.2.1, yl4.2.2.2.2.2.2.1, yl4.2.2.2.2.2.2.2.1, yl4.2.2.2.2.2.2.2.2.1, yl4.2.2.2.2.2.2.2.2.2.1, yl4.2.2.2.2.2.2.2.2.2.2.1, yl4.2.2.2.2.2.2.2.2.2.2.2.1, yl4.2.2.2.2.2.2.2.2.2.2.2.2.1, yl4.2.2.2.2.2.2.2.2.2.2.2.2.2.1, yl4.2.2.2.2.2.2.2.2.2.2.2.2.2.2.1, yl4.2.2.2.2.2.2.2.2.2.2.2.2.2.2.2)).bind fun yl6 =>
       let x3 := ((List.length yl6.2.2.2.2.2.2.2.2.2.2.2.2.2.2.2.1) : Int)
       cond ((((((yl6.1 != x3) || (yl6.2.2.2.2.2.1 != yl6.2.1)) || (yl6.2.2.1 != yl6.2.2.2.2.2.2.2.2.2.2.2.2.1)) || ((Go.IntKind.wrap (Go.IntKind.i64 ) (yl6.2.2.1 * yl6.2.2.2.2.2.2.2.1)) != yl6.2.2.2.2.2.2.2.2.2.2.2.1)) || (yl6.2.2.2.1 != yl6.2.2.2.2.2.2.2.2.2.1)) || (yl6.2.2.2.2.1 != yl6.2.2.2.2.2.2.2.2.2.2.1)) (
        some false) (
        cond (x3 == 0) (
         some true) (
         let x0 := (Go.IntKind.wrap (Go.IntKind.i64 ) (x3 - 1))
         cond (((decide (0 ≤ 0)) && (decide (0 ≤ x0))) && (decide (x0 ≤ x3))) (
          (F13.F ((yl6.2.2.2.2.2.2.1, (yl6.2.2.2.2.2.2.2.1, yl6.2.2.2.2.2.2.2.2.1)), (yl6.2.2.2.2.2.2.2.2.2.2.2.2.2.2.1, (List.take (Int.toNat (x0 - 0)) (List.drop (Int.toNat 0) yl6.2.2.2.2.2.2.2.2.2.2.2.2.2.2.2.1))))).bind fun y13x2 =>
          cond ((y13x2.1 != 18) || (y13x2.2 != x0)) (
           some false) (
           (F26.F (yl6.2.2.2.2.2.2.2.2.2.2.2.2.2.1, (0, 50))).bind fun y26 =>
           (l8 (y26, 0, yl6.2.2.2.2.2.2.1, yl6.2.2.2.2.2.2.2.1, yl6.2.2.2.2.2.2.2.2.1, yl6.2.2.2.2.2.2.2.2.2.1, yl6.2.2.2.2.2.2.2.2.2.2.1, yl6.2.2.2.2.2.2.2.2.2.2.2.1, yl6.2.2.2.2.2.2.2.2.2.2.2.2.1, yl6.2.2.2.2.2.2.2.2.2.2.2.2.2.2.1, yl6.2.2.2.2.2.2.2.2.2.2.2.2.2.2.2.1, ([] : List S56), yl6.2.2.2.2.2.2.2.2.2.2.2.2.2.2.2.2)).bind fun yl8 =>
           (F23.F ((yl8.2.1, (yl8.2.2.1, yl8.2.2.2.1)), (yl8.2.2.2.2.2.2.2.2.1, yl8.2.2.2.2.2.2.2.2.2.1))).bind fun y23x2 =>
           some (((y23x2.2 == 0) && (y23x2.1.1 == (Go.IntKind.wrap (Go.IntKind.i64 ) (yl8.2.2.2.2.1 + yl8.1)))) && (y23x2.1.2.2.2.1 == yl8.2.2.2.2.2.2.2.1)))) none))) none))) (
    cond ((y17.2 != 0) || true) (
     some false) (
     x1.bind fun y13 =>
     x2.bind fun y23 =>
     x4.bind fun y24 =>
     x5.bind fun y25 =>
     cond (((((((y13.1 != 0) || (y13.2 != 0)) || (y23.2 != 0)) || (y24.2 != 0)) || (y24.1 != y25.1)) || (decide (y23.1.1 < y24.1))) || (((List.length y23.1.2.2.2.2) : Int) != y21.1.1)) (
      some false) (
      (l0 (0, 0, y21.1.1, y21.1.2.1, y21.1.2.2, y23.1.1, y23.1.2.1, y23.1.2.2.1, y23.1.2.2.2.1, p1, y21.2, y17.1, y23.1.2.2.2.2)).bind fun yl0 =>
      let x6 := ((List.length yl0.2.2.2.2.2.2.2.2.2.1) : Int)
      cond (((decide (0 ≤ x6)) && (decide (x6 ≤ x6))) && (decide (x6 ≤ 274877906944))) (
       (l2 (yl0.1, 0, 0, 0, 0, 0, yl0.2.1, yl0.2.2.1, yl0.2.2.2.1, yl0.2.2.2.2.1, yl0.2.2.2.2.2.1, yl0.2.2.2.2.2.2.1, yl0.2.2.2.2.2.2.2.1, yl0.2.2.2.2.2.2.2.2.1, yl0.2.2.2.2.2.2.2.2.2.1, yl0.2.2.2.2.2.2.2.2.2.2.1, (List.replicate (Int.toNat x6) 0), yl0.2.2.2.2.2.2.2.2.2.2.2)).bind fun yl2 =>
       (l4 (yl2.1, yl2.2.1, yl2.2.2.1, yl2.2.2.2.1, yl2.2.2.2.2.1, 0, yl2.2.2.2.2.2.1, yl2.2.2.2.2.2.2.1, yl2.2.2.2.2.2.2.2.1, yl2.2.2.2.2.2.2.2.2.1, yl2.2.2.2.2.2.2.2.2.2.1, yl2.2.2.2.2.2.2.2.2.2.2.1, yl2.2.2.2.2.2.2.2.2.2.2.2.1, yl2.2.2.2.2.2.2.2.2.2.2.2.2.1, yl2.2.2.2.2.2.2.2.2.2.2.2.2.2.1, yl2.2.2.2.2.2.2.2.2.2.2.2.2.2.2.1, yl2.2.2.2.2.2.2.2.2.2.2.2.2.2.2.2.1, yl2.2.2.2.2.2.2.2.2.2.2.2.2.2.2.2.2)).bind fun yl4 =>
       (l6 (yl4.1, yl4.2.1, yl4.2.2.1, yl4.2.2.2.1, yl4.2.2.2.2.1, 0, 0, yl4.2.2.2.2.2.1, yl4.2.2.2.2.2.2.1, yl4.2.2.2.2.2.2.2.1, yl4.2.2.2.2.2.2.2.2.1, yl4.2.2.2.2.2.2.2.2.2.1, yl4.2.2.2.2.2.2.2.2.2.2.1, yl4.2.2.2.2.2.2.2.2.2.2.2.1, yl4.2.2.2.2.2.2.2.2.2.2.2.2.1, yl4.2.2.2.2.2.2.2.2.2.2.2.2.2.1, yl4.2.2.2.2.2.2.2.2.2.2.2.2.2.2.1, yl4.2.2.2.2.2.2.2.2.2.2.2.2.2.2.2)).bind fun yl6 =>
       let x3 := ((List.length yl6.2.2.2.2.2.2.2.2.2.2.2.2.2.2.2.1) : Int)
       cond ((((((yl6.1 != x3) || (yl6.2.2.2.2.2.1 != yl6.2.1)) || (yl6.2.2.1 != yl6.2.2.2.2.2.2.2.2.2.2.2.2.1)) || ((Go.IntKind.wrap (Go.IntKind.i64 ) (yl6.2.2.1 * yl6.2.2.2.2.2.2.2.1)) != yl6.2.2.2.2.2.2.2.2.2.2.2.1)) || (yl6.2.2.2.1 != yl6.2.2.2.2.2.2.2.2.2.1)) || (yl6.2.2.2.2.1 != yl6.2.2.2.2.2.2.2.2.2.2.1)) (
        some false) (
        cond (x3 == 0) (
         some true) (
         let x0 := (Go.IntKind.wrap (Go.IntKind.i64 ) (x3 - 1))
         cond (((decide (0 ≤ 0)) && (decide (0 ≤ x0))) && (decide (x0 ≤ x3))) (
          (F13.F ((yl6.2.2.2.2.2.2.1, (yl6.2.2.2.2.2.2.2.1, yl6.2.2.2.2.2.2.2.2.1)), (yl6.2.2.2.2.2.2.2.2.2.2.2.2.2.2.1, (List.take (Int.toNat (x0 - 0)) (List.drop (Int.toNat 0) yl6.2.2.2.2.2.2.2.2.2.2.2.2.2.2.2.1))))).bind fun y13x2 =>
          cond ((y13x2.1 != 18) || (y13x2.2 != x0)) (
           some false) (
           (F26.F (yl6.2.2.2.2.2.2.2.2.2.2.2.2.2.1, (0, 50))).bind fun y26 =>
           (l8 (y26, 0, yl6.2.2.2.2.2.2.1, yl6.2.2.2.2.2.2.2.1, yl6.2.2.2.2.2.2.2.2.1, yl6.2.2.2.2.2.2.2.2.2.1, yl6.2.2.2.2.2.2.2.2.2.2.1, yl6.2.2.2.2.2.2.2.2.2.2.2.1, yl6.2.2.2.2.2.2.2.2.2.2.2.2.1, yl6.2.2.2.2.2.2.2.2.2.2.2.2.2.2.1, yl6.2.2.2.2.2.2.2.2.2.2.2.2.2.2.2.1, ([] : List S56), yl6.2.2.2.2.2.2.2.2.2.2.2.2.2.2.2.2)).bind fun yl8 =>
           (F23.F ((yl8.2.1, (yl8.2.2.1, yl8.2.2.2.1)), (yl8.2.2.2.2.2.2.2.2.1, yl8.2.2.2.2.2.2.2.2.2.1))).bind fun y23x2 =>
           some (((y23x2.2 == 0) && (y23x2.1.1 == (Go.IntKind.wrap (Go.IntKind.i64 ) (yl8.2.2.2.2.1 + yl8.1)))) && (y23x2.1.2.2.2.1 == yl8.2.2.2.2.2.2.2.1)))) none))) none))))
theorem F.eq : ∀ x, F x = runF (mkE tab es 333 [(0, some (loopO 0 (cutOf l0.A l0.c) (cutsOf l0.xs l0.y) l0)), (2, some (loopO 2 (cutOf l2.A l2.c) (cutsOf l2.xs l2.y) l2)), (4, some (loopO 4 (cutOf l4.A l4.c) (cutsOf l4.xs l4.y) l4)), (6, some (loopO 6 (cutOf l6.A l6.c) (cutsOf l6.xs l6.y) l6)), (8, some (loopO 8 (cutOf l8.A l8.c) (cutsOf l8.xs l8.y) l8))] []) code [.row 4 0, .row 4 0] [.sc] [.tmp 4] (Coz.dec cr) (cp.enc x) := fun x => by kernel_rfl
theorem F.owed : owed (mkE (R := Bool) tab es 333 [(0, some (loopO 0 (cutOf l0.A l0.c) (cutsOf l0.xs l0.y) l0)), (2, some (loopO 2 (cutOf l2.A l2.c) (cutsOf l2.xs l2.y) l2)), (4, some (loopO 4 (cutOf l4.A l4.c) (cutsOf l4.xs l4.y) l4)), (6, some (loopO 6 (cutOf l6.A l6.c) (cutsOf l6.xs l6.y) l6)), (8, some (loopO 8 (cutOf l8.A l8.c) (cutsOf l8.xs l8.y) l8))] []) code = [((.block 0 (.loop (loopAt 0 code))), (loopO (R := _) 0 (cutOf l0.A l0.c) (cutsOf l0.xs l0.y) l0)), ((.block 2 (.loop (loopAt 2 code))), (loopO (R := _) 2 (cutOf l2.A l2.c) (cutsOf l2.xs l2.y) l2)), ((.block 4 (.loop (loopAt 4 code))), (loopO (R := _) 4 (cutOf l4.A l4.c) (cutsOf l4.xs l4.y) l4)), ((.block 6 (.loop (loopAt 6 code))), (loopO (R := _) 6 (cutOf l6.A l6.c) (cutsOf l6.xs l6.y) l6)), ((.block 8 (.loop (loopAt 8 code))), (loopO (R := _) 8 (cutOf l8.A l8.c) (cutsOf l8.xs l8.y) l8))] := by kernel_rfl
theorem con : ∀ x y, F x = some y → Con prog 5 [.row 4 0, .row 4 0] [.sc] (cp.enc x) (cr.enc y).1 (cr.enc y).2 :=
  func_ok (c := code) (n := 333) (pf := [.row 4 0, .row 4 0]) (res := [.tmp 4]) tabOk uniOk mixed get (by kernel_rfl) (by kernel_rfl) (by kernel_rfl) (by decide) F.eq fun w0 M h x hx => by rw [F.owed] at hx; rcases List.mem_cons.1 hx with rfl | hx; exact l0.ok w0 M h; rcases List.mem_cons.1 hx with rfl | hx; exact l2.ok w0 M h; rcases List.mem_cons.1 hx with rfl | hx; exact l4.ok w0 M h; rcases List.mem_cons.1 hx with rfl | hx; exact l6.ok w0 M h; rcases List.mem_cons.1 hx with rfl | hx; exact l8.ok w0 M h; exact absurd hx List.not_mem_nil
noncomputable def ent : Ent prog uni := Ent.of 5 [.row 4 0, .row 4 0] [.sc] cp cr F con fun args w => enters_of get (by kernel_rfl) rfl args w
end Go.Proofs.YtchohkelpjfpcaaDoor.AX.F5

/- Small facts for plain laws. No conditions. -/
namespace Go.Proofs.YtchohkelpjfpcaaDoor.AX
open Go

theorem w64 {x : Int} (h0 : -9223372036854775808 ≤ x) (h1 : x < 9223372036854775808) : IntKind.wrap .i64 x = x := by
  unfold IntKind.wrap
  simp [IntKind.signed, IntKind.bits]
  omega

/- Not by rfl: a proof by simp then names each step, and the kernel need not find them. -/
theorem bS {α β : Type} {x : α} {f : α → Option β} : (some x).bind f = f x := by simp
theorem bN {α β : Type} {f : α → Option β} : (none : Option α).bind f = none := by simp
theorem cT {α : Type} {a b : α} : cond true a b = a := by simp
theorem cF {α : Type} {a b : α} : cond false a b = b := by simp

theorem dT {p : Prop} [Decidable p] (h : p) : decide p = true := decide_eq_true h
theorem dF {p : Prop} [Decidable p] (h : ¬ p) : decide p = false := decide_eq_false h

section
variable {α : Type} [BEq α] [LawfulBEq α] {a b : α}
theorem qT (h : a = b) : (a == b) = true := by simp [h]
theorem qF (h : ¬ a = b) : (a == b) = false := by simpa using h
theorem nT (h : ¬ a = b) : (a != b) = true := by simp [bne, qF h]
theorem nF (h : a = b) : (a != b) = false := by simp [bne, h]
end

theorem lim_in {X Y : Type} {f : X → Option (X ⊕ Y)} {x x' : X} (h : f x = some (.inl x')) : lim f x = lim f x' := by rw [lim_step, h]; rfl
theorem lim_out {X Y : Type} {f : X → Option (X ⊕ Y)} {x : X} {y : Y} (h : f x = some (.inr y)) : lim f x = some y := by rw [lim_step, h]; rfl

/-- So many rounds, told one by one. -/
theorem lim_to {X Y : Type} {f : X → Option (X ⊕ Y)} (s : Nat → X) : ∀ (n : Nat), (∀ i, i < n → f (s i) = some (.inl (s (i + 1)))) → lim f (s 0) = lim f (s n)
  | 0, _ => rfl
  | n + 1, h => by rw [lim_to s n fun i hi => h i (by omega), lim_in (h n (by omega))]
theorem lim_run {X Y : Type} {f : X → Option (X ⊕ Y)} (s : Nat → X) (n : Nat) {y : Y} (h : ∀ i, i < n → f (s i) = some (.inl (s (i + 1)))) (hn : f (s n) = some (.inr y)) : lim f (s 0) = some y := by
  rw [lim_to s n h, lim_out hn]

/-- A row looked through, until one falls. -/
theorem lim_scan {X Y α : Type} {f : X → Option (X ⊕ Y)} (s : Nat → X) (l : List α) (d : α) (p : α → Bool) {y z : Y} (h : ∀ i, i < l.length → f (s i) = some (if p (l.getD i d) then .inl (s (i + 1)) else .inr y)) (hn : f (s l.length) = some (.inr z)) :
    lim f (s 0) = some (if l.all p then z else y) := by
  have main : ∀ (n i : Nat), l.length - i ≤ n → i ≤ l.length → lim f (s i) = some (if (l.drop i).all p then z else y) := by
    intro n
    induction n with
    | zero =>
      intro i hi hi2
      have : i = l.length := by omega
      subst this
      rw [lim_out hn]; simp
    | succ n ih =>
      intro i hi hi2
      by_cases e : i = l.length
      · subst e; rw [lim_out hn]; simp
      · have hlt : i < l.length := by omega
        have hd : l.drop i = l.getD i d :: l.drop (i + 1) := by simp [List.getD, hlt]
        rw [hd, List.all_cons]
        cases hp : p (l.getD i d) with
        | true => rw [lim_in (x' := s (i + 1)) (by rw [h i hlt, hp]; rfl), ih (i + 1) (by omega) (by omega)]; simp
        | false => rw [lim_out (y := y) (by rw [h i hlt, hp]; rfl)]; simp
  simpa using main l.length 0 (by omega) (by omega)

/-- A row gone through, with something carried along. -/
theorem lim_fold {X Y α A : Type} {f : X → Option (X ⊕ Y)} (s : Nat → A → X) (l : List α) (d : α) (g : A → α → A) (I : A → Prop) {z : A → Y} (a0 : A) (h0 : I a0) (hI : ∀ a i, i < l.length → I a → I (g a (l.getD i d))) (h : ∀ i a, i < l.length → I a → f (s i a) = some (.inl (s (i + 1) (g a (l.getD i d))))) (hn : ∀ a, I a → f (s l.length a) = some (.inr (z a))) :
    lim f (s 0 a0) = some (z (l.foldl g a0)) := by
  have main : ∀ (n i : Nat) (a : A), l.length - i ≤ n → i ≤ l.length → I a → lim f (s i a) = some (z ((l.drop i).foldl g a)) := by
    intro n
    induction n with
    | zero =>
      intro i a hi hi2 ha
      have : i = l.length := by omega
      subst this
      rw [lim_out (hn a ha)]; simp
    | succ n ih =>
      intro i a hi hi2 ha
      by_cases e : i = l.length
      · subst e; rw [lim_out (hn a ha)]; simp
      · have hlt : i < l.length := by omega
        have hd : l.drop i = l.getD i d :: l.drop (i + 1) := by simp [List.getD, hlt]
        rw [hd, List.foldl_cons, lim_in (h i a hlt ha), ih (i + 1) _ (by omega) (by omega) (hI a i hlt ha)]
  simpa using main l.length 0 a0 (by omega) (by omega) h0

/-- .. with a way out. -/
def goL {α A Y : Type} (g : A → α → A ⊕ Y) : List α → A → A ⊕ Y
  | [], a => .inl a
  | x :: r, a => match g a x with
    | .inl a' => goL g r a'
    | .inr y => .inr y
theorem lim_go {X Y α A B : Type} {f : X → Option (X ⊕ Y)} (s : Nat → A → X) (l : List α) (d : α) (g : A → α → A ⊕ B) (I : A → Prop) {z : A → Y} {o : B → Y} (a0 : A) (h0 : I a0) (hI : ∀ a i a', i < l.length → I a → g a (l.getD i d) = .inl a' → I a')
    (h : ∀ i a, i < l.length → I a → f (s i a) = some (match g a (l.getD i d) with | .inl a' => .inl (s (i + 1) a') | .inr y => .inr (o y))) (hn : ∀ a, I a → f (s l.length a) = some (.inr (z a))) :
    lim f (s 0 a0) = some (Sum.elim z o (goL g l a0)) := by
  have main : ∀ (n i : Nat) (a : A), l.length - i ≤ n → i ≤ l.length → I a → lim f (s i a) = some (Sum.elim z o (goL g (l.drop i) a)) := by
    intro n
    induction n with
    | zero =>
      intro i a hi hi2 ha
      have : i = l.length := by omega
      subst this
      rw [lim_out (hn a ha)]; simp [goL]
    | succ n ih =>
      intro i a hi hi2 ha
      by_cases e : i = l.length
      · subst e; rw [lim_out (hn a ha)]; simp [goL]
      · have hlt : i < l.length := by omega
        have hd : l.drop i = l.getD i d :: l.drop (i + 1) := by simp [List.getD, hlt]
        have hf := h i a hlt ha
        rw [hd, goL]
        cases hg : g a (l.getD i d) with
        | inl a' => rw [hg] at hf; rw [lim_in hf, ih (i + 1) a' (by omega) (by omega) (hI a i a' hlt ha hg)]
        | inr y => rw [hg] at hf; rw [lim_out hf]; rfl
  simpa using main l.length 0 a0 (by omega) (by omega) h0

theorem getD_lt {α : Type} {l : List α} {i : Nat} {d : α} (h : i < l.length) : l.getD i d = l[i] := by simp [List.getD, h]

theorem set_self {α : Type} {l : List α} {i : Nat} {d : α} : l.set i (l.getD i d) = l := by
  by_cases h : i < l.length
  · rw [getD_lt h, List.set_getElem_self]
  · rw [List.set_eq_of_length_le (by omega)]

theorem getD_set {α : Type} {l : List α} {i : Nat} {d x : α} (h : i < l.length) : (l.set i x).getD i d = x := by simp [List.getD, h]

theorem set_app {α : Type} {p r : List α} {x y : α} {i : Nat} (h : i = p.length) : (p ++ x :: r).set i y = p ++ y :: r := by subst h; simp

theorem drop_cons {α : Type} {l : List α} {i : Nat} (h : i < l.length) : l.drop i = l[i] :: l.drop (i + 1) := by simp

section
variable {A B E : Type}

/-- A row laid anew, as far as i. -/
def upTo (c : A → B) (z : B) (l : List A) (i : Nat) : List B := (l.take i).map c ++ List.replicate (l.length - i) z
theorem upTo_zero {c : A → B} {z : B} {l : List A} : upTo c z l 0 = List.replicate l.length z := by simp [upTo]
theorem upTo_all {c : A → B} {z : B} {l : List A} : upTo c z l l.length = l.map c := by simp [upTo]
theorem upTo_len {c : A → B} {z : B} {l : List A} {i : Nat} (h : i ≤ l.length) : (upTo c z l i).length = l.length := by simp [upTo]; omega
theorem upTo_set {c : A → B} {z : B} {l : List A} {i : Nat} {d : A} (h : i < l.length) : (upTo c z l i).set i (c (l.getD i d)) = upTo c z l (i + 1) := by
  unfold upTo
  rw [show l.length - i = (l.length - (i + 1)) + 1 by omega, List.replicate_succ, set_app (by simp; omega), getD_lt h, ← List.take_append_getElem h, List.map_append, List.append_assoc]
  rfl

/-- Each element turned, with a number that counts on. -/
def mkL (g : Int → E → E) (c : E → Int) : Int → List E → List E
  | _, [] => []
  | k, x :: r => g k x :: mkL g c (k + c x) r
def mkK (c : E → Int) : Int → List E → Int
  | k, [] => k
  | k, x :: r => mkK c (k + c x) r
theorem mkL_len {g : Int → E → E} {c : E → Int} : ∀ {k : Int} {l : List E}, (mkL g c k l).length = l.length
  | _, [] => rfl
  | _, _ :: _ => by simp [mkL, mkL_len]
theorem mkL_app {g : Int → E → E} {c : E → Int} : ∀ {k : Int} {l r : List E}, mkL g c k (l ++ r) = mkL g c k l ++ mkL g c (mkK c k l) r
  | _, [], _ => rfl
  | k, x :: l, r => by simp [mkL, mkK, mkL_app]
theorem mkK_app {c : E → Int} : ∀ {k : Int} {l r : List E}, mkK c k (l ++ r) = mkK c (mkK c k l) r
  | _, [], _ => rfl
  | k, x :: l, r => by simp [mkK, mkK_app]
theorem mkK_take {c : E → Int} {k : Int} {l : List E} {i : Nat} {d : E} (h : i < l.length) : mkK c k (l.take (i + 1)) = mkK c k (l.take i) + c (l.getD i d) := by
  rw [← List.take_append_getElem h, mkK_app, getD_lt h]; rfl
theorem mkK_const {n : Int} : ∀ {k : Int} {l : List E}, mkK (fun _ => n) k l = k + n * l.length
  | k, [] => by simp [mkK]
  | k, x :: l => by
    simp only [mkK, mkK_const, List.length_cons]
    rw [show ((l.length + 1 : Nat) : Int) = (l.length : Int) + 1 from rfl, Int.mul_add, Int.mul_one]; omega
theorem mkK_le {c : E → Int} (hc : ∀ x, 0 ≤ c x) : ∀ {k : Int} {l : List E}, k ≤ mkK c k l
  | k, [] => Int.le_refl _
  | k, x :: l => by
    have := mkK_le hc (k := k + c x) (l := l)
    have := hc x
    simp only [mkK]; omega
def mkAt (g : Int → E → E) (c : E → Int) (k : Int) (l : List E) (i : Nat) : List E := mkL g c k (l.take i) ++ l.drop i
theorem mkAt_zero {g : Int → E → E} {c : E → Int} {k : Int} {l : List E} : mkAt g c k l 0 = l := by simp [mkAt, mkL]
theorem mkAt_all {g : Int → E → E} {c : E → Int} {k : Int} {l : List E} : mkAt g c k l l.length = mkL g c k l := by simp [mkAt]
theorem mkAt_len {g : Int → E → E} {c : E → Int} {k : Int} {l : List E} {i : Nat} : (mkAt g c k l i).length = l.length := by simp [mkAt, mkL_len]; omega
theorem mkAt_get {g : Int → E → E} {c : E → Int} {k : Int} {l : List E} {i : Nat} {d : E} (h : i < l.length) : (mkAt g c k l i).getD i d = l.getD i d := by
  unfold mkAt
  have : (mkL g c k (l.take i)).length = i := by rw [mkL_len]; simp; omega
  rw [getD_lt (by simp [this]; omega), getD_lt h, List.getElem_append_right (by omega)]
  simp [this]
theorem mkAt_set {g : Int → E → E} {c : E → Int} {k : Int} {l : List E} {i : Nat} {d : E} (h : i < l.length) : (mkAt g c k l i).set i (g (mkK c k (l.take i)) (l.getD i d)) = mkAt g c k l (i + 1) := by
  unfold mkAt
  rw [drop_cons h, set_app (by rw [mkL_len]; simp; omega), getD_lt h, ← List.take_append_getElem h, mkL_app, List.append_assoc]
  rfl
theorem mkL_get {g : Int → E → E} {c : E → Int} : ∀ {k : Int} {l : List E} {i : Nat} {d : E}, i < l.length → (mkL g c k l).getD i d = g (mkK c k (l.take i)) (l.getD i d)
  | k, x :: l, 0, d, _ => by simp [mkL, mkK]
  | k, x :: l, i + 1, d, h => by
    have := mkL_get (g := g) (c := c) (k := k + c x) (l := l) (i := i) (d := d) (by simpa using h)
    simpa [mkL, mkK, List.getD] using this
end


/-- Two rows compared, element by element. -/
theorem eq_rows {E : Type} {p q : List E} (d : E) (hl : p.length = q.length) : p = q ∨ ∃ i, i < p.length ∧ (∀ j, j < i → p.getD j d = q.getD j d) ∧ p.getD i d ≠ q.getD i d := by
  induction p generalizing q with
  | nil => cases q with
    | nil => exact .inl rfl
    | cons _ _ => simp at hl
  | cons x p ih =>
    cases q with
    | nil => simp at hl
    | cons y q =>
      by_cases h : x = y
      · subst h
        rcases ih (by simpa using hl) with h | ⟨i, h1, h2, h3⟩
        · exact .inl (by rw [h])
        · refine .inr ⟨i + 1, by simpa using h1, fun j hj => ?_, by simpa using h3⟩
          cases j with
          | zero => rfl
          | succ j => simpa using h2 j (by omega)
      · exact .inr ⟨0, by simp, fun j hj => by omega, by simpa using h⟩

end Go.Proofs.YtchohkelpjfpcaaDoor.AX

/- Names: the program and its reference agree. No conditions. -/
namespace Go.Proofs.YtchohkelpjfpcaaDoor.AX
open Go

def bt (s : ByteArray) (i : Nat) : Nat := ((s.data[i]?).getD 0).toNat
theorem bt_lt (s : ByteArray) (i : Nat) : bt s i < 256 := UInt8.toNat_lt _
theorem btAt_bt (s : ByteArray) (i : Nat) : btAt s (i : Int) = (bt s i : Int) := rfl
theorem get_bt (s : ByteArray) (i : Nat) : (s.get! i).toNat = bt s i := by
  unfold bt
  cases s with
  | mk d =>
    show (d[i]!).toNat = _
    rw [getElem!_def]
    cases d[i]? <;> rfl

theorem ext_bt (s : ByteArray) (i j : Nat) (h : i ≤ s.size) : bt (s.extract i s.size) j = bt s (i + j) := by
  unfold bt
  rw [ByteArray.data_extract, Array.getElem?_extract]
  have : s.data.size = s.size := rfl
  by_cases hj : j < min s.size s.data.size - i
  · rw [if_pos hj]
  · rw [if_neg hj, Array.getElem?_eq_none (by omega)]

theorem dec_bt (s : ByteArray) (i : Nat) (h : i < s.size) : Lib.decodeGo (s.extract i s.size) = Lib.decodeN (s.size - i) (bt s i) (bt s (i + 1)) (bt s (i + 2)) (bt s (i + 3)) := by
  have hs : (s.extract i s.size).size = s.size - i := by simp
  unfold Lib.decodeGo
  rw [if_neg (by omega), Lib.decode_at, hs]
  simp only [get_bt, Nat.zero_add, Nat.sub_zero]
  rw [ext_bt s i 0 (by omega), ext_bt s i 1 (by omega), ext_bt s i 2 (by omega), ext_bt s i 3 (by omega), Nat.add_zero]

def isA (b : Int) : Bool := ((((decide (b ≥ 97)) && (decide (b ≤ 122))) || ((decide (b ≥ 65)) && (decide (b ≤ 90)))) || (b == 95))
def is2 (r : Int) : Bool := ((((((decide (r ≥ 192)) && (decide (r ≤ 591))) && (r != 215)) && (r != 247)) || ((decide (r ≥ 913)) && (decide (r ≤ 969)))) || ((decide (r ≥ 1040)) && (decide (r ≤ 1103))))
def letR (n : Nat) (b0 b1 : Nat) : Int := if isA b0 = true then 1 else if b0 < 194 ∨ b0 > 223 ∨ n < 2 ∨ b1 < 128 ∨ b1 > 191 then 0 else if is2 (((b0 : Int) - 192) * 64 + b1 - 128) = true then 2 else 0

theorem F66.ok (s : ByteArray) (i : Nat) (h : i < s.size) (hb : s.size ≤ 1000000) : F66.F (s, (i : Int)) = some (letR (s.size - i) (bt s i) (bt s (i + 1))) := by
  have l0 := bt_lt s i
  have l1 := bt_lt s (i + 1)
  have w1 : Go.IntKind.wrap .i64 ((i : Int) + 1) = ((i + 1 : Nat) : Int) := by rw [w64 (by omega) (by omega)]; rfl
  have d1 : decide ((0 : Int) ≤ (i : Int)) = true := dT (by omega)
  have d2 : decide ((i : Int) < (s.size : Int)) = true := dT (by omega)
  have d3 : decide ((0 : Int) ≤ ((i + 1 : Nat) : Int)) = true := dT (by omega)
  unfold letR
  cases hA : isA (bt s i) with
  | true =>
    have hA' := hA
    unfold isA at hA'
    rw [if_pos rfl]
    simp only [F66.F]
    rw [btAt_bt s i]
    simp only [d1, d2, Bool.and_self, cT, hA']
  | false =>
    have hA' := hA
    unfold isA at hA'
    rw [if_neg (by decide)]
    simp only [F66.F]
    rw [w1, btAt_bt s i, btAt_bt s (i + 1)]
    simp only [d1, d2, d3, Bool.and_self, cT, hA', cF, Bool.true_and]
    by_cases c1 : bt s i < 194
    · rw [if_pos (.inl c1)]
      have e1 : decide ((bt s i : Int) < 194) = true := dT (by omega)
      simp only [e1, Bool.true_or, Bool.not_true, Bool.not_false, Bool.false_or, cT]
    · have e1 : decide ((bt s i : Int) < 194) = false := dF (by omega)
      by_cases c2 : bt s i > 223
      · rw [if_pos (.inr (.inl c2))]
        have e2 : decide ((bt s i : Int) > 223) = true := dT (by omega)
        simp only [e1, e2, Bool.true_or, Bool.or_true, Bool.not_true, Bool.not_false, Bool.false_or, cT]
      · have e2 : decide ((bt s i : Int) > 223) = false := dF (by omega)
        by_cases c3 : s.size - i < 2
        · rw [if_pos (.inr (.inr (.inl c3)))]
          have e3 : decide (((i + 1 : Nat) : Int) ≥ (s.size : Int)) = true := dT (by omega)
          have e4 : decide (((i + 1 : Nat) : Int) < (s.size : Int)) = false := dF (by omega)
          simp only [e1, e2, e3, e4, Bool.true_or, Bool.or_true, Bool.not_true, Bool.not_false, Bool.false_or, cT, cF]
        · have e3 : decide (((i + 1 : Nat) : Int) ≥ (s.size : Int)) = false := dF (by omega)
          have e4 : decide (((i + 1 : Nat) : Int) < (s.size : Int)) = true := dT (by omega)
          simp only [e1, e2, e3, e4, Bool.or_self, Bool.not_true, Bool.not_false, Bool.false_or, Bool.or_true, cT, cF]
          by_cases c4 : bt s (i + 1) < 128
          · rw [if_pos (.inr (.inr (.inr (.inl c4))))]
            have e5 : decide ((bt s (i + 1) : Int) < 128) = true := dT (by omega)
            simp only [e5, Bool.true_or, cT]
          · have e5 : decide ((bt s (i + 1) : Int) < 128) = false := dF (by omega)
            by_cases c5 : bt s (i + 1) > 191
            · rw [if_pos (.inr (.inr (.inr (.inr c5))))]
              have e6 : decide ((bt s (i + 1) : Int) > 191) = true := dT (by omega)
              simp only [e5, e6, Bool.or_true, cT]
            · have e6 : decide ((bt s (i + 1) : Int) > 191) = false := dF (by omega)
              rw [if_neg (by omega)]
              simp (disch := omega) only [e5, e6, Bool.or_self, cF, w64]
              cases h2 : is2 (((bt s i : Int) - 192) * 64 + (bt s (i + 1) : Int) - 128) with
              | true => unfold is2 at h2; simp only [h2, cT, if_true]
              | false => unfold is2 at h2; simp only [h2, cF, Bool.false_eq_true, if_false]

def nl (p0 p1 : Int) : Bool := cond (p1 == 1) (isA p0) ((p1 == 2) && is2 p0)
theorem F68.ok (a b : Int) : F68.F (a, b) = some (nl a b) := by
  simp only [F68.F, nl, isA, is2]
  cases b == 1 <;> rfl

theorem let_dec {n b0 b1 b2 b3 : Nat} (h0 : b0 < 256) (h1 : b1 < 256) (h2 : b2 < 256) (h3 : b3 < 256) (hn : 1 ≤ n) :
    nl ((Lib.decodeN n b0 b1 b2 b3).1 : Int) ((Lib.decodeN n b0 b1 b2 b3).2 : Int) = (letR n b0 b1 != 0) ∧ (letR n b0 b1 ≠ 0 → ((Lib.decodeN n b0 b1 b2 b3).2 : Int) = letR n b0 b1) ∧
    ((48 ≤ (Lib.decodeN n b0 b1 b2 b3).1 ∧ (Lib.decodeN n b0 b1 b2 b3).1 ≤ 57) ↔ (48 ≤ b0 ∧ b0 ≤ 57)) ∧ ((48 ≤ b0 ∧ b0 ≤ 57) → (Lib.decodeN n b0 b1 b2 b3).2 = 1) := by
  have a1 : isA 65533 = false := by decide
  have nA : ¬ b0 < 128 → isA (b0 : Int) = false := fun h => by
    unfold isA
    have e1 : decide ((b0 : Int) ≤ 122) = false := dF (by omega)
    have e2 : decide ((b0 : Int) ≤ 90) = false := dF (by omega)
    have e3 : ((b0 : Int) == 95) = false := qF (by omega)
    simp [e1, e2, e3]
  by_cases c0 : b0 < 128
  · have e : Lib.decodeN n b0 b1 b2 b3 = (b0, 1) := by unfold Lib.decodeN; rw [if_pos c0]
    rw [e]
    refine ⟨?_, ?_, Iff.rfl, fun _ => rfl⟩
    · show nl (b0 : Int) 1 = _
      unfold nl letR
      cases hA : isA (b0 : Int) with
      | true => simp
      | false => rw [if_neg (by decide), if_pos (.inl (by omega))]; simp
    · unfold letR
      cases hA : isA (b0 : Int) with
      | true => simp
      | false => rw [if_neg (by decide), if_pos (.inl (by omega))]; simp
  · have hA := nA c0
    have c48 : ¬ (48 ≤ b0 ∧ b0 ≤ 57) := by omega
    by_cases c1 : b0 / 32 = 6 ∧ (1 < n ∧ b1 / 64 = 2)
    · by_cases c2 : b0 % 32 * 64 + b1 % 64 ≥ 128
      · have e : Lib.decodeN n b0 b1 b2 b3 = (b0 % 32 * 64 + b1 % 64, 2) := by unfold Lib.decodeN; rw [if_neg c0, if_pos c1, if_pos c2]
        rw [e]
        have el : letR n b0 b1 = if is2 ((b0 % 32 * 64 + b1 % 64 : Nat) : Int) = true then 2 else 0 := by
          unfold letR
          rw [hA, if_neg (by decide), if_neg (by omega), show ((b0 : Int) - 192) * 64 + b1 - 128 = ((b0 % 32 * 64 + b1 % 64 : Nat) : Int) by omega]
        rw [el]
        refine ⟨?_, ?_, ⟨fun h => ?_, fun h => absurd h c48⟩, fun h => absurd h c48⟩
        · show nl _ 2 = _
          unfold nl
          cases is2 ((b0 % 32 * 64 + b1 % 64 : Nat) : Int) <;> simp
        · cases is2 ((b0 % 32 * 64 + b1 % 64 : Nat) : Int) <;> simp
        · have h' : 48 ≤ b0 % 32 * 64 + b1 % 64 ∧ b0 % 32 * 64 + b1 % 64 ≤ 57 := h
          omega
      · have e : Lib.decodeN n b0 b1 b2 b3 = (65533, 1) := by unfold Lib.decodeN; rw [if_neg c0, if_pos c1, if_neg c2]
        have el : letR n b0 b1 = 0 := by unfold letR; rw [hA, if_neg (by decide), if_pos (.inl (by omega))]
        rw [e, el]
        exact ⟨by decide, fun h => absurd rfl h, ⟨fun h => by simp at h, fun h => absurd h c48⟩, fun h => absurd h c48⟩
    · have el : letR n b0 b1 = 0 := by
        unfold letR; rw [hA, if_neg (by decide), if_pos (by omega)]
      rw [el]
      have key : (Lib.decodeN n b0 b1 b2 b3).2 = 3 ∧ 2048 ≤ (Lib.decodeN n b0 b1 b2 b3).1 ∨ (Lib.decodeN n b0 b1 b2 b3).2 = 4 ∧ 65536 ≤ (Lib.decodeN n b0 b1 b2 b3).1 ∨ Lib.decodeN n b0 b1 b2 b3 = (65533, 1) := by
        unfold Lib.decodeN
        rw [if_neg c0, if_neg c1]
        split
        · split
          · rename_i h; exact .inl ⟨rfl, h.1⟩
          · exact .inr (.inr rfl)
        · split
          · split
            · rename_i h; exact .inr (.inl ⟨rfl, h.1⟩)
            · exact .inr (.inr rfl)
          · exact .inr (.inr rfl)
      rcases key with ⟨k1, k2⟩ | ⟨k1, k2⟩ | k
      · rw [k1]
        refine ⟨?_, fun h => absurd rfl h, ⟨fun h => by omega, fun h => absurd h c48⟩, fun h => absurd h c48⟩
        unfold nl; rfl
      · rw [k1]
        refine ⟨?_, fun h => absurd rfl h, ⟨fun h => by omega, fun h => absurd h c48⟩, fun h => absurd h c48⟩
        unfold nl; rfl
      · rw [k]
        exact ⟨by decide, fun h => absurd rfl h, ⟨fun h => by simp at h, fun h => absurd h c48⟩, fun h => absurd h c48⟩

def digB (b : Nat) : Bool := (decide ((b : Int) ≥ 48)) && (decide ((b : Int) ≤ 57))
/-- How far a name goes from i on. -/
def stepN (s : ByteArray) (i : Nat) : Int := if letR (s.size - i) (bt s i) (bt s (i + 1)) ≠ 0 then letR (s.size - i) (bt s i) (bt s (i + 1)) else if (i > 0 ∧ digB (bt s i) = true) then 1 else 0
theorem letR_cases (n b0 b1 : Nat) : letR n b0 b1 = 0 ∨ letR n b0 b1 = 1 ∨ (letR n b0 b1 = 2 ∧ 2 ≤ n) := by
  unfold letR
  split
  · exact .inr (.inl rfl)
  · split
    · exact .inl rfl
    · split
      · exact .inr (.inr ⟨rfl, by omega⟩)
      · exact .inl rfl
theorem stepN_le (s : ByteArray) {i : Nat} (h : i < s.size) : 0 ≤ stepN s i ∧ stepN s i ≤ 2 ∧ i + (stepN s i).toNat ≤ s.size := by
  unfold stepN
  rcases letR_cases (s.size - i) (bt s i) (bt s (i + 1)) with e | e | ⟨e, h2⟩ <;> rw [e] <;> (split <;> first | omega | (split <;> omega))
def wordR (s : ByteArray) : Nat → Nat → Nat
  | 0, i => i
  | f + 1, i => if i < s.size ∧ stepN s i ≠ 0 then wordR s f (i + (stepN s i).toNat) else i

theorem F61.l0_ok (s : ByteArray) (hb : s.size ≤ 1000000) : ∀ (f i : Nat), i ≤ s.size → s.size - i ≤ f → F61.l0 (s, 0, (i : Int)) = some (0, (wordR s (f + 1) i : Int))
  | f, i, hi, hf => by
    by_cases hlt : i < s.size
    · have d : decide ((i : Int) < (s.size : Int)) = true := dT (by omega)
      have d2 : decide ((0 : Int) ≤ (i : Int)) = true := dT (by omega)
      have e66 := F66.ok s i hlt hb
      have hst := stepN_le s hlt
      have hw : wordR s (f + 1) i = if stepN s i ≠ 0 then wordR s f (i + (stepN s i).toNat) else i := by simp [wordR, hlt]
      have hstep : (let y66 := letR (s.size - i) (bt s i) (bt s (i + 1)); (y66 == 0 && decide ((i : Int) > 0)) && decide ((bt s i : Int) ≥ 48) && decide ((bt s i : Int) ≤ 57)) = true → stepN s i = 1 := fun h => by
        simp only [Bool.and_eq_true, decide_eq_true_eq, beq_iff_eq] at h
        unfold stepN digB
        rw [if_neg (by simpa using h.1.1.1), if_pos ⟨by omega, by simp; omega⟩]
      have hstep2 : (let y66 := letR (s.size - i) (bt s i) (bt s (i + 1)); (y66 == 0 && decide ((i : Int) > 0)) && decide ((bt s i : Int) ≥ 48) && decide ((bt s i : Int) ≤ 57)) = false → stepN s i = letR (s.size - i) (bt s i) (bt s (i + 1)) := fun h => by
        unfold stepN digB
        by_cases h0 : letR (s.size - i) (bt s i) (bt s (i + 1)) = 0
        · rw [if_neg (by simpa using h0), h0, if_neg]
          intro hc
          simp only [Bool.and_eq_true, decide_eq_true_eq] at hc
          rw [h0] at h
          simp only [beq_self_eq_true, Bool.true_and] at h
          rw [dT (show (i : Int) > 0 by omega), dT hc.2.1, dT hc.2.2] at h
          cases h
        · rw [if_pos h0]
      have ht : ∀ k : Int, k = stepN s i → F61.l0 (s, 0, (i : Int)) = ((F61.t6 (s, 0, (i : Int), k)).bind fun q => match q with | .inl y => some (y.1, y.2) | .inr y => F61.l0 (y.1, y.2.1, y.2.2)) → F61.l0 (s, 0, (i : Int)) = some (0, (wordR s (f + 1) i : Int)) := fun k hk h => by
        rw [h, hw]
        by_cases h0 : stepN s i = 0
        · rw [if_neg (by simpa using h0)]
          have : (k == 0) = true := qT (hk.trans h0)
          simp only [F61.t6, this, cT, bS]
        · rw [if_pos h0]
          have : (k == 0) = false := qF (by rw [hk]; exact h0)
          have w : Go.IntKind.wrap .i64 ((i : Int) + k) = ((i + (stepN s i).toNat : Nat) : Int) := by rw [w64 (by omega) (by omega)]; omega
          simp only [F61.t6, this, cF, bS, w]
          cases f with
          | zero => omega
          | succ f => exact F61.l0_ok s hb f _ hst.2.2 (by omega)
      have run : F61.l0 (s, 0, (i : Int)) = (F61.l0.b (s, 0, (i : Int))).bind (Sum.elim F61.l0 some) := by
        show lim F61.l0.b _ = _; rw [lim_step]; rfl
      cases hc : (let y66 := letR (s.size - i) (bt s i) (bt s (i + 1)); (y66 == 0 && decide ((i : Int) > 0)) && decide ((bt s i : Int) ≥ 48) && decide ((bt s i : Int) ≤ 57)) with
      | true =>
        refine ht 1 (hstep hc).symm ?_
        rw [run]
        dsimp only at hc
        have hc2 := hc
        simp only [Bool.and_eq_true] at hc2
        simp only [F61.l0.b]
        rw [btAt_bt]
        simp only [d, d2, cT, e66, bS, Bool.and_self, Bool.or_true, Bool.and_true, hc]
        cases F61.t6 (s, 0, (i : Int), 1) with
        | none => rfl
        | some q => cases q <;> rfl
      | false =>
        refine ht _ (hstep2 hc).symm ?_
        rw [run]
        dsimp only at hc
        simp only [F61.l0.b]
        rw [btAt_bt]
        simp only [d, d2, cT, e66, bS, Bool.and_self, Bool.or_true, Bool.and_true, hc, cF]
        cases F61.t6 (s, 0, (i : Int), letR (s.size - i) (bt s i) (bt s (i + 1))) with
        | none => rfl
        | some q => cases q <;> rfl
    · have d : decide ((i : Int) < (s.size : Int)) = false := dF (by omega)
      have hw : wordR s (f + 1) i = i := by simp [wordR, hlt]
      rw [hw]
      unfold F61.l0
      exact lim_out (by simp only [F61.l0.b, d, cF])

theorem F63.l0_ok (s : ByteArray) (hb : s.size ≤ 1000000) : ∀ (f i : Nat), i ≤ s.size → s.size - i ≤ f → F63.l0 (s, 0, false, (i : Int)) = some (wordR s (f + 1) i : Int)
  | f, i, hi, hf => by
    have w0 : Go.IntKind.wrap .i64 (0 + (i : Int)) = (i : Int) := by rw [w64 (by omega) (by omega)]; omega
    by_cases hlt : i < s.size
    · have d : decide ((i : Int) < (s.size : Int)) = true := dT (by omega)
      have d1 : decide ((0 : Int) ≤ (i : Int)) = true := dT (by omega)
      have d2 : decide ((i : Int) ≤ (s.size : Int)) = true := dT (by omega)
      have d3 : decide ((s.size : Int) ≤ (s.size : Int)) = true := dT (by omega)
      have hst := stepN_le s hlt
      have hw : wordR s (f + 1) i = if stepN s i ≠ 0 then wordR s f (i + (stepN s i).toNat) else i := by simp [wordR, hlt]
      have e67 : F67.F (s.extract i s.size) = some (((Lib.decodeGo (s.extract i s.size)).1 : Int), ((Lib.decodeGo (s.extract i s.size)).2 : Int)) := rfl
      rw [dec_bt s i hlt] at e67
      obtain ⟨k1, k2, k3, k4⟩ := let_dec (bt_lt s i) (bt_lt s (i + 1)) (bt_lt s (i + 2)) (bt_lt s (i + 3)) (show 1 ≤ s.size - i by omega)
      generalize Lib.decodeN (s.size - i) (bt s i) (bt s (i + 1)) (bt s (i + 2)) (bt s (i + 3)) = q at e67 k1 k2 k3 k4
      have hcond : (nl (q.1 : Int) (q.2 : Int) || ((((decide ((i : Int) > 0)) || false) && (decide ((q.1 : Int) ≥ 48))) && (decide ((q.1 : Int) ≤ 57)))) = true ↔ stepN s i ≠ 0 := by
        rw [k1]
        unfold stepN digB
        simp only [Bool.or_eq_true, Bool.and_eq_true, decide_eq_true_eq, bne_iff_ne, Bool.or_false]
        by_cases h0 : letR (s.size - i) (bt s i) (bt s (i + 1)) = 0
        · rw [h0]
          simp only [ne_eq, not_true_eq_false, if_false, false_or]
          have h3 : (((q.1 : Nat) : Int) ≥ 48 ∧ ((q.1 : Nat) : Int) ≤ 57) ↔ ((bt s i : Int) ≥ 48 ∧ (bt s i : Int) ≤ 57) := by omega
          constructor
          · intro h; rw [if_pos ⟨by omega, by omega⟩]; decide
          · intro h
            by_cases hc : i > 0 ∧ (bt s i : Int) ≥ 48 ∧ (bt s i : Int) ≤ 57
            · omega
            · rw [if_neg hc] at h; exact absurd rfl h
        · rw [if_pos h0]; exact ⟨fun _ => h0, fun _ => .inl h0⟩
      have hsz : stepN s i ≠ 0 → (q.2 : Int) = stepN s i := fun h => by
        unfold stepN digB at h ⊢
        by_cases h0 : letR (s.size - i) (bt s i) (bt s (i + 1)) = 0
        · rw [if_neg (by simpa using h0)] at h ⊢
          by_cases hc : (i > 0 ∧ ((decide ((bt s i : Int) ≥ 48)) && (decide ((bt s i : Int) ≤ 57))) = true)
          · rw [if_pos hc]
            have := hc.2
            simp only [Bool.and_eq_true, decide_eq_true_eq] at this
            have := k4 ⟨by omega, by omega⟩
            omega
          · rw [if_neg hc] at h; exact absurd rfl h
        · rw [if_pos h0]; exact k2 h0
      rw [hw]
      by_cases h0 : stepN s i = 0
      · rw [if_neg (by simpa using h0)]
        have hf : (nl (q.1 : Int) (q.2 : Int) || ((((decide ((i : Int) > 0)) || false) && (decide ((q.1 : Int) ≥ 48))) && (decide ((q.1 : Int) ≤ 57)))) = false := by
          cases hx : (nl (q.1 : Int) (q.2 : Int) || ((((decide ((i : Int) > 0)) || false) && (decide ((q.1 : Int) ≥ 48))) && (decide ((q.1 : Int) ≤ 57)))) with
          | false => rfl
          | true => exact absurd (hcond.1 hx) (by simpa using h0)
        unfold F63.l0
        exact lim_out (by
          simp only [F63.l0.b]
          rw [w0]
          simp only [d, cT, d1, d2, d3, Bool.and_self, Int.toNat_natCast, e67, bS, F68.ok, hf, cF])
      · rw [if_pos h0]
        have hf' := hcond.2 h0
        have hs := hsz h0
        have w : Go.IntKind.wrap .i64 ((i : Int) + (q.2 : Int)) = ((i + (stepN s i).toNat : Nat) : Int) := by rw [w64 (by omega) (by omega)]; omega
        have : F63.l0 (s, 0, false, (i : Int)) = F63.l0 (s, 0, false, ((i + (stepN s i).toNat : Nat) : Int)) := by
          unfold F63.l0
          exact lim_in (by
            simp only [F63.l0.b]
            rw [w0]
            simp only [d, cT, d1, d2, d3, Bool.and_self, Int.toNat_natCast, e67, bS, F68.ok, hf', w])
        rw [this]
        cases f with
        | zero => omega
        | succ f => exact F63.l0_ok s hb f _ hst.2.2 (by omega)
    · have d : decide ((i : Int) < (s.size : Int)) = false := dF (by omega)
      have hw : wordR s (f + 1) i = i := by simp [wordR, hlt]
      rw [hw]
      unfold F63.l0
      exact lim_out (by simp only [F63.l0.b]; rw [w0]; simp only [d, cF])

/-- Is it a name? -/
def nameR (s : ByteArray) : Bool := ((decide ((s.size : Int) ≥ 1)) && (decide ((s.size : Int) ≤ 40))) && (((wordR s (s.size + 1) 0 : Nat) : Int) == (s.size : Int))
theorem F54.ok (s : ByteArray) : F54.F s = some (nameR s) := by
  unfold nameR
  cases h : ((decide ((s.size : Int) ≥ 1)) && (decide ((s.size : Int) ≤ 40))) with
  | true =>
    have h' := h
    simp only [Bool.and_eq_true, decide_eq_true_eq] at h'
    have e : F63.F (s, 0, false) = some ((wordR s (s.size + 1) 0 : Nat) : Int) := by
      simp only [F63.F]
      have := F63.l0_ok s (by omega) s.size 0 (by omega) (by omega)
      rw [show ((0 : Nat) : Int) = 0 from rfl] at this
      rw [this, bS]
    simp only [F54.F, h, cT, e, bS]
  | false => simp only [F54.F, h, cF, Bool.false_and]
theorem F52.ok (s : ByteArray) : F52.F s = some (nameR s) := by
  unfold nameR
  have hg : (decide ((s.size : Int) > 0)) = (decide ((s.size : Int) ≥ 1)) := by
    by_cases h : (s.size : Int) ≥ 1
    · rw [dT h, dT (by omega)]
    · rw [dF h, dF (by omega)]
  cases h : ((decide ((s.size : Int) ≥ 1)) && (decide ((s.size : Int) ≤ 40))) with
  | true =>
    have h' := h
    simp only [Bool.and_eq_true, decide_eq_true_eq] at h'
    have e : F61.F (s, 0) = some ((wordR s (s.size + 1) 0 : Nat) : Int) := by
      simp only [F61.F]
      have := F61.l0_ok s (by omega) s.size 0 (by omega) (by omega)
      rw [show ((0 : Nat) : Int) = 0 from rfl] at this
      rw [this, bS]
      have hle : ∀ (f i : Nat), i ≤ s.size → wordR s f i ≤ s.size := by
        intro f
        induction f with
        | zero => intro i hi; exact hi
        | succ f ih =>
          intro i hi
          simp only [wordR]
          split
          · rename_i hc; exact ih _ (stepN_le s hc.1).2.2
          · exact hi
      have := hle (s.size + 1) 0 (by omega)
      simp (disch := omega) only [w64]
      simp
    simp only [F52.F, hg, h, cT, e, bS]
  | false => simp only [F52.F, hg, h, cF, Bool.false_and]

end Go.Proofs.YtchohkelpjfpcaaDoor.AX

/- Shops: the program and its reference agree. No conditions. -/
namespace Go.Proofs.YtchohkelpjfpcaaDoor.AX
open Go

def stepBad (M L : Int) (x : S69) : Bool := ((((((((decide (x.f0 < 0)) || (decide (x.f0 ≥ M))) || (decide (x.f1 < 1))) || (decide (x.f1 > 1000))) || (decide (x.f2 < 0))) || (decide (x.f2 > 9))) || (decide (x.f3 < 0))) || (decide (x.f3 > L)))
def stepOk (M L : Int) (x : S69) : Bool := !stepBad M L x
def headBad (j : S54) : Bool := ((((!nameR j.f0) || (decide (j.f1 < 0))) || (decide (j.f1 > 1000000))) || (decide ((j.f2.length : Int) < 1))) || (decide ((j.f2.length : Int) > 8))
def seenJ (pre : List S54) (nm : ByteArray) : Bool := pre.any fun k => k.f0.toList == nm.toList
def goJ (M L : Int) : List S54 → List S54 → Bool
  | _, [] => true
  | pre, j :: l => !headBad j && !seenJ pre j.f0 && j.f2.all (stepOk M L) && goJ M L (pre ++ [j]) l
def headerBad (M S L : Int) (n : Int) : Bool := ((((((decide (n > 20)) || (decide (M < 1))) || (decide (M > 6))) || (decide (S < 0))) || (decide (S > 1000))) || (decide (L < 1))) || (decide (L > 1000))
/-- A shop with its jobs is right. -/
def shopR (M S L : Int) (jobs : List S54) : Bool := !headerBad M S L jobs.length && goJ M L [] jobs

theorem getD_take {α : Type} {l : List α} {i k : Nat} {d : α} (h : k < i) (hi : i ≤ l.length) : (l.take i).getD k d = l.getD k d := by
  simp [List.getD, h]

theorem F38.l2_ok (M S L : Int) (mp : List S104) (jobs : List S54) (i : Nat) (h : (jobs.getD i z54).f2.length ≤ 100) : F38.l2 ((jobs.length : Int), (i : Int), (i : Int), ((jobs.getD i z54).f2.length : Int), 0, M, S, L, mp, jobs) =
    some (if (jobs.getD i z54).f2.all (stepOk M L) then .inr ((jobs.length : Int), (i : Int), M, S, L, mp, jobs) else .inl false) := by
  generalize hj : jobs.getD i z54 = j at h ⊢
  exact lim_scan (f := F38.l2.b) (fun k => ((jobs.length : Int), (i : Int), (i : Int), (j.f2.length : Int), (k : Int), M, S, L, mp, jobs)) j.f2 z69 (stepOk M L) (y := .inl false) (z := .inr ((jobs.length : Int), (i : Int), M, S, L, mp, jobs)) (fun k hk => by
    have d1 : decide ((k : Int) < (j.f2.length : Int)) = true := dT (by omega)
    have d2 : decide ((0 : Int) ≤ (k : Int)) = true := dT (by omega)
    have w : Go.IntKind.wrap .i64 ((k : Int) + 1) = ((k + 1 : Nat) : Int) := by rw [w64 (by omega) (by omega)]; rfl
    simp only [F38.l2.b, Int.toNat_natCast, hj, d1, d2, Bool.and_self, cT, w]
    unfold stepOk
    cases hb : stepBad M L (j.f2.getD k z69) with
    | true => unfold stepBad at hb; simp only [hb, cT, Bool.not_true, Bool.false_eq_true, if_false]
    | false => unfold stepBad at hb; simp only [hb, cF, Bool.not_false, if_true])
    (by
      have d1 : decide ((j.f2.length : Int) < (j.f2.length : Int)) = false := dF (by omega)
      simp only [F38.l2.b, d1, cF])

def mfT {E : Type} (d : E) (p : E → Bool) (l : List E) : E := (l.find? p).getD d
def mpT {E : Type} (p : E → Bool) (x : E) : List E → List E
  | [] => [x]
  | y :: r => bif p y then x :: r else y :: mpT p x r
theorem mfind_T (p : S104 → Bool) (l : List S104) : (mfind (U := uni) 14 p l : S104) = mfT z104 p l := rfl
theorem mput_T (p : S104 → Bool) (x : S104) : ∀ l : List S104, (mput (U := uni) 14 p x l : List S104) = mpT p x l
  | [] => rfl
  | y :: r => congrArg (fun t => bif p y then x :: r else y :: t) (mput_T p x r)

theorem mfT_cons {E : Type} (d : E) (p : E → Bool) (x : E) (r : List E) : mfT d p (x :: r) = if p x = true then x else mfT d p r := by
  unfold mfT
  rw [List.find?_cons]
  cases p x <;> rfl

theorem find_put (a b : List UInt8) (n : ByteArray) (hn : n.toList = b) (m : List S104) : (mfT z104 (fun (e : S104) => a == e.f0.toList) (mpT (fun (e : S104) => b == e.f0.toList) (⟨n, true⟩ : S104) m)).f1 = ((a == b) || (mfT z104 (fun (e : S104) => a == e.f0.toList) m).f1) := by
  induction m with
  | nil =>
    simp only [mpT, mfT_cons, hn]
    cases a == b <;> simp
  | cons y r ih =>
    simp only [mpT]
    cases hb : b == y.f0.toList with
    | true =>
      have hb' : b = y.f0.toList := by simpa using hb
      simp only [cond_true, mfT_cons, hn, ← hb']
      cases a == b <;> simp
    | false =>
      simp only [cond_false, mfT_cons]
      cases ha : a == y.f0.toList with
      | true =>
        have ha' : a = y.f0.toList := by simpa using ha
        have : (a == b) = false := by rw [ha']; rw [BEq.comm]; exact hb
        simp [this]
      | false => simpa using ih

theorem F38.l0_ok (M S L : Int) (jobs : List S54) (hl : jobs.length ≤ 1000) : ∀ (n i : Nat) (mp : List S104), i + n = jobs.length → (∀ nm : ByteArray, (mfT z104 (fun (e : S104) => nm.toList == e.f0.toList) mp).f1 = seenJ (jobs.take i) nm) →
    F38.l0 ((jobs.length : Int), (i : Int), M, S, L, mp, jobs) = some (bif goJ M L (jobs.take i) (jobs.drop i) then .inr () else .inl false)
  | 0, i, mp, hi, hm => by
    have d : decide ((i : Int) < (jobs.length : Int)) = false := dF (by omega)
    rw [List.drop_eq_nil_of_le (by omega)]
    unfold F38.l0
    exact lim_out (by simp only [F38.l0.b, d, cF, goJ, cT])
  | n + 1, i, mp, hi, hm => by
    have hlt : i < jobs.length := by omega
    have d : decide ((i : Int) < (jobs.length : Int)) = true := dT (by omega)
    have d2 : decide ((0 : Int) ≤ (i : Int)) = true := dT (by omega)
    have w : Go.IntKind.wrap .i64 ((i : Int) + 1) = ((i + 1 : Nat) : Int) := by rw [w64 (by omega) (by omega)]; rfl
    have l2 := fun mp h => F38.l2_ok M S L mp jobs i h
    rw [drop_cons hlt]
    have hg : jobs.getD i z54 = jobs[i] := getD_lt hlt
    have htk : jobs.take i ++ [jobs[i]] = jobs.take (i + 1) := by simp
    generalize hv : jobs[i] = j at hg htk ⊢
    rw [hg] at l2
    simp only [goJ]
    rw [htk]
    have hcond : ((((((!nameR j.f0) || (mfT z104 (fun (e : S104) => j.f0.toList == e.f0.toList) mp).f1) || (decide (j.f1 < 0))) || (decide (j.f1 > 1000000))) || (decide ((j.f2.length : Int) < 1))) || (decide ((j.f2.length : Int) > 8))) = !(!headBad j && !seenJ (jobs.take i) j.f0) := by
      rw [hm]
      unfold headBad
      cases nameR j.f0 <;> cases seenJ (jobs.take i) j.f0 <;> simp
    cases hc : (!headBad j && !seenJ (jobs.take i) j.f0) with
    | false =>
      rw [hc] at hcond
      unfold F38.l0
      exact lim_out (by simp only [F38.l0.b, d, d2, Bool.and_self, cT, Int.toNat_natCast, hg, F54.ok, bS, mfind_T, hcond, Bool.not_false, Bool.false_and, cF])
    | true =>
      rw [hc] at hcond
      have hlen : j.f2.length ≤ 8 := by
        have h1 : headBad j = false := by simp only [Bool.and_eq_true, Bool.not_eq_true'] at hc; exact hc.1
        unfold headBad at h1
        simp only [Bool.or_eq_false_iff, decide_eq_false_iff_not] at h1
        omega
      cases hs : j.f2.all (stepOk M L) with
      | false =>
        unfold F38.l0
        exact lim_out (by simp only [F38.l0.b, d, d2, Bool.and_self, cT, cF, Int.toNat_natCast, hg, F54.ok, bS, mfind_T, mput_T, hcond, Bool.not_true, l2 _ (show j.f2.length ≤ 100 by omega), hs, Bool.false_eq_true, if_false, Bool.true_and, Bool.false_and])
      | true =>
        rw [Bool.true_and, Bool.true_and]
        rw [← F38.l0_ok M S L jobs hl n (i + 1) (mpT (fun (e : S104) => (j.f0.toList == e.f0.toList)) (⟨j.f0, true⟩ : S104) mp) (by omega) (fun nm => by
          rw [find_put nm.toList j.f0.toList j.f0 rfl, hm nm, ← htk]
          unfold seenJ
          rw [List.any_append, Bool.or_comm]
          simp [BEq.comm])]
        unfold F38.l0
        exact lim_in (by simp only [F38.l0.b, d, d2, Bool.and_self, cT, cF, Int.toNat_natCast, hg, F54.ok, bS, mfind_T, mput_T, hcond, Bool.not_true, l2 _ (show j.f2.length ≤ 100 by omega), hs, if_true, w])

theorem F38.ok (M S L : Int) (jobs : List S54) : F38.F ((M, S, L), jobs) = some (shopR M S L jobs) := by
  unfold shopR
  cases hh : headerBad M S L jobs.length with
  | true => unfold headerBad at hh; simp only [F38.F, hh, cT, Bool.not_true, Bool.false_and]
  | false =>
    have hl : jobs.length ≤ 20 := by
      unfold headerBad at hh
      simp only [Bool.or_eq_false_iff, decide_eq_false_iff_not] at hh
      omega
    have e := F38.l0_ok M S L jobs (by omega) jobs.length 0 [] (by omega) (fun nm => rfl)
    rw [show ((0 : Nat) : Int) = 0 from rfl] at e
    simp only [List.take_zero, List.drop_zero] at e
    unfold headerBad at hh
    simp only [F38.F, hh, cF, e, bS, Bool.not_false, Bool.true_and]
    cases goJ M L [] jobs <;> rfl

theorem F51.ok (x lo hi : Int) : F51.F ((x :: []), (lo, hi)) = some (!((decide (x < lo)) || (decide (x > hi)))) := by
  have w : Go.IntKind.wrap .i64 (0 + 1) = 1 := by decide
  have d1 : decide ((0 : Int) < ((x :: ([] : List Int)).length : Int)) = true := dT (by simp)
  have d2 : decide ((1 : Int) < ((x :: ([] : List Int)).length : Int)) = false := dF (by simp)
  have d0 : decide ((0 : Int) ≤ 0) = true := rfl
  have g : (x :: ([] : List Int)).getD (Int.toNat 0) 0 = x := rfl
  cases h : ((decide (x < lo)) || (decide (x > hi))) with
  | true =>
    have e : F51.l0 (lo, hi, 0, x :: []) = some (.inl false) := by
      unfold F51.l0
      exact lim_out (by simp only [F51.l0.b, d1, d0, cT, Bool.and_self, Bool.or_true, g, h])
    simp only [F51.F, e, bS, Bool.not_true]
  | false =>
    have e : F51.l0 (lo, hi, 0, x :: []) = some (.inr ()) := by
      have : F51.l0 (lo, hi, 0, x :: []) = F51.l0 (lo, hi, 1, x :: []) := by
        unfold F51.l0
        exact lim_in (by simp only [F51.l0.b, d1, d0, cT, cF, Bool.and_self, Bool.or_true, g, h, w])
      rw [this]
      unfold F51.l0
      exact lim_out (by simp only [F51.l0.b, d2, cF])
    simp only [F51.F, e, bS, Bool.not_false]

theorem F32.l2_ok (M S L : Int) (nm : ByteArray) (due : Int) (jobs : List S54) (i : Nat) (hi : i ≤ jobs.length) (h : jobs.length ≤ 1000) : F32.l2 ((i : Int), 0, M, S, L, nm, due, (i : Int), jobs) =
    some (if (jobs.take i).all (fun k => !(k.f0.toList == nm.toList)) then .inr ((i : Int), M, S, L, nm, due, (i : Int), jobs) else .inl false) := by
  have hl : (jobs.take i).length = i := by simp; omega
  exact lim_scan (f := F32.l2.b) (fun k => ((i : Int), (k : Int), M, S, L, nm, due, (i : Int), jobs)) (jobs.take i) z54 (fun k => !(k.f0.toList == nm.toList)) (y := .inl false) (z := .inr ((i : Int), M, S, L, nm, due, (i : Int), jobs)) (fun k hk => by
    rw [hl] at hk
    have d1 : decide ((k : Int) < (i : Int)) = true := dT (by omega)
    have d2 : decide ((0 : Int) ≤ (k : Int)) = true := dT (by omega)
    have d3 : decide ((k : Int) < (jobs.length : Int)) = true := dT (by omega)
    have w : Go.IntKind.wrap .i64 ((k : Int) + 1) = ((k + 1 : Nat) : Int) := by rw [w64 (by omega) (by omega)]; rfl
    simp only [F32.l2.b, Int.toNat_natCast, d1, d2, d3, Bool.and_self, cT, w, getD_take hk hi]
    cases (jobs.getD k z54).f0.toList == nm.toList with
    | true => simp only [cT, Bool.not_true, Bool.false_eq_true, if_false]
    | false => simp only [cF, Bool.not_false, if_true])
    (by
      have d1 : decide (((jobs.take i).length : Int) < (i : Int)) = false := dF (by omega)
      simp only [F32.l2.b, d1, cF])

theorem F32.l4_ok (M S L : Int) (nm : ByteArray) (due : Int) (jobs : List S54) (i : Nat) (h : (jobs.getD i z54).f2.length ≤ 100) : F32.l4 ((i : Int), 0, M, S, L, nm, due, (i : Int), jobs) =
    some (if (jobs.getD i z54).f2.all (stepOk M L) then .inr ((i : Int), M, S, L, jobs) else .inl false) := by
  generalize hj : jobs.getD i z54 = j at h ⊢
  exact lim_scan (f := F32.l4.b) (fun k => ((i : Int), (k : Int), M, S, L, nm, due, (i : Int), jobs)) j.f2 z69 (stepOk M L) (y := .inl false) (z := .inr ((i : Int), M, S, L, jobs)) (fun k hk => by
    have d1 : decide ((k : Int) < (j.f2.length : Int)) = true := dT (by omega)
    have d2 : decide ((0 : Int) ≤ (k : Int)) = true := dT (by omega)
    have w : Go.IntKind.wrap .i64 ((k : Int) + 1) = ((k + 1 : Nat) : Int) := by rw [w64 (by omega) (by omega)]; rfl
    simp only [F32.l4.b, Int.toNat_natCast, hj, d1, d2, Bool.and_self, cT, w]
    unfold stepOk
    cases hb : stepBad M L (j.f2.getD k z69) with
    | true => unfold stepBad at hb; simp only [hb, cT, Bool.not_true, Bool.false_eq_true, if_false]
    | false => unfold stepBad at hb; simp only [hb, cF, Bool.not_false, if_true])
    (by
      have d1 : decide ((j.f2.length : Int) < (j.f2.length : Int)) = false := dF (by omega)
      simp only [F32.l4.b, Int.toNat_natCast, hj, d1, cF])

theorem F32.l0_ok (M S L : Int) (jobs : List S54) (hl : jobs.length ≤ 1000) : ∀ (n i : Nat), i + n = jobs.length →
    F32.l0 ((i : Int), M, S, L, jobs) = some (bif goJ M L (jobs.take i) (jobs.drop i) then .inr () else .inl false)
  | 0, i, hi => by
    have d : decide ((i : Int) < (jobs.length : Int)) = false := dF (by omega)
    rw [List.drop_eq_nil_of_le (by omega)]
    unfold F32.l0
    exact lim_out (by simp only [F32.l0.b, d, cF, goJ, cT])
  | n + 1, i, hi => by
    have hlt : i < jobs.length := by omega
    have d : decide ((i : Int) < (jobs.length : Int)) = true := dT (by omega)
    have d2 : decide ((0 : Int) ≤ (i : Int)) = true := dT (by omega)
    have w : Go.IntKind.wrap .i64 ((i : Int) + 1) = ((i + 1 : Nat) : Int) := by rw [w64 (by omega) (by omega)]; rfl
    have l4 := fun nm due h => F32.l4_ok M S L nm due jobs i h
    have l2 := fun nm due => F32.l2_ok M S L nm due jobs i (by omega) hl
    rw [drop_cons hlt]
    have hg : jobs.getD i z54 = jobs[i] := getD_lt hlt
    have htk : jobs.take i ++ [jobs[i]] = jobs.take (i + 1) := by simp
    generalize hv : jobs[i] = j at hg htk ⊢
    rw [hg] at l4
    simp only [goJ]
    rw [htk]
    cases hc : headBad j with
    | true =>
      have hc' := hc
      unfold headBad at hc'
      unfold F32.l0
      exact lim_out (by simp only [F32.l0.b, d, d2, Bool.and_self, cT, Int.toNat_natCast, hg, F52.ok, bS, hc', Bool.not_true, Bool.false_and, cF])
    | false =>
      have hc' := hc
      unfold headBad at hc'
      have hlen : j.f2.length ≤ 8 := by
        have h1 := hc'
        simp only [Bool.or_eq_false_iff, decide_eq_false_iff_not] at h1
        omega
      have hse : (jobs.take i).all (fun k => !(k.f0.toList == j.f0.toList)) = !seenJ (jobs.take i) j.f0 := by
        unfold seenJ
        rw [List.not_any_eq_all_not]
      have e2 := l2 j.f0 j.f1
      rw [hse] at e2
      cases hs : seenJ (jobs.take i) j.f0 with
      | true =>
        rw [hs, Bool.not_true, if_neg (by decide)] at e2
        unfold F32.l0
        exact lim_out (by simp only [F32.l0.b, d, d2, Bool.and_self, cT, cF, Int.toNat_natCast, hg, F52.ok, bS, hc', e2, Bool.not_true, Bool.not_false, Bool.false_and, Bool.and_false])
      | false =>
        rw [hs, Bool.not_false, if_pos rfl] at e2
        have e4 := l4 j.f0 j.f1 (by omega)
        cases hst : j.f2.all (stepOk M L) with
        | false =>
          rw [hst, if_neg (by decide)] at e4
          unfold F32.l0
          exact lim_out (by simp only [F32.l0.b, d, d2, Bool.and_self, cT, cF, Int.toNat_natCast, hg, F52.ok, bS, hc', e2, e4, Bool.not_false, Bool.true_and, Bool.false_and])
        | true =>
          rw [hst, if_pos rfl] at e4
          simp only [Bool.not_false, Bool.true_and]
          rw [← F32.l0_ok M S L jobs hl n (i + 1) (by omega)]
          unfold F32.l0
          exact lim_in (by simp only [F32.l0.b, d, d2, Bool.and_self, cT, cF, Int.toNat_natCast, hg, F52.ok, bS, hc', e2, e4, w])

theorem F32.ok (M S L : Int) (jobs : List S54) : F32.F ((M, S, L), jobs) = some (shopR M S L jobs) := by
  have e1 := F51.ok S 0 1000
  have e2 := F51.ok L 1 1000
  have hh : headerBad M S L jobs.length = ((((decide (M < 1)) || (decide (M > 6))) || ((decide (S < 0)) || (decide (S > 1000)))) || ((decide (L < 1)) || (decide (L > 1000))) || (decide ((jobs.length : Int) > 20))) := by
    unfold headerBad
    generalize decide ((jobs.length : Int) > 20) = a
    generalize decide (M < 1) = b
    generalize decide (M > 6) = c
    generalize decide (S < 0) = d
    generalize decide (S > 1000) = e
    generalize decide (L < 1) = f
    generalize decide (L > 1000) = g
    cases a <;> cases b <;> cases c <;> cases d <;> cases e <;> cases f <;> cases g <;> rfl
  unfold shopR
  rw [hh]
  have e0 : jobs.length ≤ 20 → F32.l0 (0, M, S, L, jobs) = some (bif goJ M L [] jobs then .inr () else .inl false) := fun h => F32.l0_ok M S L jobs (by omega) jobs.length 0 (by omega)
  cases h1 : ((decide (M < 1)) || (decide (M > 6))) with
  | true => simp only [F32.F, h1, e1, e2, Bool.not_true, cF, cT, bS, Bool.true_or, Bool.or_true, Bool.false_and]
  | false =>
    cases h2 : ((decide (S < 0)) || (decide (S > 1000))) with
    | true =>
      rw [h2] at e1
      simp only [F32.F, h1, e1, e2, Bool.not_true, Bool.not_false, cF, cT, bS, Bool.true_or, Bool.or_true, Bool.false_or, Bool.false_and]
    | false =>
      rw [h2] at e1
      cases h3 : ((decide (L < 1)) || (decide (L > 1000))) with
      | true =>
        rw [h3] at e2
        simp only [F32.F, h1, e1, e2, Bool.not_true, Bool.not_false, cF, cT, bS, Bool.true_or, Bool.or_true, Bool.false_or, Bool.false_and]
      | false =>
        rw [h3] at e2
        cases h4 : decide ((jobs.length : Int) > 20) with
        | true => simp only [F32.F, h1, e1, e2, h4, Bool.not_true, Bool.not_false, cF, cT, bS, Bool.true_or, Bool.or_true, Bool.false_or, Bool.false_and]
        | false =>
          have hl : jobs.length ≤ 20 := by have := of_decide_eq_false h4; omega
          simp only [F32.F, h1, e1, e2, h4, e0 hl, Bool.not_true, Bool.not_false, cF, cT, bS, Bool.or_self, Bool.false_or, Bool.true_and]
          cases goJ M L [] jobs <;> rfl

end Go.Proofs.YtchohkelpjfpcaaDoor.AX

/- Plans: machines, the next step. No conditions. -/
namespace Go.Proofs.YtchohkelpjfpcaaDoor.AX
open Go

structure ShopOk (M S L : Int) (jobs : List S54) : Prop where
  m1 : 1 ≤ M
  m2 : M ≤ 6
  s1 : 0 ≤ S
  s2 : S ≤ 1000
  l1 : 1 ≤ L
  l2 : L ≤ 1000
  n : jobs.length ≤ 20
  job : ∀ j ∈ jobs, 1 ≤ j.f2.length ∧ j.f2.length ≤ 8 ∧ 0 ≤ j.f1 ∧ j.f1 ≤ 1000000 ∧ ∀ x ∈ j.f2, 0 ≤ x.f0 ∧ x.f0 < M ∧ 1 ≤ x.f1 ∧ x.f1 ≤ 1000 ∧ 0 ≤ x.f2 ∧ x.f2 ≤ 9 ∧ 0 ≤ x.f3 ∧ x.f3 ≤ L

theorem goJ_ok {M L : Int} : ∀ {l pre : List S54}, goJ M L pre l = true → ∀ j ∈ l, 1 ≤ j.f2.length ∧ j.f2.length ≤ 8 ∧ 0 ≤ j.f1 ∧ j.f1 ≤ 1000000 ∧ ∀ x ∈ j.f2, 0 ≤ x.f0 ∧ x.f0 < M ∧ 1 ≤ x.f1 ∧ x.f1 ≤ 1000 ∧ 0 ≤ x.f2 ∧ x.f2 ≤ 9 ∧ 0 ≤ x.f3 ∧ x.f3 ≤ L
  | [], _, _, j, hj => by simp at hj
  | k :: l, pre, h, j, hj => by
    simp only [goJ, Bool.and_eq_true, Bool.not_eq_true'] at h
    obtain ⟨⟨⟨h1, _⟩, h3⟩, h4⟩ := h
    rcases List.mem_cons.1 hj with rfl | hj
    · unfold headBad at h1
      simp only [Bool.or_eq_false_iff, decide_eq_false_iff_not] at h1
      refine ⟨by omega, by omega, by omega, by omega, fun x hx => ?_⟩
      have := List.all_eq_true.1 h3 x hx
      unfold stepOk stepBad at this
      simp only [Bool.not_eq_true', Bool.or_eq_false_iff, decide_eq_false_iff_not] at this
      omega
    · exact goJ_ok h4 j hj

theorem shop_ok {M S L : Int} {jobs : List S54} (h : shopR M S L jobs = true) : ShopOk M S L jobs := by
  unfold shopR at h
  rw [Bool.and_eq_true, Bool.not_eq_true'] at h
  obtain ⟨h1, h2⟩ := h
  unfold headerBad at h1
  simp only [Bool.or_eq_false_iff, decide_eq_false_iff_not] at h1
  exact ⟨by omega, by omega, by omega, by omega, by omega, by omega, by omega, goJ_ok h2⟩

abbrev m0 : S71 := ⟨0, -1, 0⟩
def m85 (x : S71) : S85 := ⟨x.f0, x.f1, x.f2⟩

theorem F33.ok {M : Int} (h : 0 ≤ M) (h2 : M ≤ 100) : F33.F M = some (List.replicate M.toNat m0) := by
  have := lim_run (f := F33.l0.b) (fun i => (M, (i : Int), List.replicate i m0)) M.toNat (y := List.replicate M.toNat m0) (fun i hi => by
    have d1 : decide ((i : Int) < M) = true := dT (by omega)
    have d2 : decide (((List.length (List.replicate i m0)) + (List.length ((⟨0, (-1), 0⟩ : S71) :: []))) ≤ 274877906944) = true := dT (by simp; omega)
    have w : Go.IntKind.wrap .i64 ((i : Int) + 1) = ((i + 1 : Nat) : Int) := by rw [w64 (by omega) (by omega)]; rfl
    simp only [F33.l0.b, d1, d2, cT, w]
    rw [show List.replicate i m0 ++ (⟨0, (-1), 0⟩ : S71) :: [] = List.replicate (i + 1) m0 from by rw [List.replicate_succ']])
    (by
      have d1 : decide ((M.toNat : Int) < M) = false := dF (by omega)
      simp only [F33.l0.b, d1, cF])
  simp only [F33.F]
  have e : F33.l0 (M, 0, ([] : List S71)) = some (List.replicate M.toNat m0) := this
  rw [e, bS]

theorem F39.ok {M : Int} (h : 0 ≤ M) (h2 : M ≤ 100) : F39.F M = some ((List.replicate M.toNat m0).map m85) := by
  have := lim_run (f := F39.l0.b) (fun i => ((M.toNat : Int), (i : Int), upTo m85 z85 (List.replicate M.toNat m0) i)) M.toNat (y := (List.replicate M.toNat m0).map m85) (fun i hi => by
    have hl : (upTo m85 z85 (List.replicate M.toNat m0) i).length = M.toNat := by rw [upTo_len (by simp; omega)]; simp
    have d1 : decide ((i : Int) < (M.toNat : Int)) = true := dT (by omega)
    have d2 : decide ((0 : Int) ≤ (i : Int)) = true := dT (by omega)
    have d3 : decide ((i : Int) < ((upTo m85 z85 (List.replicate M.toNat m0) i).length : Int)) = true := dT (by omega)
    have w : Go.IntKind.wrap .i64 ((i : Int) + 1) = ((i + 1 : Nat) : Int) := by rw [w64 (by omega) (by omega)]; rfl
    have e := upTo_set (c := m85) (z := z85) (d := m0) (l := List.replicate M.toNat m0) (i := i) (by rw [List.length_replicate]; exact hi)
    have g : (upTo m85 z85 (List.replicate M.toNat m0) i).getD i z85 = z85 := by
      have hlen : (((List.replicate M.toNat m0).take i).map m85).length = i := by simp; omega
      unfold upTo
      rw [List.getD, List.getElem?_append_right (by omega), hlen, Nat.sub_self]
      rw [List.length_replicate, List.getElem?_replicate, if_pos (by omega)]
      rfl
    simp only [F39.l0.b, d1, d2, d3, Bool.and_self, cT, w, Int.toNat_natCast, g]
    rw [← e]
    simp only [Option.some.injEq, Sum.inl.injEq, Prod.mk.injEq, true_and]
    congr 1
    rw [getD_lt (by rw [List.length_replicate]; exact hi)]
    simp [m85, z85])
    (by
      have d1 : decide ((M.toNat : Int) < (M.toNat : Int)) = false := dF (by omega)
      have hl : (List.replicate M.toNat m0).length = M.toNat := by simp
      simp only [F39.l0.b, d1, cF]
      rw [show upTo m85 z85 (List.replicate M.toNat m0) M.toNat = (List.replicate M.toNat m0).map m85 by have := upTo_all (c := m85) (z := z85) (l := List.replicate M.toNat m0); rwa [hl] at this])
  have d0 : (((decide (0 ≤ M)) && (decide (M ≤ M))) && (decide (M ≤ 274877906944))) = true := by simp; omega
  simp only [F39.F, d0, cT, List.length_replicate]
  have e : F39.l0 ((M.toNat : Int), 0, List.replicate M.toNat z85) = some ((List.replicate M.toNat m0).map m85) := by
    have h0 : upTo m85 z85 (List.replicate M.toNat m0) 0 = List.replicate M.toNat z85 := by simp [upTo]
    rw [← h0]; exact this
  rw [e, bS]

def freshR (L : Int) (x : S71) (t : S69) : Bool := (x.f1 != t.f2) || (decide ((Go.IntKind.wrap .i64 (x.f2 + t.f3)) > L))
def wearR (x : S71) (t : S69) (fresh : Bool) : Int := Go.IntKind.wrap .i64 ((if fresh = true then 0 else x.f2) + t.f3)

theorem F34.ok (x : S71) (t : S69) (L : Int) : F34.F ((x.f0, x.f1, x.f2), (t.f0, t.f1, t.f2, t.f3), L) = some (freshR L x t) := rfl
theorem F35.ok (x : S71) (t : S69) (fresh : Bool) (to : Int) : F35.F ((x.f0, x.f1, x.f2), (t.f0, t.f1, t.f2, t.f3), fresh, to) = some ((if to > x.f0 then to else x.f0), t.f2, wearR x t fresh) := by
  unfold wearR
  cases fresh <;> simp only [F35.F, F35.t3, cT, cF, bS] <;> rfl

theorem F40.ok (ms : List S71) (i M S L : Int) (t : S69) (hi : i.toNat < ms.length) : F40.F ((ms.map m85, i), (M, S, L), (t.f0, t.f1, t.f2, t.f3)) =
    some (freshR L (ms.getD i.toNat z71) t, ((ms.set i.toNat ⟨(ms.getD i.toNat z71).f0, t.f2, wearR (ms.getD i.toNat z71) t (freshR L (ms.getD i.toNat z71) t)⟩).map m85, ())) := by
  have g : (ms.map m85).getD i.toNat z85 = m85 (ms.getD i.toNat z71) := by rw [getD_lt (by simpa using hi), getD_lt hi]; simp
  generalize hx : ms.getD i.toNat z71 = x at g ⊢
  have hm : ∀ y : S71, (ms.map m85).set i.toNat (m85 y) = (ms.set i.toNat y).map m85 := fun y => by rw [List.map_set]
  have hl : i.toNat < (ms.map m85).length := by simpa using hi
  have hfr : ((((m85 x).f1 != t.f2)) || (decide ((Go.IntKind.wrap .i64 ((m85 x).f2 + t.f3)) > L))) = freshR L x t := rfl
  have gs : ∀ (l : List S85) (y : S85), l.length = (ms.map m85).length → (l.set i.toNat y).getD i.toNat z85 = y := fun l y h => getD_set (by omega)
  simp only [F40.F, F40.t4, g]
  rw [hfr]
  cases hf : freshR L x t with
  | true =>
    simp only [cT, bS]
    rw [gs _ _ rfl]
    simp only [List.set_set]
    rw [gs _ _ rfl, ← hm]
    rfl
  | false =>
    simp only [cF, bS, g]
    simp only [List.set_set]
    rw [gs _ _ rfl, ← hm]
    rfl

end Go.Proofs.YtchohkelpjfpcaaDoor.AX

/- Plans: the next step. No conditions. -/
namespace Go.Proofs.YtchohkelpjfpcaaDoor.AX
open Go

def lenJ (jobs : List S54) (i : Nat) : Int := ((jobs.getD i z54).f2.length : Int)
def stepJ (jobs : List S54) (nx : List Int) (i : Nat) : S69 := (jobs.getD i z54).f2.getD (nx.getD i 0).toNat z69
def timeJ (jobs : List S54) (ms : List S71) (nx en : List Int) (i : Nat) : Int := if (ms.getD (stepJ jobs nx i).f0.toNat z71).f0 > en.getD i 0 then (ms.getD (stepJ jobs nx i).f0.toNat z71).f0 else en.getD i 0
def pickStep (jobs : List S54) (ms : List S71) (nx en : List Int) (i : Nat) (a : Int × Int) : Int × Int :=
  if nx.getD i 0 = lenJ jobs i then a
  else if ((decide (a.1 < 0) || decide (timeJ jobs ms nx en i < a.2)) || ((timeJ jobs ms nx en i == a.2) && decide ((jobs.getD i z54).f1 < (jobs.getD a.1.toNat z54).f1))) = true then ((i : Int), timeJ jobs ms nx en i) else a
def pickJ (jobs : List S54) (ms : List S71) (nx en : List Int) : Int × Int := (List.range jobs.length).foldl (fun a i => pickStep jobs ms nx en i a) (-1, 0)

/-- A state of planning: sizes, bounds. -/
structure SInv (M S L : Int) (jobs : List S54) (B : Int) (ms : List S71) (nx en : List Int) : Prop where
  ok : ShopOk M S L jobs
  lm : ms.length = M.toNat
  ln : nx.length = jobs.length
  le : en.length = jobs.length
  nx : ∀ i, i < jobs.length → 0 ≤ nx.getD i 0 ∧ nx.getD i 0 ≤ lenJ jobs i
  bm : ∀ i, i < ms.length → 0 ≤ (ms.getD i z71).f0 ∧ (ms.getD i z71).f0 ≤ B
  be : ∀ i, i < jobs.length → 0 ≤ en.getD i 0 ∧ en.getD i 0 ≤ B

section
variable {M S L B : Int} {jobs : List S54} {ms : List S71} {nx en : List Int} {out : List S56}

theorem SInv.step (h : SInv M S L jobs B ms nx en) {i : Nat} (hi : i < jobs.length) (hn : nx.getD i 0 ≠ lenJ jobs i) :
    0 ≤ nx.getD i 0 ∧ nx.getD i 0 < lenJ jobs i ∧ 0 ≤ (stepJ jobs nx i).f0 ∧ (stepJ jobs nx i).f0.toNat < ms.length ∧ (stepJ jobs nx i).f0 < ms.length ∧ 1 ≤ (stepJ jobs nx i).f1 ∧ (stepJ jobs nx i).f1 ≤ 1000 := by
  have h1 := h.nx i hi
  have hj := h.ok.job (jobs.getD i z54) (by rw [getD_lt hi]; exact List.getElem_mem hi)
  have hlt : nx.getD i 0 < lenJ jobs i := by omega
  have hx := hj.2.2.2.2 (stepJ jobs nx i) (by
    unfold lenJ at hlt
    have e := getD_lt (l := (jobs.getD i z54).f2) (d := z69) (i := (nx.getD i 0).toNat) (by omega)
    unfold stepJ; rw [e]; exact List.getElem_mem _)
  have := h.lm
  have := h.ok.m1
  refine ⟨h1.1, hlt, hx.1, by omega, by omega, hx.2.2.1, hx.2.2.2.1⟩

def PickInv (jobs : List S54) (ms : List S71) (nx en : List Int) (a : Int × Int) : Prop := -1 ≤ a.1 ∧ a.1 < jobs.length ∧ (0 ≤ a.1 → nx.getD a.1.toNat 0 ≠ lenJ jobs a.1.toNat ∧ a.2 = timeJ jobs ms nx en a.1.toNat)

theorem pick_inv {i : Nat} (hi : i < jobs.length) {a : Int × Int} (h : PickInv jobs ms nx en a) : PickInv jobs ms nx en (pickStep jobs ms nx en i a) := by
  unfold pickStep
  split
  · exact h
  · rename_i hn
    split
    · refine ⟨by show -1 ≤ (i : Int); omega, by show (i : Int) < _; omega, fun _ => ?_⟩
      show nx.getD (i : Int).toNat 0 ≠ lenJ jobs (i : Int).toNat ∧ timeJ jobs ms nx en i = timeJ jobs ms nx en (i : Int).toNat
      rw [Int.toNat_natCast]
      exact ⟨hn, rfl⟩
    · exact h

theorem pick_fin (jobs : List S54) (ms : List S71) (nx en : List Int) : PickInv jobs ms nx en (pickJ jobs ms nx en) := by
  unfold pickJ
  have : ∀ (l : List Nat) (a : Int × Int), (∀ i ∈ l, i < jobs.length) → PickInv jobs ms nx en a → PickInv jobs ms nx en (l.foldl (fun a i => pickStep jobs ms nx en i a) a) := by
    intro l
    induction l with
    | nil => intro a _ h; exact h
    | cons i l ih => intro a hl h; exact ih _ (fun j hj => hl j (by simp [hj])) (pick_inv (hl i (by simp)) h)
  exact this _ _ (fun i hi => List.mem_range.1 hi) ⟨by decide, by show (-1 : Int) < _; omega, fun h => absurd h (by decide)⟩

theorem range_at {n i : Nat} (h : i < n) : (List.range n).getD i 0 = i := by rw [getD_lt (by simpa using h)]; simp

theorem F16.l2_ok (h : SInv M S L jobs B ms nx en) : F16.l2 (-1, 0, 0, M, S, L, jobs, ms, nx, en, out) = some ((pickJ jobs ms nx en).1, (pickJ jobs ms nx en).2, M, S, L, jobs, ms, nx, en, out) :=
  lim_fold (f := F16.l2.b) (fun i (a : Int × Int) => (a.1, a.2, (i : Int), M, S, L, jobs, ms, nx, en, out)) (List.range jobs.length) 0 (fun a i => pickStep jobs ms nx en i a) (PickInv jobs ms nx en) (z := fun q => (q.1, q.2, M, S, L, jobs, ms, nx, en, out)) (-1, 0) ⟨by decide, by show (-1 : Int) < _; omega, fun h => absurd h (by decide)⟩
    (fun a i hi ha => by rw [List.length_range] at hi; rw [range_at hi]; exact pick_inv hi ha) (fun i a hi ha => by
    rw [List.length_range] at hi
    rw [range_at hi]
    have hn20 := h.ok.n
    have := h.ln
    have := h.le
    obtain ⟨a1, a2⟩ := a
    dsimp only
    have d1 : decide ((i : Int) < (jobs.length : Int)) = true := dT (by omega)
    have d2 : decide ((0 : Int) ≤ (i : Int)) = true := dT (by omega)
    have d3 : decide ((i : Int) < (nx.length : Int)) = true := dT (by omega)
    have d4 : decide ((i : Int) < (en.length : Int)) = true := dT (by omega)
    have w : Go.IntKind.wrap .i64 ((i : Int) + 1) = ((i + 1 : Nat) : Int) := by rw [w64 (by omega) (by omega)]; rfl
    unfold pickStep
    by_cases hn : nx.getD i 0 = lenJ jobs i
    · rw [if_pos hn]
      have e : (nx.getD i 0 == ((jobs.getD i z54).f2.length : Int)) = true := qT hn
      simp only [F16.l2.b, d1, d2, d3, Bool.and_self, cT, Int.toNat_natCast, e, w]
    · rw [if_neg hn]
      have e : (nx.getD i 0 == ((jobs.getD i z54).f2.length : Int)) = false := qF hn
      obtain ⟨s1, s2, s3, s4, s5, _, _⟩ := h.step hi hn
      have d5 : decide (0 ≤ nx.getD i 0) = true := dT s1
      have d6 : decide (nx.getD i 0 < ((jobs.getD i z54).f2.length : Int)) = true := dT s2
      have d7 : decide (0 ≤ ((jobs.getD i z54).f2.getD (nx.getD i 0).toNat z69).f0) = true := dT s3
      have d8 : decide (((jobs.getD i z54).f2.getD (nx.getD i 0).toNat z69).f0 < (ms.length : Int)) = true := dT s5
      have ht : (if (ms.getD ((jobs.getD i z54).f2.getD (nx.getD i 0).toNat z69).f0.toNat z71).f0 > en.getD i 0 then (ms.getD ((jobs.getD i z54).f2.getD (nx.getD i 0).toNat z69).f0.toNat z71).f0 else en.getD i 0) = timeJ jobs ms nx en i := rfl
      have ht2 : (!((!(decide (a1 < 0) || decide (timeJ jobs ms nx en i < a2))) && (timeJ jobs ms nx en i == a2)) || (decide (0 ≤ a1) && decide (a1 < (jobs.length : Int)))) = true := by
        cases hb : (decide (a1 < 0) || decide (timeJ jobs ms nx en i < a2)) with
        | true => rfl
        | false =>
          simp only [Bool.or_eq_false_iff, decide_eq_false_iff_not] at hb
          rw [dT (show 0 ≤ a1 by omega), dT (show a1 < (jobs.length : Int) from ha.2.1)]
          simp
      have hb : ∀ b : Bool, (b || true) = true := fun b => by simp
      cases hc : ((decide (a1 < 0) || decide (timeJ jobs ms nx en i < a2)) || ((timeJ jobs ms nx en i == a2) && decide ((jobs.getD i z54).f1 < (jobs.getD a1.toNat z54).f1))) with
      | true => simp only [F16.l2.b, d1, d2, d3, d4, d5, d6, d7, d8, Bool.and_self, cT, cF, Int.toNat_natCast, e, w, ht, hb, ht2, hc, if_true]
      | false => simp only [F16.l2.b, d1, d2, d3, d4, d5, d6, d7, d8, Bool.and_self, cT, cF, Int.toNat_natCast, e, w, ht, hb, ht2, hc, Bool.false_eq_true, if_false])
    (fun a ha => by
      rw [List.length_range]
      have d1 : decide ((jobs.length : Int) < (jobs.length : Int)) = false := dF (by omega)
      simp only [F16.l2.b, d1, cF])

theorem at85 {i : Nat} (h : i < ms.length) : (ms.map m85).getD i z85 = m85 (ms.getD i z71) := by rw [getD_lt (by simpa using h), getD_lt h]; simp

theorem F17.l2_ok (h : SInv M S L jobs B ms nx en) : F17.l2 (-1, 0, (jobs.length : Int), 0, M, S, L, jobs, ms.map m85, nx, en, out) = some ((pickJ jobs ms nx en).1, (pickJ jobs ms nx en).2, M, S, L, jobs, ms.map m85, nx, en, out) :=
  lim_fold (f := F17.l2.b) (fun i (a : Int × Int) => (a.1, a.2, (jobs.length : Int), (i : Int), M, S, L, jobs, ms.map m85, nx, en, out)) (List.range jobs.length) 0 (fun a i => pickStep jobs ms nx en i a) (PickInv jobs ms nx en) (z := fun q => (q.1, q.2, M, S, L, jobs, ms.map m85, nx, en, out)) (-1, 0) ⟨by decide, by show (-1 : Int) < _; omega, fun h => absurd h (by decide)⟩
    (fun a i hi ha => by rw [List.length_range] at hi; rw [range_at hi]; exact pick_inv hi ha) (fun i a hi ha => by
    rw [List.length_range] at hi
    rw [range_at hi]
    have hn20 := h.ok.n
    have := h.ln
    have := h.le
    obtain ⟨a1, a2⟩ := a
    dsimp only
    have d1 : decide ((i : Int) < (jobs.length : Int)) = true := dT (by omega)
    have d2 : decide ((0 : Int) ≤ (i : Int)) = true := dT (by omega)
    have d3 : decide ((i : Int) < (nx.length : Int)) = true := dT (by omega)
    have d4 : decide ((i : Int) < (en.length : Int)) = true := dT (by omega)
    have w : Go.IntKind.wrap .i64 ((i : Int) + 1) = ((i + 1 : Nat) : Int) := by rw [w64 (by omega) (by omega)]; rfl
    unfold pickStep
    by_cases hn : nx.getD i 0 = lenJ jobs i
    · rw [if_pos hn]
      have e : (nx.getD i 0 == ((jobs.getD i z54).f2.length : Int)) = true := qT hn
      simp only [F17.l2.b, d1, d2, d3, Bool.and_self, cT, Int.toNat_natCast, e, w]
    · rw [if_neg hn]
      have e : (nx.getD i 0 == ((jobs.getD i z54).f2.length : Int)) = false := qF hn
      obtain ⟨s1, s2, s3, s4, s5, _, _⟩ := h.step hi hn
      have d5 : decide (0 ≤ nx.getD i 0) = true := dT s1
      have d6 : decide (nx.getD i 0 < ((jobs.getD i z54).f2.length : Int)) = true := dT s2
      have d7 : decide (0 ≤ ((jobs.getD i z54).f2.getD (nx.getD i 0).toNat z69).f0) = true := dT s3
      have d8 : decide (((jobs.getD i z54).f2.getD (nx.getD i 0).toNat z69).f0 < ((ms.map m85).length : Int)) = true := dT (by rw [List.length_map]; exact s5)
      have g : (ms.map m85).getD ((jobs.getD i z54).f2.getD (nx.getD i 0).toNat z69).f0.toNat z85 = m85 (ms.getD ((jobs.getD i z54).f2.getD (nx.getD i 0).toNat z69).f0.toNat z71) := at85 s4
      have ht : (if (m85 (ms.getD ((jobs.getD i z54).f2.getD (nx.getD i 0).toNat z69).f0.toNat z71)).f0 > en.getD i 0 then (m85 (ms.getD ((jobs.getD i z54).f2.getD (nx.getD i 0).toNat z69).f0.toNat z71)).f0 else en.getD i 0) = timeJ jobs ms nx en i := rfl
      have ht2 : (!((!(decide (a1 < 0) || decide (timeJ jobs ms nx en i < a2))) && (timeJ jobs ms nx en i == a2)) || (decide (0 ≤ a1) && decide (a1 < (jobs.length : Int)))) = true := by
        cases hb : (decide (a1 < 0) || decide (timeJ jobs ms nx en i < a2)) with
        | true => rfl
        | false =>
          simp only [Bool.or_eq_false_iff, decide_eq_false_iff_not] at hb
          rw [dT (show 0 ≤ a1 by omega), dT (show a1 < (jobs.length : Int) from ha.2.1)]
          simp
      cases hc : ((decide (a1 < 0) || decide (timeJ jobs ms nx en i < a2)) || ((timeJ jobs ms nx en i == a2) && decide ((jobs.getD i z54).f1 < (jobs.getD a1.toNat z54).f1))) with
      | true => simp only [F17.l2.b, d1, d2, d3, d4, d5, d6, d7, d8, Bool.and_self, cT, cF, Int.toNat_natCast, e, w, g, ht, ht2, hc, if_true]
      | false => simp only [F17.l2.b, d1, d2, d3, d4, d5, d6, d7, d8, Bool.and_self, cT, cF, Int.toNat_natCast, e, w, g, ht, ht2, hc, Bool.false_eq_true, if_false])
    (fun a ha => by
      rw [List.length_range]
      have d1 : decide ((jobs.length : Int) < (jobs.length : Int)) = false := dF (by omega)
      simp only [F17.l2.b, d1, cF])
end

end Go.Proofs.YtchohkelpjfpcaaDoor.AX

/- Plans: the program and its reference agree. No conditions. -/
namespace Go.Proofs.YtchohkelpjfpcaaDoor.AX
open Go

def sumI : List Int → Int
  | [] => 0
  | x :: l => x + sumI l
theorem sumI_set : ∀ {l : List Int} {i : Nat} {v : Int}, i < l.length → sumI (l.set i v) = sumI l - l.getD i 0 + v
  | [], _, _, h => by simp at h
  | x :: l, 0, v, _ => by simp [sumI, List.getD]; omega
  | x :: l, i + 1, v, h => by
    simp only [List.set_cons_succ, sumI, List.getD_cons_succ]
    rw [sumI_set (by simpa using h)]; omega
theorem sumI_le {c : Int} : ∀ {l : List Int}, (∀ i, i < l.length → 0 ≤ l.getD i 0 ∧ l.getD i 0 ≤ c) → 0 ≤ sumI l ∧ sumI l ≤ c * l.length
  | [], _ => by simp [sumI]
  | x :: l, h => by
    have h0 := h 0 (by simp)
    have ih := sumI_le (l := l) (fun i hi => by have := h (i + 1) (by simpa using hi); simpa using this)
    have e : (x :: l).getD 0 0 = x := rfl
    rw [e] at h0
    simp only [sumI, List.length_cons]
    have : c * ((l.length + 1 : Nat) : Int) = c * l.length + c := by rw [Int.natCast_add, Int.mul_add]; simp
    omega

def toR (S from' : Int) (x : S69) (fr : Bool) : Int := bif fr then Go.IntKind.wrap .i64 (Go.IntKind.wrap .i64 (from' + x.f1) + S) else Go.IntKind.wrap .i64 (from' + x.f1)
def planR (jobs : List S54) (S L : Int) : Nat → List S71 → List Int → List Int → List S56 → List S56
  | 0, _, _, _, out => out
  | f + 1, ms, nx, en, out =>
    let a := pickJ jobs ms nx en
    if a.1 < 0 then out
    else
      let i := a.1.toNat
      let x := stepJ jobs nx i
      let m := ms.getD x.f0.toNat z71
      let fr := freshR L m x
      let to := toR S a.2 x fr
      planR jobs S L f (ms.set x.f0.toNat ⟨to, x.f2, wearR m x fr⟩) (nx.set i (nx.getD i 0 + 1)) (en.set i to) (out ++ [⟨a.1, nx.getD i 0, x.f0, a.2, to, fr⟩])

theorem getD_set_ne {α : Type} {l : List α} {i j : Nat} {v d : α} (h : i ≠ j) : (l.set i v).getD j d = l.getD j d := by
  simp [List.getD, List.getElem?_set_ne h]
theorem getD_set_cases {α : Type} {l : List α} {i j : Nat} {v d : α} (P : α → Prop) (hv : P v) (hl : P (l.getD j d)) : P ((l.set i v).getD j d) := by
  by_cases e : i = j
  · subst e
    by_cases h : i < l.length
    · rw [getD_set h]; exact hv
    · rw [List.set_eq_of_length_le (by omega)]; exact hl
  · rw [getD_set_ne e]; exact hl

section
variable {M S L : Int} {jobs : List S54}

theorem inv_next {B from' : Int} {ms : List S71} {nx en : List Int} (h : SInv M S L jobs B ms nx en) {i : Nat} (hi : i < jobs.length) (hn : nx.getD i 0 ≠ lenJ jobs i) (hB : 0 ≤ B) (hB2 : B ≤ 1000000) (hf : 0 ≤ from') (hf2 : from' ≤ B) {m : S71} (hm : m.f0 = toR S from' (stepJ jobs nx i) (freshR L (ms.getD (stepJ jobs nx i).f0.toNat z71) (stepJ jobs nx i))) :
    from' ≤ m.f0 ∧ m.f0 ≤ B + 2000 ∧ SInv M S L jobs (B + 2000) (ms.set (stepJ jobs nx i).f0.toNat m) (nx.set i (nx.getD i 0 + 1)) (en.set i m.f0) := by
  obtain ⟨s1, s2, s3, s4, s5, s6, s7⟩ := h.step hi hn
  have hs1 := h.ok.s1
  have hs2 := h.ok.s2
  have hto : from' ≤ m.f0 ∧ m.f0 ≤ B + 2000 := by
    rw [hm]
    unfold toR
    have w1 : Go.IntKind.wrap .i64 (from' + (stepJ jobs nx i).f1) = from' + (stepJ jobs nx i).f1 := w64 (by omega) (by omega)
    rw [w1]
    have w2 : Go.IntKind.wrap .i64 (from' + (stepJ jobs nx i).f1 + S) = from' + (stepJ jobs nx i).f1 + S := w64 (by omega) (by omega)
    rw [w2]
    cases freshR L (ms.getD (stepJ jobs nx i).f0.toNat z71) (stepJ jobs nx i) <;> simp only [cond_true, cond_false] <;> omega
  refine ⟨hto.1, hto.2, h.ok, by simp [h.lm], by simp [h.ln], by simp [h.le], fun j hj => ?_, fun j hj => ?_, fun j hj => ?_⟩
  · by_cases e : i = j
    · subst e
      rw [getD_set (by rw [h.ln]; exact hi)]
      omega
    · rw [getD_set_ne e]; exact h.nx j hj
  · refine getD_set_cases (fun y : S71 => 0 ≤ y.f0 ∧ y.f0 ≤ B + 2000) ⟨by omega, hto.2⟩ ?_
    have := h.bm j (by simpa using hj)
    omega
  · refine getD_set_cases (fun y : Int => 0 ≤ y ∧ y ≤ B + 2000) ⟨by omega, hto.2⟩ ?_
    have := h.be j hj
    omega

theorem time_ge {B : Int} {ms : List S71} {nx en : List Int} (h : SInv M S L jobs B ms nx en) {i : Nat} (hi : i < jobs.length) (hn : nx.getD i 0 ≠ lenJ jobs i) : (ms.getD (stepJ jobs nx i).f0.toNat z71).f0 ≤ timeJ jobs ms nx en i ∧ 0 ≤ timeJ jobs ms nx en i ∧ timeJ jobs ms nx en i ≤ B := by
  obtain ⟨s1, s2, s3, s4, s5, s6, s7⟩ := h.step hi hn
  have h1 := h.bm _ s4
  have h2 := h.be i hi
  unfold timeJ
  split <;> omega

theorem plan_ok : ∀ (f : Nat) (ms : List S71) (nx en : List Int) (out : List S56), SInv M S L jobs (sumI nx * 2000) ms nx en → sumI nx + f = 161 → (out.length : Int) = sumI nx →
    F16.l0 (M, S, L, jobs, ms, nx, en, out) = some (0, planR jobs S L f ms nx en out) ∧ F17.l0 (M, S, L, jobs, ms.map m85, nx, en, out) = some (0, planR jobs S L f ms nx en out)
  | f, ms, nx, en, out, h, hs, ho => by
    have hn20 := h.ok.n
    have hsum : 0 ≤ sumI nx ∧ sumI nx ≤ 8 * nx.length := sumI_le (fun i hi => by
      rw [h.ln] at hi
      have h1 := h.nx i hi
      have h2 := h.ok.job (jobs.getD i z54) (by rw [getD_lt hi]; exact List.getElem_mem hi)
      unfold lenJ at h1
      omega)
    have hln := h.ln
    have hle := h.le
    have e16 := F16.l2_ok (out := out) h
    have e17 := F17.l2_ok (out := out) h
    have hp := pick_fin jobs ms nx en
    cases f with
    | zero => omega
    | succ f =>
      simp only [planR]
      generalize hq : pickJ jobs ms nx en = a at e16 e17 hp ⊢
      obtain ⟨a1, a2⟩ := a
      dsimp only at e16 e17 ⊢
      by_cases h0 : a1 < 0
      · rw [if_pos h0]
        constructor
        · unfold F16.l0
          exact lim_out (by simp only [F16.l0.b, e16, bS, dT h0, cT])
        · unfold F17.l0
          exact lim_out (by simp only [F17.l0.b, e17, bS, dT h0, cT])
      · rw [if_neg h0]
        obtain ⟨_, p2, p3⟩ := hp
        obtain ⟨p3, p4⟩ := p3 (by show 0 ≤ a1; omega)
        dsimp only at p2 p3 p4
        have hi : a1.toNat < jobs.length := by omega
        obtain ⟨s1, s2, s3, s4, s5, s6, s7⟩ := h.step hi p3
        have htm := time_ge h hi p3
        rw [← p4] at htm
        have hin := fun m hm => inv_next (from' := a2) (m := m) h hi p3 (by omega) (by omega) htm.2.1 htm.2.2 hm
        have d1 : decide (a1 < 0) = false := dF h0
        have d2 : decide (0 ≤ a1) = true := dT (by omega)
        have d3 : decide (a1 < (jobs.length : Int)) = true := dT p2
        have d4 : decide (a1 < (nx.length : Int)) = true := dT (by omega)
        have d5 : decide (a1 < (en.length : Int)) = true := dT (by omega)
        have d6 : decide (0 ≤ nx.getD a1.toNat 0) = true := dT s1
        have d7 : decide (nx.getD a1.toNat 0 < ((jobs.getD a1.toNat z54).f2.length : Int)) = true := dT s2
        have hx : (jobs.getD a1.toNat z54).f2.getD (nx.getD a1.toNat 0).toNat z69 = stepJ jobs nx a1.toNat := rfl
        have wn : Go.IntKind.wrap .i64 (nx.getD a1.toNat 0 + 1) = nx.getD a1.toNat 0 + 1 := w64 (by omega) (by unfold lenJ at s2; have := (h.ok.job (jobs.getD a1.toNat z54) (by rw [getD_lt hi]; exact List.getElem_mem hi)).2.1; omega)
        generalize hxs : stepJ jobs nx a1.toNat = x at s3 s4 s5 s6 s7 htm hin hx ⊢
        have d8 : decide (0 ≤ x.f0) = true := dT s3
        have d9 : decide (x.f0 < (ms.length : Int)) = true := dT s5
        have d9' : decide (x.f0 < ((ms.map m85).length : Int)) = true := dT (by rw [List.length_map]; exact s5)
        have e40 := F40.ok ms x.f0 M S L x s4
        have e35 := fun fr to => F35.ok (ms.getD x.f0.toNat z71) x fr to
        have e34 := F34.ok (ms.getD x.f0.toNat z71) x L
        generalize hm : ms.getD x.f0.toNat z71 = m at e40 e35 e34 htm hin ⊢
        obtain ⟨i1, i2, i3⟩ := hin ⟨toR S a2 x (freshR L m x), x.f2, wearR m x (freshR L m x)⟩ rfl
        have i1 : a2 ≤ toR S a2 x (freshR L m x) := i1
        have hmax : (if toR S a2 x (freshR L m x) > m.f0 then toR S a2 x (freshR L m x) else m.f0) = toR S a2 x (freshR L m x) := by
          split <;> omega
        have i3 : SInv M S L jobs (sumI nx * 2000 + 2000) (ms.set x.f0.toNat ⟨toR S a2 x (freshR L m x), x.f2, wearR m x (freshR L m x)⟩) (nx.set a1.toNat (nx.getD a1.toNat 0 + 1)) (en.set a1.toNat (toR S a2 x (freshR L m x))) := i3
        have hs' : sumI (nx.set a1.toNat (nx.getD a1.toNat 0 + 1)) = sumI nx + 1 := by rw [sumI_set (by omega)]; omega
        have rc := plan_ok f _ _ _ (out ++ [⟨a1, nx.getD a1.toNat 0, x.f0, a2, toR S a2 x (freshR L m x), freshR L m x⟩]) (by rw [hs', show (sumI nx + 1) * 2000 = sumI nx * 2000 + 2000 by omega]; exact i3) (by rw [hs']; omega) (by rw [hs']; simp; omega)
        have dA : ∀ y : S56, decide ((out.length + (y :: ([] : List S56)).length) ≤ 274877906944) = true := fun y => dT (by simp; omega)
        have h85 : (ms.map m85).getD x.f0.toNat z85 = m85 m := by rw [at85 s4, hm]
        constructor
        · refine Eq.trans ?_ rc.1
          unfold F16.l0
          refine lim_in ?_
          simp only [F16.l0.b, e16, bS, d1, cF, d2, d3, d4, d6, d7, d8, d9, hx, hm, Bool.and_self, cT, e34]
          cases hfr : freshR L m x with
          | true =>
            have hto : toR S a2 x true = Go.IntKind.wrap .i64 (Go.IntKind.wrap .i64 (a2 + x.f1) + S) := rfl
            rw [hfr] at hmax
            simp only [cT, F16.t26, d8, d9, hm, e35, bS, d2, d4, d5, dA, Bool.and_self, wn, ← hto, hmax]
          | false =>
            have hto : toR S a2 x false = Go.IntKind.wrap .i64 (a2 + x.f1) := rfl
            rw [hfr] at hmax
            simp only [cT, cF, F16.t26, d8, d9, hm, e35, bS, d2, d4, d5, dA, Bool.and_self, wn, ← hto, hmax]
        · refine Eq.trans ?_ rc.2
          unfold F17.l0
          refine lim_in ?_
          simp only [F17.l0.b, e17, bS, d1, cF, d2, d3, d4, d6, d7, d8, d9', hx, Bool.and_self, cT, e40]
          have hset : ∀ (t : Int) (y : S71), (((ms.set x.f0.toNat y).map m85).set x.f0.toNat (⟨t, (((ms.set x.f0.toNat y).map m85).getD x.f0.toNat z85).f1, (((ms.set x.f0.toNat y).map m85).getD x.f0.toNat z85).f2⟩ : S85)) = (ms.set x.f0.toNat ⟨t, y.f1, y.f2⟩).map m85 := fun t y => by
            rw [at85 (by simpa using s4), getD_set s4]
            rw [show (⟨t, (m85 y).f1, (m85 y).f2⟩ : S85) = m85 ⟨t, y.f1, y.f2⟩ from rfl, ← List.map_set, List.set_set]
          cases hfr : freshR L m x with
          | true =>
            have hto : toR S a2 x true = Go.IntKind.wrap .i64 (Go.IntKind.wrap .i64 (a2 + x.f1) + S) := rfl
            simp only [cT, F17.t25, bS, d2, d4, d5, dA, Bool.and_self, wn, ← hto, hset]
          | false =>
            have hto : toR S a2 x false = Go.IntKind.wrap .i64 (a2 + x.f1) := rfl
            simp only [cT, cF, F17.t25, bS, d2, d4, d5, dA, Bool.and_self, wn, ← hto, hset]

/-- What planning answers. -/
def planA (M S L : Int) (jobs : List S54) : List S56 × Int :=
  if (jobs.length : Int) > 4096 then ([], 2) else if shopR M S L jobs = false then ([], 1)
  else (planR jobs S L 161 (List.replicate M.toNat m0) (List.replicate jobs.length 0) (List.replicate jobs.length 0) [], 0)

theorem start_inv (h : ShopOk M S L jobs) : SInv M S L jobs 0 (List.replicate M.toNat m0) (List.replicate jobs.length 0) (List.replicate jobs.length 0) :=
  ⟨h, by simp, by simp, by simp, fun i hi => by rw [getD_lt (by simpa using hi)]; simp [lenJ], fun i hi => by rw [getD_lt hi]; simp, fun i hi => by rw [getD_lt (by simpa using hi)]; simp⟩
theorem sumI_zero : ∀ n : Nat, sumI (List.replicate n 0) = 0
  | 0 => rfl
  | n + 1 => by rw [List.replicate_succ, sumI, sumI_zero n]; rfl

theorem F16.ok (M S L : Int) (jobs : List S54) : F16.F ((M, S, L), jobs) = some (planA M S L jobs) ∧ F17.F ((M, S, L), jobs) = some (planA M S L jobs) := by
  unfold planA
  by_cases h0 : (jobs.length : Int) > 4096
  · rw [if_pos h0]
    constructor
    · simp only [F16.F, dT h0, cT]
    · simp only [F17.F, dT h0, cT]
  · rw [if_neg h0]
    cases hk : shopR M S L jobs with
    | false =>
      rw [if_pos rfl]
      constructor
      · simp only [F16.F, dF h0, cF, F32.ok, bS, hk, Bool.not_false, cT]
      · simp only [F17.F, dF h0, cF, F38.ok, bS, hk, Bool.not_false, cT]
    | true =>
      rw [if_neg (by decide)]
      have hs := shop_ok hk
      have := hs.m1
      have := hs.m2
      have := hs.n
      have d1 : (((decide (0 ≤ (jobs.length : Int))) && (decide ((jobs.length : Int) ≤ (jobs.length : Int)))) && (decide ((jobs.length : Int) ≤ 274877906944))) = true := by simp; omega
      have e := plan_ok 161 (List.replicate M.toNat m0) (List.replicate jobs.length 0) (List.replicate jobs.length 0) [] (by rw [sumI_zero]; exact start_inv hs) (by rw [sumI_zero]; rfl) (by rw [sumI_zero]; rfl)
      constructor
      · simp only [F16.F, dF h0, cF, F32.ok, bS, hk, Bool.not_true, F33.ok (show 0 ≤ M by omega) (show M ≤ 100 by omega), d1, cT, Int.toNat_natCast, e.1]
      · simp only [F17.F, dF h0, cF, F38.ok, bS, hk, Bool.not_true, F39.ok (show 0 ≤ M by omega) (show M ≤ 100 by omega), d1, cT, Int.toNat_natCast, e.2]
end

end Go.Proofs.YtchohkelpjfpcaaDoor.AX

/- The function 50 of the program in the small machine. No conditions. -/
namespace Go.Proofs.YtchohkelpjfpcaaDoor.AX.F50
open Go Go.Proofs.Tryd
noncomputable def code : Code := bodyOf f50
abbrev Y : Type := Int
def cp : Cod uni ((List S69) × Int) := (codC (iRow 7) (cod1 (iInt .i64)))
def cr : Coz uni Int := (cozR (cod1 (iInt .i64)) (codD (codD cod0)))
noncomputable def es : List (Ent prog uni) := []
theorem get : prog.funcs[50]? = some f50 := by kernel_rfl

noncomputable def F : ((List S69) × Int) → Option (Int)
  | (p0, p1) =>
  let x0 := (Go.IntKind.wrap (Go.IntKind.i64 ) (p1 - ((List.length p0) : Int)))
  cond (decide (x0 < 0)) (
   some (-1)) (
   some x0)
theorem F.eq : ∀ x, F x = runF (mkE tab es 12 [] []) code [.row 7 0, .sc] [.sc] [.tmp 4] (Coz.dec cr) (cp.enc x) := fun x => by kernel_rfl
theorem F.owed : owed (mkE (R := Int) tab es 12 [] []) code = [] := by kernel_rfl
theorem con : ∀ x y, F x = some y → Con prog 50 [.row 7 0, .sc] [.sc] (cp.enc x) (cr.enc y).1 (cr.enc y).2 :=
  func_ok (c := code) (n := 12) (pf := [.row 7 0, .sc]) (res := [.tmp 4]) tabOk uniOk mixed get (by kernel_rfl) (by kernel_rfl) (by kernel_rfl) (by decide) F.eq fun w0 M h x hx => by rw [F.owed] at hx; exact absurd hx List.not_mem_nil
noncomputable def ent : Ent prog uni := Ent.of 50 [.row 7 0, .sc] [.sc] cp cr F con fun args w => enters_of get (by kernel_rfl) rfl args w
end Go.Proofs.YtchohkelpjfpcaaDoor.AX.F50

/- The function 31 of the program in the small machine. No conditions. -/
namespace Go.Proofs.YtchohkelpjfpcaaDoor.AX.F31
open Go Go.Proofs.Tryd
noncomputable def code : Code := bodyOf f31
abbrev Y : Type := Int
def cp : Cod uni ((ByteArray × Int × (List S69)) × Int) := (codC (iAgg (codC iStr (codC (iInt .i64) (cod1 (iRow 7))))) (cod1 (iInt .i64)))
def cr : Coz uni Int := (cozR (cod1 (iInt .i64)) (codD (codD cod0)))
noncomputable def es : List (Ent prog uni) := [F50.ent]
theorem get : prog.funcs[31]? = some f31 := by kernel_rfl

noncomputable def F : ((ByteArray × Int × (List S69)) × Int) → Option (Int)
  | ((p0_0, p0_1, p0_2), p1) =>
  let x0 := (Go.IntKind.wrap (Go.IntKind.i64 ) (p1 - ((ByteArray.size p0_0) : Int)))
  cond (decide (x0 < 0)) (
   some (-1)) (
   (F50.F (p0_2, x0)).bind fun y50 =>
   cond (decide (y50 < 0)) (
    some (-1)) (
    some y50))
theorem F.eq : ∀ x, F x = runF (mkE tab es 19 [] []) code [.agg [.sc, .sc, .row 7 0], .sc] [.sc] [.tmp 4] (Coz.dec cr) (cp.enc x) := fun x => by kernel_rfl
theorem F.owed : owed (mkE (R := Int) tab es 19 [] []) code = [] := by kernel_rfl
theorem con : ∀ x y, F x = some y → Con prog 31 [.agg [.sc, .sc, .row 7 0], .sc] [.sc] (cp.enc x) (cr.enc y).1 (cr.enc y).2 :=
  func_ok (c := code) (n := 19) (pf := [.agg [.sc, .sc, .row 7 0], .sc]) (res := [.tmp 4]) tabOk uniOk mixed get (by kernel_rfl) (by kernel_rfl) (by kernel_rfl) (by decide) F.eq fun w0 M h x hx => by rw [F.owed] at hx; exact absurd hx List.not_mem_nil
noncomputable def ent : Ent prog uni := Ent.of 31 [.agg [.sc, .sc, .row 7 0], .sc] [.sc] cp cr F con fun args w => enters_of get (by kernel_rfl) rfl args w
end Go.Proofs.YtchohkelpjfpcaaDoor.AX.F31

/- The function 7 of the program in the small machine. No conditions. -/
namespace Go.Proofs.YtchohkelpjfpcaaDoor.AX.F7
open Go Go.Proofs.Tryd
noncomputable def code : Code := bodyOf f7
abbrev Y : Type := Int
def cp : Cod uni ((List S64) × Int) := (codC (iRow 0) (cod1 (iInt .i64)))
def cr : Coz uni Int := (cozR (cod1 (iInt .i64)) (codD (codD cod0)))
noncomputable def es : List (Ent prog uni) := [F31.ent]
theorem get : prog.funcs[7]? = some f7 := by kernel_rfl

def l0.A : Ann := ⟨[(0, .slc 5000000 []), (1, .sc), (5, .sc)], [], [(5000000, false, 0)], []⟩
def l0.c : Cod uni (Int × Int × (List S64)) := (codC (iInt .i64) (codC (iInt .i64) (cod1 (iRow 0))))
def l0.xs : List (AExit × Ann) := [(.ret, ⟨[(4, .sc)], [], [], []⟩), ((.exit 0), ⟨[(1, .sc)], [], [], []⟩)]
def l0.y : Coy uni (Int ⊕ Int) := (coyS (cod1 (iInt .i64)) (coy1 (cod1 (iInt .i64))))
noncomputable def l0.b : Int × Int × (List S64) → Option ((Int × Int × (List S64)) ⊕ (Int ⊕ Int))
  | (v1, v5, r0) =>
  let x0 := (decide (v5 < ((List.length r0) : Int)))
  cond x0 (
   cond ((decide (0 ≤ v5)) && x0) (
    let x1 := (List.getD r0 (Int.toNat v5) z64)
    (F31.F ((x1.f0, (x1.f1, x1.f2)), v1)).bind fun y31 =>
    cond (decide (y31 < 0)) (
     some (.inr (.inl (-1)))) (
     some (.inl (y31, (Go.IntKind.wrap (Go.IntKind.i64 ) (v5 + 1)), r0)))) none) (
   some (.inr (.inr v1)))
noncomputable def l0 (x : Int × Int × (List S64)) : Option (Int ⊕ Int) := lim l0.b x
theorem l0.eq : ∀ x, l0.b x = roundX (mkE tab es 27 [] []) (loopAt 0 code) (cutOf l0.A l0.c) (cutsOf l0.xs l0.y) x := fun x => by kernel_rfl
theorem l0.owed {R : Type} : owed (mkE (R := R) tab es 27 [] []) (loopAt 0 code) = [] := by kernel_rfl
theorem l0.ok (w0 : World) (M : Own) (h : Pinned M []) {R : Type} : SoundO prog w0 M 27 (.block 0 (.loop (loopAt 0 code))) (loopO (R := R) 0 (cutOf l0.A l0.c) (cutsOf l0.xs l0.y) l0) :=
  loop_ok tabOk uniOk mixed l0.eq (h.sub rfl) (h.sub rfl) fun x hx => by rw [l0.owed] at hx; exact absurd hx List.not_mem_nil

noncomputable def F : ((List S64) × Int) → Option (Int)
  | (p0, p1) =>
  let x0 := (Go.IntKind.wrap (Go.IntKind.i64 ) (p1 - ((List.length p0) : Int)))
  cond (decide (x0 < 0)) (
   some (-1)) (
   (l0 (x0, 0, p0)).bind fun q => match q with
   | (.inl yl0) =>
    some yl0
   | (.inr yl0) =>
    some yl0)
theorem F.eq : ∀ x, F x = runF (mkE tab es 27 [(0, some (loopO 0 (cutOf l0.A l0.c) (cutsOf l0.xs l0.y) l0))] []) code [.row 0 0, .sc] [.sc] [.tmp 4] (Coz.dec cr) (cp.enc x) := fun x => by kernel_rfl
theorem F.owed : owed (mkE (R := Int) tab es 27 [(0, some (loopO 0 (cutOf l0.A l0.c) (cutsOf l0.xs l0.y) l0))] []) code = [((.block 0 (.loop (loopAt 0 code))), (loopO (R := _) 0 (cutOf l0.A l0.c) (cutsOf l0.xs l0.y) l0))] := by kernel_rfl
theorem con : ∀ x y, F x = some y → Con prog 7 [.row 0 0, .sc] [.sc] (cp.enc x) (cr.enc y).1 (cr.enc y).2 :=
  func_ok (c := code) (n := 27) (pf := [.row 0 0, .sc]) (res := [.tmp 4]) tabOk uniOk mixed get (by kernel_rfl) (by kernel_rfl) (by kernel_rfl) (by decide) F.eq fun w0 M h x hx => by rw [F.owed] at hx; rcases List.mem_cons.1 hx with rfl | hx; exact l0.ok w0 M h; exact absurd hx List.not_mem_nil
noncomputable def ent : Ent prog uni := Ent.of 7 [.row 0 0, .sc] [.sc] cp cr F con fun args w => enters_of get (by kernel_rfl) rfl args w
end Go.Proofs.YtchohkelpjfpcaaDoor.AX.F7

/- The function 8 of the program in the small machine. No conditions. -/
namespace Go.Proofs.YtchohkelpjfpcaaDoor.AX.F8
open Go Go.Proofs.Tryd
noncomputable def code : Code := bodyOf f8
abbrev Y : Type := Int
def cp : Cod uni ((List S56) × Int) := (codC (iRow 1) (cod1 (iInt .i64)))
def cr : Coz uni Int := (cozR (cod1 (iInt .i64)) (codD (codD cod0)))
noncomputable def es : List (Ent prog uni) := []
theorem get : prog.funcs[8]? = some f8 := by kernel_rfl

noncomputable def F : ((List S56) × Int) → Option (Int)
  | (p0, p1) =>
  let x0 := (Go.IntKind.wrap (Go.IntKind.i64 ) (p1 - ((List.length p0) : Int)))
  cond (decide (x0 < 0)) (
   some (-1)) (
   some x0)
theorem F.eq : ∀ x, F x = runF (mkE tab es 12 [] []) code [.row 1 0, .sc] [.sc] [.tmp 4] (Coz.dec cr) (cp.enc x) := fun x => by kernel_rfl
theorem F.owed : owed (mkE (R := Int) tab es 12 [] []) code = [] := by kernel_rfl
theorem con : ∀ x y, F x = some y → Con prog 8 [.row 1 0, .sc] [.sc] (cp.enc x) (cr.enc y).1 (cr.enc y).2 :=
  func_ok (c := code) (n := 12) (pf := [.row 1 0, .sc]) (res := [.tmp 4]) tabOk uniOk mixed get (by kernel_rfl) (by kernel_rfl) (by kernel_rfl) (by decide) F.eq fun w0 M h x hx => by rw [F.owed] at hx; exact absurd hx List.not_mem_nil
noncomputable def ent : Ent prog uni := Ent.of 8 [.row 1 0, .sc] [.sc] cp cr F con fun args w => enters_of get (by kernel_rfl) rfl args w
end Go.Proofs.YtchohkelpjfpcaaDoor.AX.F8

/- The function 10 of the program in the small machine. No conditions. -/
namespace Go.Proofs.YtchohkelpjfpcaaDoor.AX.F10
open Go Go.Proofs.Tryd
noncomputable def code : Code := bodyOf f10
abbrev Y : Type := (Int × Int × Int)
def cp : Cod uni (Int × Int × Int) := (cod1 (iAgg (codC (iInt .i64) (codC (iInt .i64) (cod1 (iInt .i64))))))
def cr : Coz uni (Int × Int × Int) := (cozR (cod1 (iAgg (codC (iInt .i64) (codC (iInt .i64) (cod1 (iInt .i64)))))) (codD cod0))
noncomputable def es : List (Ent prog uni) := []
theorem get : prog.funcs[10]? = some f10 := by kernel_rfl

noncomputable def F : (Int × Int × Int) → Option ((Int × Int × Int))
  | (p0_0, p0_1, p0_2) =>
  some (p0_0, (p0_1, p0_2))
theorem F.eq : ∀ x, F x = runF (mkE tab es 14 [] []) code [.agg [.sc, .sc, .sc]] [.agg [.sc, .sc, .sc]] [.cell 2 30] (Coz.dec cr) (cp.enc x) := fun x => by kernel_rfl
theorem F.owed : owed (mkE (R := (Int × Int × Int)) tab es 14 [] []) code = [] := by kernel_rfl
theorem con : ∀ x y, F x = some y → Con prog 10 [.agg [.sc, .sc, .sc]] [.agg [.sc, .sc, .sc]] (cp.enc x) (cr.enc y).1 (cr.enc y).2 :=
  func_ok (c := code) (n := 14) (pf := [.agg [.sc, .sc, .sc]]) (res := [.cell 2 30]) tabOk uniOk mixed get (by kernel_rfl) (by kernel_rfl) (by kernel_rfl) (by decide) F.eq fun w0 M h x hx => by rw [F.owed] at hx; exact absurd hx List.not_mem_nil
noncomputable def ent : Ent prog uni := Ent.of 10 [.agg [.sc, .sc, .sc]] [.agg [.sc, .sc, .sc]] cp cr F con fun args w => enters_of get (by kernel_rfl) rfl args w
end Go.Proofs.YtchohkelpjfpcaaDoor.AX.F10

/- The function 62 of the program in the small machine. No conditions. -/
namespace Go.Proofs.YtchohkelpjfpcaaDoor.AX.F62
open Go Go.Proofs.Tryd
noncomputable def code : Code := bodyOf f62
abbrev Y : Type := (Int × Int × Int × Int)
def cp : Cod uni (Int × Int × Int × Int) := (cod1 (iAgg (codC (iInt .i64) (codC (iInt .i64) (codC (iInt .i64) (cod1 (iInt .i64)))))))
def cr : Coz uni (Int × Int × Int × Int) := (cozR (cod1 (iAgg (codC (iInt .i64) (codC (iInt .i64) (codC (iInt .i64) (cod1 (iInt .i64))))))) (codD cod0))
noncomputable def es : List (Ent prog uni) := []
theorem get : prog.funcs[62]? = some f62 := by kernel_rfl

noncomputable def F : (Int × Int × Int × Int) → Option ((Int × Int × Int × Int))
  | (p0_0, p0_1, p0_2, p0_3) =>
  some (p0_0, (p0_1, (p0_2, p0_3)))
theorem F.eq : ∀ x, F x = runF (mkE tab es 17 [] []) code [.agg [.sc, .sc, .sc, .sc]] [.agg [.sc, .sc, .sc, .sc]] [.cell 2 70] (Coz.dec cr) (cp.enc x) := fun x => by kernel_rfl
theorem F.owed : owed (mkE (R := (Int × Int × Int × Int)) tab es 17 [] []) code = [] := by kernel_rfl
theorem con : ∀ x y, F x = some y → Con prog 62 [.agg [.sc, .sc, .sc, .sc]] [.agg [.sc, .sc, .sc, .sc]] (cp.enc x) (cr.enc y).1 (cr.enc y).2 :=
  func_ok (c := code) (n := 17) (pf := [.agg [.sc, .sc, .sc, .sc]]) (res := [.cell 2 70]) tabOk uniOk mixed get (by kernel_rfl) (by kernel_rfl) (by kernel_rfl) (by decide) F.eq fun w0 M h x hx => by rw [F.owed] at hx; exact absurd hx List.not_mem_nil
noncomputable def ent : Ent prog uni := Ent.of 62 [.agg [.sc, .sc, .sc, .sc]] [.agg [.sc, .sc, .sc, .sc]] cp cr F con fun args w => enters_of get (by kernel_rfl) rfl args w
end Go.Proofs.YtchohkelpjfpcaaDoor.AX.F62

/- The function 53 of the program in the small machine. No conditions. -/
namespace Go.Proofs.YtchohkelpjfpcaaDoor.AX.F53
open Go Go.Proofs.Tryd
noncomputable def code : Code := bodyOf f53
abbrev Y : Type := (List S69)
def cp : Cod uni (List S69) := (cod1 (iRow 7))
def cr : Coz uni (List S69) := (cozR (cod1 (iRow 6)) (codD cod0))
noncomputable def es : List (Ent prog uni) := [F62.ent]
theorem get : prog.funcs[53]? = some f53 := by kernel_rfl

def l0.A : Ann := ⟨[(0, .slc 5000000 []), (3, .slc 5000192 []), (4, .sc)], [], [(5000000, false, 7), (5000192, true, 6)], []⟩
def l0.c : Cod uni (Int × (List S69) × (List S69)) := (codC (iInt .i64) (codC (iRow 7) (cod1 (iRow 6))))
def l0.xs : List (AExit × Ann) := [((.exit 0), ⟨[(3, .slc 5000192 [])], [], [(5000192, true, 6)], []⟩)]
def l0.y : Coy uni ((List S69)) := (coy1 (cod1 (iRow 6)))
noncomputable def l0.b : Int × (List S69) × (List S69) → Option ((Int × (List S69) × (List S69)) ⊕ ((List S69)))
  | (v4, r0, r192) =>
  let x0 := (decide (v4 < ((List.length r0) : Int)))
  cond x0 (
   cond ((decide (0 ≤ v4)) && x0) (
    let x1 := (List.getD r0 (Int.toNat v4) z69)
    (F62.F (x1.f0, (x1.f1, (x1.f2, x1.f3)))).bind fun y62 =>
    cond ((decide (0 ≤ v4)) && (decide (v4 < ((List.length r192) : Int)))) (
     some (.inl ((Go.IntKind.wrap (Go.IntKind.i64 ) (v4 + 1)), r0, (List.set r192 (Int.toNat v4) (⟨y62.1, y62.2.1, y62.2.2.1, y62.2.2.2⟩ : S69))))) none) none) (
   some (.inr r192))
noncomputable def l0 (x : Int × (List S69) × (List S69)) : Option ((List S69)) := lim l0.b x
theorem l0.eq : ∀ x, l0.b x = roundX (mkE tab es 23 [] []) (loopAt 0 code) (cutOf l0.A l0.c) (cutsOf l0.xs l0.y) x := fun x => by kernel_rfl
theorem l0.owed {R : Type} : owed (mkE (R := R) tab es 23 [] []) (loopAt 0 code) = [] := by kernel_rfl
theorem l0.ok (w0 : World) (M : Own) (h : Pinned M []) {R : Type} : SoundO prog w0 M 23 (.block 0 (.loop (loopAt 0 code))) (loopO (R := R) 0 (cutOf l0.A l0.c) (cutsOf l0.xs l0.y) l0) :=
  loop_ok tabOk uniOk mixed l0.eq (h.sub rfl) (h.sub rfl) fun x hx => by rw [l0.owed] at hx; exact absurd hx List.not_mem_nil

noncomputable def F : (List S69) → Option ((List S69))
  | p0 =>
  let x0 := ((List.length p0) : Int)
  cond (((decide (0 ≤ x0)) && (decide (x0 ≤ x0))) && (decide (x0 ≤ 274877906944))) (
   (l0 (0, p0, (List.replicate (Int.toNat x0) z69))).bind fun yl0 =>
   some yl0) none
theorem F.eq : ∀ x, F x = runF (mkE tab es 23 [(0, some (loopO 0 (cutOf l0.A l0.c) (cutsOf l0.xs l0.y) l0))] []) code [.row 7 0] [.row 6] [.tmp 2] (Coz.dec cr) (cp.enc x) := fun x => by kernel_rfl
theorem F.owed : owed (mkE (R := (List S69)) tab es 23 [(0, some (loopO 0 (cutOf l0.A l0.c) (cutsOf l0.xs l0.y) l0))] []) code = [((.block 0 (.loop (loopAt 0 code))), (loopO (R := _) 0 (cutOf l0.A l0.c) (cutsOf l0.xs l0.y) l0))] := by kernel_rfl
theorem con : ∀ x y, F x = some y → Con prog 53 [.row 7 0] [.row 6] (cp.enc x) (cr.enc y).1 (cr.enc y).2 :=
  func_ok (c := code) (n := 23) (pf := [.row 7 0]) (res := [.tmp 2]) tabOk uniOk mixed get (by kernel_rfl) (by kernel_rfl) (by kernel_rfl) (by decide) F.eq fun w0 M h x hx => by rw [F.owed] at hx; rcases List.mem_cons.1 hx with rfl | hx; exact l0.ok w0 M h; exact absurd hx List.not_mem_nil
noncomputable def ent : Ent prog uni := Ent.of 53 [.row 7 0] [.row 6] cp cr F con fun args w => enters_of get (by kernel_rfl) rfl args w
end Go.Proofs.YtchohkelpjfpcaaDoor.AX.F53

/- The function 36 of the program in the small machine. No conditions. -/
namespace Go.Proofs.YtchohkelpjfpcaaDoor.AX.F36
open Go Go.Proofs.Tryd
noncomputable def code : Code := bodyOf f36
abbrev Y : Type := (ByteArray × Int × (List S69))
def cp : Cod uni (ByteArray × Int × (List S69)) := (cod1 (iAgg (codC iStr (codC (iInt .i64) (cod1 (iRow 7))))))
def cr : Coz uni (ByteArray × Int × (List S69)) := (cozR (cod1 (iAgg (codC iStr (codC (iInt .i64) (cod1 (iRow 6)))))) (codD cod0))
noncomputable def es : List (Ent prog uni) := [F53.ent]
theorem get : prog.funcs[36]? = some f36 := by kernel_rfl

noncomputable def F : (ByteArray × Int × (List S69)) → Option ((ByteArray × Int × (List S69)))
  | (p0_0, p0_1, p0_2) =>
  (F53.F p0_2).bind fun y53 =>
  some (p0_0, (p0_1, y53))
theorem F.eq : ∀ x, F x = runF (mkE tab es 15 [] []) code [.agg [.sc, .sc, .row 7 0]] [.agg [.sc, .sc, .row 6]] [.cell 2 55] (Coz.dec cr) (cp.enc x) := fun x => by kernel_rfl
theorem F.owed : owed (mkE (R := (ByteArray × Int × (List S69))) tab es 15 [] []) code = [] := by kernel_rfl
theorem con : ∀ x y, F x = some y → Con prog 36 [.agg [.sc, .sc, .row 7 0]] [.agg [.sc, .sc, .row 6]] (cp.enc x) (cr.enc y).1 (cr.enc y).2 :=
  func_ok (c := code) (n := 15) (pf := [.agg [.sc, .sc, .row 7 0]]) (res := [.cell 2 55]) tabOk uniOk mixed get (by kernel_rfl) (by kernel_rfl) (by kernel_rfl) (by decide) F.eq fun w0 M h x hx => by rw [F.owed] at hx; exact absurd hx List.not_mem_nil
noncomputable def ent : Ent prog uni := Ent.of 36 [.agg [.sc, .sc, .row 7 0]] [.agg [.sc, .sc, .row 6]] cp cr F con fun args w => enters_of get (by kernel_rfl) rfl args w
end Go.Proofs.YtchohkelpjfpcaaDoor.AX.F36

/- The function 11 of the program in the small machine. No conditions. -/
namespace Go.Proofs.YtchohkelpjfpcaaDoor.AX.F11
open Go Go.Proofs.Tryd
noncomputable def code : Code := bodyOf f11
abbrev Y : Type := (List S54)
def cp : Cod uni (List S64) := (cod1 (iRow 0))
def cr : Coz uni (List S54) := (cozR (cod1 (iRow 2)) (codD cod0))
noncomputable def es : List (Ent prog uni) := [F36.ent]
theorem get : prog.funcs[11]? = some f11 := by kernel_rfl

def l0.A : Ann := ⟨[(0, .slc 5000000 []), (3, .slc 5000192 []), (4, .sc)], [], [(5000000, false, 0), (5000192, true, 2)], []⟩
def l0.c : Cod uni (Int × (List S64) × (List S54)) := (codC (iInt .i64) (codC (iRow 0) (cod1 (iRow 2))))
def l0.xs : List (AExit × Ann) := [((.exit 0), ⟨[(3, .slc 5000192 [])], [], [(5000192, true, 2)], []⟩)]
def l0.y : Coy uni ((List S54)) := (coy1 (cod1 (iRow 2)))
noncomputable def l0.b : Int × (List S64) × (List S54) → Option ((Int × (List S64) × (List S54)) ⊕ ((List S54)))
  | (v4, r0, r192) =>
  let x0 := (decide (v4 < ((List.length r0) : Int)))
  cond x0 (
   cond ((decide (0 ≤ v4)) && x0) (
    let x1 := (List.getD r0 (Int.toNat v4) z64)
    (F36.F (x1.f0, (x1.f1, x1.f2))).bind fun y36 =>
    cond ((decide (0 ≤ v4)) && (decide (v4 < ((List.length r192) : Int)))) (
     some (.inl ((Go.IntKind.wrap (Go.IntKind.i64 ) (v4 + 1)), r0, (List.set r192 (Int.toNat v4) (⟨y36.1, y36.2.1, y36.2.2⟩ : S54))))) none) none) (
   some (.inr r192))
noncomputable def l0 (x : Int × (List S64) × (List S54)) : Option ((List S54)) := lim l0.b x
theorem l0.eq : ∀ x, l0.b x = roundX (mkE tab es 23 [] []) (loopAt 0 code) (cutOf l0.A l0.c) (cutsOf l0.xs l0.y) x := fun x => by kernel_rfl
theorem l0.owed {R : Type} : owed (mkE (R := R) tab es 23 [] []) (loopAt 0 code) = [] := by kernel_rfl
theorem l0.ok (w0 : World) (M : Own) (h : Pinned M []) {R : Type} : SoundO prog w0 M 23 (.block 0 (.loop (loopAt 0 code))) (loopO (R := R) 0 (cutOf l0.A l0.c) (cutsOf l0.xs l0.y) l0) :=
  loop_ok tabOk uniOk mixed l0.eq (h.sub rfl) (h.sub rfl) fun x hx => by rw [l0.owed] at hx; exact absurd hx List.not_mem_nil

noncomputable def F : (List S64) → Option ((List S54))
  | p0 =>
  let x0 := ((List.length p0) : Int)
  cond (((decide (0 ≤ x0)) && (decide (x0 ≤ x0))) && (decide (x0 ≤ 274877906944))) (
   (l0 (0, p0, (List.replicate (Int.toNat x0) z54))).bind fun yl0 =>
   some yl0) none
theorem F.eq : ∀ x, F x = runF (mkE tab es 23 [(0, some (loopO 0 (cutOf l0.A l0.c) (cutsOf l0.xs l0.y) l0))] []) code [.row 0 0] [.row 2] [.tmp 2] (Coz.dec cr) (cp.enc x) := fun x => by kernel_rfl
theorem F.owed : owed (mkE (R := (List S54)) tab es 23 [(0, some (loopO 0 (cutOf l0.A l0.c) (cutsOf l0.xs l0.y) l0))] []) code = [((.block 0 (.loop (loopAt 0 code))), (loopO (R := _) 0 (cutOf l0.A l0.c) (cutsOf l0.xs l0.y) l0))] := by kernel_rfl
theorem con : ∀ x y, F x = some y → Con prog 11 [.row 0 0] [.row 2] (cp.enc x) (cr.enc y).1 (cr.enc y).2 :=
  func_ok (c := code) (n := 23) (pf := [.row 0 0]) (res := [.tmp 2]) tabOk uniOk mixed get (by kernel_rfl) (by kernel_rfl) (by kernel_rfl) (by decide) F.eq fun w0 M h x hx => by rw [F.owed] at hx; rcases List.mem_cons.1 hx with rfl | hx; exact l0.ok w0 M h; exact absurd hx List.not_mem_nil
noncomputable def ent : Ent prog uni := Ent.of 11 [.row 0 0] [.row 2] cp cr F con fun args w => enters_of get (by kernel_rfl) rfl args w
end Go.Proofs.YtchohkelpjfpcaaDoor.AX.F11

/- The function 37 of the program in the small machine. No conditions. -/
namespace Go.Proofs.YtchohkelpjfpcaaDoor.AX.F37
open Go Go.Proofs.Tryd
noncomputable def code : Code := bodyOf f37
abbrev Y : Type := (Int × Int × Int × Int × Int × Bool)
def cp : Cod uni (Int × Int × Int × Int × Int × Bool) := (cod1 (iAgg (codC (iInt .i64) (codC (iInt .i64) (codC (iInt .i64) (codC (iInt .i64) (codC (iInt .i64) (cod1 iBool))))))))
def cr : Coz uni (Int × Int × Int × Int × Int × Bool) := (cozR (cod1 (iAgg (codC (iInt .i64) (codC (iInt .i64) (codC (iInt .i64) (codC (iInt .i64) (codC (iInt .i64) (cod1 iBool)))))))) (codD cod0))
noncomputable def es : List (Ent prog uni) := []
theorem get : prog.funcs[37]? = some f37 := by kernel_rfl

noncomputable def F : (Int × Int × Int × Int × Int × Bool) → Option ((Int × Int × Int × Int × Int × Bool))
  | (p0_0, p0_1, p0_2, p0_3, p0_4, p0_5) =>
  some (p0_0, (p0_1, (p0_2, (p0_3, (p0_4, p0_5)))))
theorem F.eq : ∀ x, F x = runF (mkE tab es 23 [] []) code [.agg [.sc, .sc, .sc, .sc, .sc, .sc]] [.agg [.sc, .sc, .sc, .sc, .sc, .sc]] [.cell 2 57] (Coz.dec cr) (cp.enc x) := fun x => by kernel_rfl
theorem F.owed : owed (mkE (R := (Int × Int × Int × Int × Int × Bool)) tab es 23 [] []) code = [] := by kernel_rfl
theorem con : ∀ x y, F x = some y → Con prog 37 [.agg [.sc, .sc, .sc, .sc, .sc, .sc]] [.agg [.sc, .sc, .sc, .sc, .sc, .sc]] (cp.enc x) (cr.enc y).1 (cr.enc y).2 :=
  func_ok (c := code) (n := 23) (pf := [.agg [.sc, .sc, .sc, .sc, .sc, .sc]]) (res := [.cell 2 57]) tabOk uniOk mixed get (by kernel_rfl) (by kernel_rfl) (by kernel_rfl) (by decide) F.eq fun w0 M h x hx => by rw [F.owed] at hx; exact absurd hx List.not_mem_nil
noncomputable def ent : Ent prog uni := Ent.of 37 [.agg [.sc, .sc, .sc, .sc, .sc, .sc]] [.agg [.sc, .sc, .sc, .sc, .sc, .sc]] cp cr F con fun args w => enters_of get (by kernel_rfl) rfl args w
end Go.Proofs.YtchohkelpjfpcaaDoor.AX.F37

/- The function 12 of the program in the small machine. No conditions. -/
namespace Go.Proofs.YtchohkelpjfpcaaDoor.AX.F12
open Go Go.Proofs.Tryd
noncomputable def code : Code := bodyOf f12
abbrev Y : Type := (List S56)
def cp : Cod uni (List S56) := (cod1 (iRow 1))
def cr : Coz uni (List S56) := (cozR (cod1 (iRow 3)) (codD cod0))
noncomputable def es : List (Ent prog uni) := [F37.ent]
theorem get : prog.funcs[12]? = some f12 := by kernel_rfl

def l0.A : Ann := ⟨[(0, .slc 5000000 []), (3, .slc 5000192 []), (4, .sc)], [], [(5000000, false, 1), (5000192, true, 3)], []⟩
def l0.c : Cod uni (Int × (List S56) × (List S56)) := (codC (iInt .i64) (codC (iRow 1) (cod1 (iRow 3))))
def l0.xs : List (AExit × Ann) := [((.exit 0), ⟨[(3, .slc 5000192 [])], [], [(5000192, true, 3)], []⟩)]
def l0.y : Coy uni ((List S56)) := (coy1 (cod1 (iRow 3)))
noncomputable def l0.b : Int × (List S56) × (List S56) → Option ((Int × (List S56) × (List S56)) ⊕ ((List S56)))
  | (v4, r0, r192) =>
  let x0 := (decide (v4 < ((List.length r0) : Int)))
  cond x0 (
   cond ((decide (0 ≤ v4)) && x0) (
    let x1 := (List.getD r0 (Int.toNat v4) z56)
    (F37.F (x1.f0, (x1.f1, (x1.f2, (x1.f3, (x1.f4, x1.f5)))))).bind fun y37 =>
    cond ((decide (0 ≤ v4)) && (decide (v4 < ((List.length r192) : Int)))) (
     some (.inl ((Go.IntKind.wrap (Go.IntKind.i64 ) (v4 + 1)), r0, (List.set r192 (Int.toNat v4) (⟨y37.1, y37.2.1, y37.2.2.1, y37.2.2.2.1, y37.2.2.2.2.1, y37.2.2.2.2.2⟩ : S56))))) none) none) (
   some (.inr r192))
noncomputable def l0 (x : Int × (List S56) × (List S56)) : Option ((List S56)) := lim l0.b x
theorem l0.eq : ∀ x, l0.b x = roundX (mkE tab es 23 [] []) (loopAt 0 code) (cutOf l0.A l0.c) (cutsOf l0.xs l0.y) x := fun x => by kernel_rfl
theorem l0.owed {R : Type} : owed (mkE (R := R) tab es 23 [] []) (loopAt 0 code) = [] := by kernel_rfl
theorem l0.ok (w0 : World) (M : Own) (h : Pinned M []) {R : Type} : SoundO prog w0 M 23 (.block 0 (.loop (loopAt 0 code))) (loopO (R := R) 0 (cutOf l0.A l0.c) (cutsOf l0.xs l0.y) l0) :=
  loop_ok tabOk uniOk mixed l0.eq (h.sub rfl) (h.sub rfl) fun x hx => by rw [l0.owed] at hx; exact absurd hx List.not_mem_nil

noncomputable def F : (List S56) → Option ((List S56))
  | p0 =>
  let x0 := ((List.length p0) : Int)
  cond (((decide (0 ≤ x0)) && (decide (x0 ≤ x0))) && (decide (x0 ≤ 274877906944))) (
   (l0 (0, p0, (List.replicate (Int.toNat x0) z56))).bind fun yl0 =>
   some yl0) none
theorem F.eq : ∀ x, F x = runF (mkE tab es 23 [(0, some (loopO 0 (cutOf l0.A l0.c) (cutsOf l0.xs l0.y) l0))] []) code [.row 1 0] [.row 3] [.tmp 2] (Coz.dec cr) (cp.enc x) := fun x => by kernel_rfl
theorem F.owed : owed (mkE (R := (List S56)) tab es 23 [(0, some (loopO 0 (cutOf l0.A l0.c) (cutsOf l0.xs l0.y) l0))] []) code = [((.block 0 (.loop (loopAt 0 code))), (loopO (R := _) 0 (cutOf l0.A l0.c) (cutsOf l0.xs l0.y) l0))] := by kernel_rfl
theorem con : ∀ x y, F x = some y → Con prog 12 [.row 1 0] [.row 3] (cp.enc x) (cr.enc y).1 (cr.enc y).2 :=
  func_ok (c := code) (n := 23) (pf := [.row 1 0]) (res := [.tmp 2]) tabOk uniOk mixed get (by kernel_rfl) (by kernel_rfl) (by kernel_rfl) (by decide) F.eq fun w0 M h x hx => by rw [F.owed] at hx; rcases List.mem_cons.1 hx with rfl | hx; exact l0.ok w0 M h; exact absurd hx List.not_mem_nil
noncomputable def ent : Ent prog uni := Ent.of 12 [.row 1 0] [.row 3] cp cr F con fun args w => enters_of get (by kernel_rfl) rfl args w
end Go.Proofs.YtchohkelpjfpcaaDoor.AX.F12

/- The function 9 of the program in the small machine. No conditions. -/
namespace Go.Proofs.YtchohkelpjfpcaaDoor.AX.F9
open Go Go.Proofs.Tryd
noncomputable def code : Code := bodyOf f9
abbrev Y : Type := (Int × Int)
def cp : Cod uni ((Int × Int × Int) × (List S54) × (List S56)) := (codC (iAgg (codC (iInt .i64) (codC (iInt .i64) (cod1 (iInt .i64))))) (codC (iRow 2) (cod1 (iRow 3))))
def cr : Coz uni (Int × Int) := (cozR (codC (iInt .i64) (cod1 (iInt .i64))) (codD (codD (codD cod0))))
noncomputable def es : List (Ent prog uni) := [F32.ent, F33.ent, F34.ent, F35.ent]
theorem get : prog.funcs[9]? = some f9 := by kernel_rfl

def l2.A : Ann := ⟨[(1, .slc 5000064 []), (2, .slc 5000128 []), (3, .box 5000192 0), (8, .slc 5000512 []), (9, .sc), (10, .box 5000640 0), (11, .box 5000704 0), (12, .sc), (13, .sc), (14, .sc)], [(5000192, 30, [.sc, .sc, .sc]), (5000640, 57, [.sc, .sc, .sc, .sc, .sc, .sc]), (5000704, 70, [.sc, .sc, .sc, .sc])], [(5000064, false, 2), (5000128, false, 3), (5000512, true, 8)], []⟩
def l2.c : Cod uni (Int × Bool × Bool × Int × Int × Int × Int × Int × Int × Int × Int × Int × Bool × Int × Int × Int × Int × (List S54) × (List S56) × (List S71)) := (codC (iInt .i64) (codC iBool (codC iBool (codC (iInt .i64) (codC (iInt .i64) (codC (iInt .i64) (codC (iInt .i64) (codC (iInt .i64) (codC (iInt .i64) (codC (iInt .i64) (codC (iInt .i64) (codC (iInt .i64) (codC iBool (codC (iInt .i64) (codC (iInt .i64) (codC (iInt .i64) (codC (iInt .i64) (codC (iRow 2) (codC (iRow 3) (cod1 (iRow 8)))))))))))))))))))))
def l2.xs : List (AExit × Ann) := [(.ret, ⟨[(6, .sc), (7, .sc)], [], [], []⟩), ((.exit 2), ⟨[(1, .slc 5000064 []), (2, .slc 5000128 []), (3, .box 5000192 0), (8, .slc 5000512 []), (9, .sc), (10, .box 5000640 0), (11, .box 5000704 0), (12, .sc), (13, .sc)], [(5000192, 30, [.sc, .sc, .sc]), (5000640, 57, [.sc, .sc, .sc, .sc, .sc, .sc]), (5000704, 70, [.sc, .sc, .sc, .sc])], [(5000064, false, 2), (5000128, false, 3), (5000512, true, 8)], []⟩)]
def l2.y : Coy uni ((Int × Int) ⊕ (Int × Bool × Bool × Int × Int × Int × Int × Int × Int × Int × Int × Bool × Int × Int × Int × Int × (List S54) × (List S56) × (List S71))) := (coyS (codC (iInt .i64) (cod1 (iInt .i64))) (coy1 (codC (iInt .i64) (codC iBool (codC iBool (codC (iInt .i64) (codC (iInt .i64) (codC (iInt .i64) (codC (iInt .i64) (codC (iInt .i64) (codC (iInt .i64) (codC (iInt .i64) (codC (iInt .i64) (codC iBool (codC (iInt .i64) (codC (iInt .i64) (codC (iInt .i64) (codC (iInt .i64) (codC (iRow 2) (codC (iRow 3) (cod1 (iRow 8))))))))))))))))))))))
noncomputable def l2.b : Int × Bool × Bool × Int × Int × Int × Int × Int × Int × Int × Int × Int × Bool × Int × Int × Int × Int × (List S54) × (List S56) × (List S71) → Option ((Int × Bool × Bool × Int × Int × Int × Int × Int × Int × Int × Int × Int × Bool × Int × Int × Int × Int × (List S54) × (List S56) × (List S71)) ⊕ ((Int × Int) ⊕ (Int × Bool × Bool × Int × Int × Int × Int × Int × Int × Int × Int × Bool × Int × Int × Int × Int × (List S54) × (List S56) × (List S71))))
  | (v9, v12, v13, v14, b192_0, b192_1, b192_2, b640_0, b640_1, b640_2, b640_3, b640_4, b640_5, b704_0, b704_1, b704_2, b704_3, r64, r128, r512) =>
  cond (decide (v14 < v9)) (
   let x0 := ((decide (0 ≤ v14)) && (decide (v14 < ((List.length r128) : Int))))
   cond x0 (
    let x1 := (Go.IntKind.wrap (Go.IntKind.i64 ) (v14 + 1))
    let x2 := (List.getD r128 (Int.toNat v14) z56)
    cond (x2.f0 != b640_0) (
     some (.inl (v9, v12, v13, x1, b192_0, b192_1, b192_2, b640_0, b640_1, b640_2, b640_3, b640_4, b640_5, b704_0, b704_1, b704_2, b704_3, r64, r128, r512))) (
     cond x0 (
      cond (x2.f1 == b640_1) (
       some (.inr (.inl (7, v9)))) (
       cond x0 (
        cond (x2.f1 == (Go.IntKind.wrap (Go.IntKind.i64 ) (b640_1 - 1))) (
         cond x0 (
          some (.inl (v9, (decide (x2.f4 ≤ b640_3)), v13, x1, b192_0, b192_1, b192_2, b640_0, b640_1, b640_2, b640_3, b640_4, b640_5, b704_0, b704_1, b704_2, b704_3, r64, r128, r512))) none) (
         some (.inl (v9, v12, v13, x1, b192_0, b192_1, b192_2, b640_0, b640_1, b640_2, b640_3, b640_4, b640_5, b704_0, b704_1, b704_2, b704_3, r64, r128, r512)))) none)) none)) none) (
   some (.inr (.inr (v9, v12, v13, b192_0, b192_1, b192_2, b640_0, b640_1, b640_2, b640_3, b640_4, b640_5, b704_0, b704_1, b704_2, b704_3, r64, r128, r512))))
noncomputable def l2 (x : Int × Bool × Bool × Int × Int × Int × Int × Int × Int × Int × Int × Int × Bool × Int × Int × Int × Int × (List S54) × (List S56) × (List S71)) : Option ((Int × Int) ⊕ (Int × Bool × Bool × Int × Int × Int × Int × Int × Int × Int × Int × Bool × Int × Int × Int × Int × (List S54) × (List S56) × (List S71))) := lim l2.b x
theorem l2.eq : ∀ x, l2.b x = roundX (mkE tab es 228 [] []) (loopAt 2 code) (cutOf l2.A l2.c) (cutsOf l2.xs l2.y) x := fun x => by kernel_rfl
theorem l2.owed {R : Type} : owed (mkE (R := R) tab es 228 [] []) (loopAt 2 code) = [] := by kernel_rfl
theorem l2.ok (w0 : World) (M : Own) (h : Pinned M []) {R : Type} : SoundO prog w0 M 228 (.block 2 (.loop (loopAt 2 code))) (loopO (R := R) 2 (cutOf l2.A l2.c) (cutsOf l2.xs l2.y) l2) :=
  loop_ok tabOk uniOk mixed l2.eq (h.sub rfl) (h.sub rfl) fun x hx => by rw [l2.owed] at hx; exact absurd hx List.not_mem_nil

def t33.A : Ann := ⟨[(1, .slc 5000064 []), (2, .slc 5000128 []), (3, .box 5000192 0), (8, .slc 5000512 []), (9, .sc), (10, .box 5000640 0), (11, .box 5000704 0), (15, .sc), (16, .sc)], [(5000192, 30, [.sc, .sc, .sc]), (5000640, 57, [.sc, .sc, .sc, .sc, .sc, .sc]), (5000704, 70, [.sc, .sc, .sc, .sc])], [(5000064, false, 2), (5000128, false, 3), (5000512, true, 8)], []⟩
def t33.c : Cod uni (Int × Bool × Int × Int × Int × Int × Int × Int × Int × Int × Int × Bool × Int × Int × Int × Int × (List S54) × (List S56) × (List S71)) := (codC (iInt .i64) (codC iBool (codC (iInt .i64) (codC (iInt .i64) (codC (iInt .i64) (codC (iInt .i64) (codC (iInt .i64) (codC (iInt .i64) (codC (iInt .i64) (codC (iInt .i64) (codC (iInt .i64) (codC iBool (codC (iInt .i64) (codC (iInt .i64) (codC (iInt .i64) (codC (iInt .i64) (codC (iRow 2) (codC (iRow 3) (cod1 (iRow 8))))))))))))))))))))
def t33.xs : List (AExit × Ann) := [(.ret, ⟨[(6, .sc), (7, .sc)], [], [], []⟩), (.normal, ⟨[(1, .slc 5000064 []), (2, .slc 5000128 []), (3, .box 5000192 0), (8, .slc 5000512 []), (9, .sc)], [(5000192, 30, [.sc, .sc, .sc])], [(5000064, false, 2), (5000128, false, 3), (5000512, true, 8)], []⟩)]
def t33.y : Coy uni ((Int × Int) ⊕ (Int × Int × Int × Int × (List S54) × (List S56) × (List S71))) := (coyS (codC (iInt .i64) (cod1 (iInt .i64))) (coy1 (codC (iInt .i64) (codC (iInt .i64) (codC (iInt .i64) (codC (iInt .i64) (codC (iRow 2) (codC (iRow 3) (cod1 (iRow 8))))))))))
noncomputable def t33 : Int × Bool × Int × Int × Int × Int × Int × Int × Int × Int × Int × Bool × Int × Int × Int × Int × (List S54) × (List S56) × (List S71) → Option ((Int × Int) ⊕ (Int × Int × Int × Int × (List S54) × (List S56) × (List S71)))
  | (v9, v15, v16, b192_0, b192_1, b192_2, b640_0, b640_1, b640_2, b640_3, b640_4, b640_5, b704_0, b704_1, b704_2, b704_3, r64, r128, r512) =>
  cond (b640_4 != (Go.IntKind.wrap (Go.IntKind.i64 ) (b640_3 + v16))) (
   some (.inl (19, v9))) (
   let x0 := ((decide (0 ≤ b640_2)) && (decide (b640_2 < ((List.length r512) : Int))))
   cond x0 (
    let x1 := (List.getD r512 (Int.toNat b640_2) z71)
    (F35.F ((x1.f0, (x1.f1, x1.f2)), ((b704_0, (b704_1, (b704_2, b704_3))), (v15, b640_4)))).bind fun y35 =>
    cond x0 (
     some (.inr (v9, b192_0, b192_1, b192_2, r64, r128, (List.set r512 (Int.toNat b640_2) (⟨y35.1, y35.2.1, y35.2.2⟩ : S71))))) none) none)
theorem t33.eq : ∀ x, t33 x = tailX (mkE tab es 228 [] []) (tailAt 33 code) (cutOf t33.A t33.c) (cutsOf t33.xs t33.y) x := fun x => by kernel_rfl
theorem t33.owed {R : Type} : owed (mkE (R := R) tab es 228 [] []) (tailAt 33 code) = [] := by kernel_rfl
theorem t33.ok (w0 : World) (M : Own) (h : Pinned M []) {R : Type} : SoundO prog w0 M 228 (tailAt 33 code) (tailO (R := R) (cutOf t33.A t33.c) (cutsOf t33.xs t33.y) t33) :=
  tail_ok tabOk uniOk mixed t33.eq (h.sub rfl) (h.sub rfl) fun x hx => by rw [t33.owed] at hx; exact absurd hx List.not_mem_nil

def l0.A : Ann := ⟨[(1, .slc 5000064 []), (2, .slc 5000128 []), (3, .box 5000192 0), (8, .slc 5000512 []), (9, .sc)], [(5000192, 30, [.sc, .sc, .sc])], [(5000064, false, 2), (5000128, false, 3), (5000512, true, 8)], []⟩
def l0.c : Cod uni (Int × Int × Int × Int × (List S54) × (List S56) × (List S71)) := (codC (iInt .i64) (codC (iInt .i64) (codC (iInt .i64) (codC (iInt .i64) (codC (iRow 2) (codC (iRow 3) (cod1 (iRow 8))))))))
def l0.xs : List (AExit × Ann) := [(.ret, ⟨[(6, .sc), (7, .sc)], [], [], []⟩), ((.exit 0), ⟨[(1, .slc 5000064 []), (2, .slc 5000128 [])], [], [(5000064, false, 2), (5000128, false, 3)], []⟩)]
def l0.y : Coy uni ((Int × Int) ⊕ ((List S54) × (List S56))) := (coyS (codC (iInt .i64) (cod1 (iInt .i64))) (coy1 (codC (iRow 2) (cod1 (iRow 3)))))
noncomputable def l0.b : Int × Int × Int × Int × (List S54) × (List S56) × (List S71) → Option ((Int × Int × Int × Int × (List S54) × (List S56) × (List S71)) ⊕ ((Int × Int) ⊕ ((List S54) × (List S56))))
  | (v9, b192_0, b192_1, b192_2, r64, r128, r512) =>
  let x9 := (decide (v9 < ((List.length r128) : Int)))
  cond x9 (
   cond ((decide (0 ≤ v9)) && x9) (
    let x10 := (List.getD r128 (Int.toNat v9) z56)
    let x11 := ((List.length r64) : Int)
    let x3 := (((decide (x10.f0 < 0)) || (decide (x10.f0 ≥ x11))) || (decide (x10.f1 < 0)))
    let x5 := ((decide (0 ≤ x10.f0)) && (decide (x10.f0 < x11)))
    cond ((!(!x3)) || x5) (
     let x8 := (List.getD r64 (Int.toNat x10.f0) z54)
     let x6 := ((List.length x8.f2) : Int)
     let x1 := (x3 || (decide (x10.f1 ≥ x6)))
     let x0 := (!(!x1))
     cond (x0 || x5) (
      let x2 := ((decide (0 ≤ x10.f1)) && (decide (x10.f1 < x6)))
      cond (x0 || x2) (
       let x4 := (List.getD x8.f2 (Int.toNat x10.f1) z69)
       cond (x1 || (x4.f0 != x10.f2)) (
        some (.inr (.inl (8, v9)))) (
        cond x5 (
         cond x2 (
          cond ((decide (0 ≤ x10.f2)) && (decide (x10.f2 < ((List.length r512) : Int)))) (
           (l2 (v9, (x10.f1 == 0), (decide (x10.f3 ≥ (List.getD r512 (Int.toNat x10.f2) z71).f0)), 0, b192_0, b192_1, b192_2, x10.f0, x10.f1, x10.f2, x10.f3, x10.f4, x10.f5, x4.f0, x4.f1, x4.f2, x4.f3, r64, r128, r512)).bind fun q => match q with
           | (.inl yl2) =>
            some (.inr (.inl (yl2.1, yl2.2)))
           | (.inr yl2) =>
            cond ((decide (yl2.2.2.2.2.2.2.2.2.2.1 < 0)) || (decide (yl2.2.2.2.2.2.2.2.2.2.1 > 1000000000))) (
             some (.inr (.inl (5, yl2.1)))) (
             cond ((!yl2.2.1) || (!yl2.2.2.1)) (
              some (.inr (.inl (13, yl2.1)))) (
              cond ((decide (0 ≤ yl2.2.2.2.2.2.2.2.2.1)) && (decide (yl2.2.2.2.2.2.2.2.2.1 < ((List.length yl2.2.2.2.2.2.2.2.2.2.2.2.2.2.2.2.2.2.2) : Int)))) (
               let x7 := (List.getD yl2.2.2.2.2.2.2.2.2.2.2.2.2.2.2.2.2.2.2 (Int.toNat yl2.2.2.2.2.2.2.2.2.1) z71)
               (F34.F ((x7.f0, (x7.f1, x7.f2)), ((yl2.2.2.2.2.2.2.2.2.2.2.2.2.1, (yl2.2.2.2.2.2.2.2.2.2.2.2.2.2.1, (yl2.2.2.2.2.2.2.2.2.2.2.2.2.2.2.1, yl2.2.2.2.2.2.2.2.2.2.2.2.2.2.2.2.1))), yl2.2.2.2.2.2.1))).bind fun y34 =>
               cond (!(y34 == yl2.2.2.2.2.2.2.2.2.2.2.2.1)) (
                some (.inr (.inl (16, yl2.1)))) (
                cond y34 (
                 (t33 (yl2.1, y34, (Go.IntKind.wrap (Go.IntKind.i64 ) (yl2.2.2.2.2.2.2.2.2.2.2.2.2.2.1 + yl2.2.2.2.2.1)), yl2.2.2.2.1, yl2.2.2.2.2.1, yl2.2.2.2.2.2.1, yl2.2.2.2.2.2.2.1, yl2.2.2.2.2.2.2.2.1, yl2.2.2.2.2.2.2.2.2.1, yl2.2.2.2.2.2.2.2.2.2.1, yl2.2.2.2.2.2.2.2.2.2.2.1, yl2.2.2.2.2.2.2.2.2.2.2.2.1, yl2.2.2.2.2.2.2.2.2.2.2.2.2.1, yl2.2.2.2.2.2.2.2.2.2.2.2.2.2.1, yl2.2.2.2.2.2.2.2.2.2.2.2.2.2.2.1, yl2.2.2.2.2.2.2.2.2.2.2.2.2.2.2.2.1, yl2.2.2.2.2.2.2.2.2.2.2.2.2.2.2.2.2.1, yl2.2.2.2.2.2.2.2.2.2.2.2.2.2.2.2.2.2.1, yl2.2.2.2.2.2.2.2.2.2.2.2.2.2.2.2.2.2.2)).bind fun q => match q with
                 | (.inl yt33) =>
                  some (.inr (.inl (yt33.1, yt33.2)))
                 | (.inr yt33) =>
                  some (.inl ((Go.IntKind.wrap (Go.IntKind.i64 ) (yt33.1 + 1)), yt33.2.1, yt33.2.2.1, yt33.2.2.2.1, yt33.2.2.2.2.1, yt33.2.2.2.2.2.1, yt33.2.2.2.2.2.2))) (
                 (t33 (yl2.1, y34, yl2.2.2.2.2.2.2.2.2.2.2.2.2.2.1, yl2.2.2.2.1, yl2.2.2.2.2.1, yl2.2.2.2.2.2.1, yl2.2.2.2.2.2.2.1, yl2.2.2.2.2.2.2.2.1, yl2.2.2.2.2.2.2.2.2.1, yl2.2.2.2.2.2.2.2.2.2.1, yl2.2.2.2.2.2.2.2.2.2.2.1, yl2.2.2.2.2.2.2.2.2.2.2.2.1, yl2.2.2.2.2.2.2.2.2.2.2.2.2.1, yl2.2.2.2.2.2.2.2.2.2.2.2.2.2.1, yl2.2.2.2.2.2.2.2.2.2.2.2.2.2.2.1, yl2.2.2.2.2.2.2.2.2.2.2.2.2.2.2.2.1, yl2.2.2.2.2.2.2.2.2.2.2.2.2.2.2.2.2.1, yl2.2.2.2.2.2.2.2.2.2.2.2.2.2.2.2.2.2.1, yl2.2.2.2.2.2.2.2.2.2.2.2.2.2.2.2.2.2.2)).bind fun q => match q with
                 | (.inl yt33) =>
                  some (.inr (.inl (yt33.1, yt33.2)))
                 | (.inr yt33) =>
                  some (.inl ((Go.IntKind.wrap (Go.IntKind.i64 ) (yt33.1 + 1)), yt33.2.1, yt33.2.2.1, yt33.2.2.2.1, yt33.2.2.2.2.1, yt33.2.2.2.2.2.1, yt33.2.2.2.2.2.2))))) none))) none) none) none)) none) none) none) none) (
   some (.inr (.inr (r64, r128))))
noncomputable def l0 (x : Int × Int × Int × Int × (List S54) × (List S56) × (List S71)) : Option ((Int × Int) ⊕ ((List S54) × (List S56))) := lim l0.b x
theorem l0.eq : ∀ x, l0.b x = roundX (mkE tab es 228 [(2, some (loopO 2 (cutOf l2.A l2.c) (cutsOf l2.xs l2.y) l2))] [(33, some (tailO (cutOf t33.A t33.c) (cutsOf t33.xs t33.y) t33))]) (loopAt 0 code) (cutOf l0.A l0.c) (cutsOf l0.xs l0.y) x := fun x => by kernel_rfl
theorem l0.owed {R : Type} : owed (mkE (R := R) tab es 228 [(2, some (loopO 2 (cutOf l2.A l2.c) (cutsOf l2.xs l2.y) l2))] [(33, some (tailO (cutOf t33.A t33.c) (cutsOf t33.xs t33.y) t33))]) (loopAt 0 code) = [((.block 2 (.loop (loopAt 2 code))), (loopO (R := _) 2 (cutOf l2.A l2.c) (cutsOf l2.xs l2.y) l2)), ((tailAt 33 code), (tailO (R := _) (cutOf t33.A t33.c) (cutsOf t33.xs t33.y) t33))] := by kernel_rfl
theorem l0.ok (w0 : World) (M : Own) (h : Pinned M []) {R : Type} : SoundO prog w0 M 228 (.block 0 (.loop (loopAt 0 code))) (loopO (R := R) 0 (cutOf l0.A l0.c) (cutsOf l0.xs l0.y) l0) :=
  loop_ok tabOk uniOk mixed l0.eq (h.sub rfl) (h.sub rfl) fun x hx => by rw [l0.owed] at hx; rcases List.mem_cons.1 hx with rfl | hx; exact l2.ok w0 M h; rcases List.mem_cons.1 hx with rfl | hx; exact t33.ok w0 M h; exact absurd hx List.not_mem_nil

def l4.A : Ann := ⟨[(1, .slc 5000064 []), (2, .slc 5000128 []), (17, .sc), (18, .sc)], [], [(5000064, false, 2), (5000128, false, 3)], []⟩
def l4.c : Cod uni (Int × Int × (List S54) × (List S56)) := (codC (iInt .i64) (codC (iInt .i64) (codC (iRow 2) (cod1 (iRow 3)))))
def l4.xs : List (AExit × Ann) := [((.exit 4), ⟨[(2, .slc 5000128 []), (17, .sc)], [], [(5000128, false, 3)], []⟩)]
def l4.y : Coy uni ((Int × (List S56))) := (coy1 (codC (iInt .i64) (cod1 (iRow 3))))
noncomputable def l4.b : Int × Int × (List S54) × (List S56) → Option ((Int × Int × (List S54) × (List S56)) ⊕ ((Int × (List S56))))
  | (v17, v18, r64, r128) =>
  let x0 := (decide (v18 < ((List.length r64) : Int)))
  cond x0 (
   cond ((decide (0 ≤ v18)) && x0) (
    some (.inl ((Go.IntKind.wrap (Go.IntKind.i64 ) (v17 + ((List.length (List.getD r64 (Int.toNat v18) z54).f2) : Int))), (Go.IntKind.wrap (Go.IntKind.i64 ) (v18 + 1)), r64, r128))) none) (
   some (.inr (v17, r128)))
noncomputable def l4 (x : Int × Int × (List S54) × (List S56)) : Option ((Int × (List S56))) := lim l4.b x
theorem l4.eq : ∀ x, l4.b x = roundX (mkE tab es 228 [] []) (loopAt 4 code) (cutOf l4.A l4.c) (cutsOf l4.xs l4.y) x := fun x => by kernel_rfl
theorem l4.owed {R : Type} : owed (mkE (R := R) tab es 228 [] []) (loopAt 4 code) = [] := by kernel_rfl
theorem l4.ok (w0 : World) (M : Own) (h : Pinned M []) {R : Type} : SoundO prog w0 M 228 (.block 4 (.loop (loopAt 4 code))) (loopO (R := R) 4 (cutOf l4.A l4.c) (cutsOf l4.xs l4.y) l4) :=
  loop_ok tabOk uniOk mixed l4.eq (h.sub rfl) (h.sub rfl) fun x hx => by rw [l4.owed] at hx; exact absurd hx List.not_mem_nil

noncomputable def F : ((Int × Int × Int) × (List S54) × (List S56)) → Option ((Int × Int))
  | ((p0_0, p0_1, p0_2), p1, p2) =>
  cond ((decide (((List.length p1) : Int) > 4096)) || (decide (((List.length p2) : Int) > 4096))) (
   some (2, 0)) (
   (F32.F ((p0_0, (p0_1, p0_2)), p1)).bind fun y32 =>
   cond (!y32) (
    some (1, 0)) (
    (F33.F p0_0).bind fun y33 =>
    (l0 (0, p0_0, p0_1, p0_2, p1, p2, y33)).bind fun q => match q with
    | (.inl yl0) =>
     some (yl0.1, yl0.2)
    | (.inr yl0) =>
     (l4 (0, 0, yl0.1, yl0.2)).bind fun yl4 =>
     let x0 := ((List.length yl4.2) : Int)
     cond (decide (x0 < yl4.1)) (
      some (18, x0)) (
      some (0, 0))))
theorem F.eq : ∀ x, F x = runF (mkE tab es 228 [(0, some (loopO 0 (cutOf l0.A l0.c) (cutsOf l0.xs l0.y) l0)), (4, some (loopO 4 (cutOf l4.A l4.c) (cutsOf l4.xs l4.y) l4))] []) code [.agg [.sc, .sc, .sc], .row 2 0, .row 3 0] [.sc, .sc] [.tmp 6, .tmp 7] (Coz.dec cr) (cp.enc x) := fun x => by kernel_rfl
theorem F.owed : owed (mkE (R := (Int × Int)) tab es 228 [(0, some (loopO 0 (cutOf l0.A l0.c) (cutsOf l0.xs l0.y) l0)), (4, some (loopO 4 (cutOf l4.A l4.c) (cutsOf l4.xs l4.y) l4))] []) code = [((.block 0 (.loop (loopAt 0 code))), (loopO (R := _) 0 (cutOf l0.A l0.c) (cutsOf l0.xs l0.y) l0)), ((.block 4 (.loop (loopAt 4 code))), (loopO (R := _) 4 (cutOf l4.A l4.c) (cutsOf l4.xs l4.y) l4))] := by kernel_rfl
theorem con : ∀ x y, F x = some y → Con prog 9 [.agg [.sc, .sc, .sc], .row 2 0, .row 3 0] [.sc, .sc] (cp.enc x) (cr.enc y).1 (cr.enc y).2 :=
  func_ok (c := code) (n := 228) (pf := [.agg [.sc, .sc, .sc], .row 2 0, .row 3 0]) (res := [.tmp 6, .tmp 7]) tabOk uniOk mixed get (by kernel_rfl) (by kernel_rfl) (by kernel_rfl) (by decide) F.eq fun w0 M h x hx => by rw [F.owed] at hx; rcases List.mem_cons.1 hx with rfl | hx; exact l0.ok w0 M h; rcases List.mem_cons.1 hx with rfl | hx; exact l4.ok w0 M h; exact absurd hx List.not_mem_nil
noncomputable def ent : Ent prog uni := Ent.of 9 [.agg [.sc, .sc, .sc], .row 2 0, .row 3 0] [.sc, .sc] cp cr F con fun args w => enters_of get (by kernel_rfl) rfl args w
end Go.Proofs.YtchohkelpjfpcaaDoor.AX.F9

/- The function 64 of the program in the small machine. No conditions. -/
namespace Go.Proofs.YtchohkelpjfpcaaDoor.AX.F64
open Go Go.Proofs.Tryd
noncomputable def code : Code := bodyOf f64
abbrev Y : Type := Bool
def cp : Cod uni ((Int × Int × Int × Int) × (Int × Int × Int × Int)) := (codC (iAgg (codC (iInt .i64) (codC (iInt .i64) (codC (iInt .i64) (cod1 (iInt .i64)))))) (cod1 (iAgg (codC (iInt .i64) (codC (iInt .i64) (codC (iInt .i64) (cod1 (iInt .i64))))))))
def cr : Coz uni Bool := (cozR (cod1 iBool) (codD (codD cod0)))
noncomputable def es : List (Ent prog uni) := []
theorem get : prog.funcs[64]? = some f64 := by kernel_rfl

noncomputable def F : ((Int × Int × Int × Int) × (Int × Int × Int × Int)) → Option (Bool)
  | ((p0_0, p0_1, p0_2, p0_3), (p1_0, p1_1, p1_2, p1_3)) =>
  cond (p0_0 != p1_0) (
   some false) (
   cond (p0_1 != p1_1) (
    some false) (
    cond (p0_2 != p1_2) (
     some false) (
     cond (p0_3 != p1_3) (
      some false) (
      some true))))
theorem F.eq : ∀ x, F x = runF (mkE tab es 25 [] []) code [.agg [.sc, .sc, .sc, .sc], .agg [.sc, .sc, .sc, .sc]] [.sc] [.tmp 4] (Coz.dec cr) (cp.enc x) := fun x => by kernel_rfl
theorem F.owed : owed (mkE (R := Bool) tab es 25 [] []) code = [] := by kernel_rfl
theorem con : ∀ x y, F x = some y → Con prog 64 [.agg [.sc, .sc, .sc, .sc], .agg [.sc, .sc, .sc, .sc]] [.sc] (cp.enc x) (cr.enc y).1 (cr.enc y).2 :=
  func_ok (c := code) (n := 25) (pf := [.agg [.sc, .sc, .sc, .sc], .agg [.sc, .sc, .sc, .sc]]) (res := [.tmp 4]) tabOk uniOk mixed get (by kernel_rfl) (by kernel_rfl) (by kernel_rfl) (by decide) F.eq fun w0 M h x hx => by rw [F.owed] at hx; exact absurd hx List.not_mem_nil
noncomputable def ent : Ent prog uni := Ent.of 64 [.agg [.sc, .sc, .sc, .sc], .agg [.sc, .sc, .sc, .sc]] [.sc] cp cr F con fun args w => enters_of get (by kernel_rfl) rfl args w
end Go.Proofs.YtchohkelpjfpcaaDoor.AX.F64

/- The function 55 of the program in the small machine. No conditions. -/
namespace Go.Proofs.YtchohkelpjfpcaaDoor.AX.F55
open Go Go.Proofs.Tryd
noncomputable def code : Code := bodyOf f55
abbrev Y : Type := Bool
def cp : Cod uni ((List S69) × (List S69)) := (codC (iRow 6) (cod1 (iRow 6)))
def cr : Coz uni Bool := (cozR (cod1 iBool) (codD (codD cod0)))
noncomputable def es : List (Ent prog uni) := [F64.ent]
theorem get : prog.funcs[55]? = some f55 := by kernel_rfl

def l0.A : Ann := ⟨[(0, .slc 5000000 []), (1, .slc 5000064 []), (5, .sc)], [], [(5000000, false, 6), (5000064, false, 6)], []⟩
def l0.c : Cod uni (Int × (List S69) × (List S69)) := (codC (iInt .i64) (codC (iRow 6) (cod1 (iRow 6))))
def l0.xs : List (AExit × Ann) := [(.ret, ⟨[(4, .sc)], [], [], []⟩), ((.exit 0), ⟨[], [], [], []⟩)]
def l0.y : Coy uni (Bool ⊕ Unit) := (coyS (cod1 iBool) (coy1 cod0))
noncomputable def l0.b : Int × (List S69) × (List S69) → Option ((Int × (List S69) × (List S69)) ⊕ (Bool ⊕ Unit))
  | (v5, r0, r64) =>
  let x0 := (decide (v5 < ((List.length r0) : Int)))
  cond x0 (
   cond ((decide (0 ≤ v5)) && x0) (
    cond ((decide (0 ≤ v5)) && (decide (v5 < ((List.length r64) : Int)))) (
     let x1 := (List.getD r64 (Int.toNat v5) z69)
     let x2 := (List.getD r0 (Int.toNat v5) z69)
     (F64.F ((x2.f0, (x2.f1, (x2.f2, x2.f3))), (x1.f0, (x1.f1, (x1.f2, x1.f3))))).bind fun y64 =>
     cond (!y64) (
      some (.inr (.inl false))) (
      some (.inl ((Go.IntKind.wrap (Go.IntKind.i64 ) (v5 + 1)), r0, r64)))) none) none) (
   some (.inr (.inr ())))
noncomputable def l0 (x : Int × (List S69) × (List S69)) : Option (Bool ⊕ Unit) := lim l0.b x
theorem l0.eq : ∀ x, l0.b x = roundX (mkE tab es 27 [] []) (loopAt 0 code) (cutOf l0.A l0.c) (cutsOf l0.xs l0.y) x := fun x => by kernel_rfl
theorem l0.owed {R : Type} : owed (mkE (R := R) tab es 27 [] []) (loopAt 0 code) = [] := by kernel_rfl
theorem l0.ok (w0 : World) (M : Own) (h : Pinned M []) {R : Type} : SoundO prog w0 M 27 (.block 0 (.loop (loopAt 0 code))) (loopO (R := R) 0 (cutOf l0.A l0.c) (cutsOf l0.xs l0.y) l0) :=
  loop_ok tabOk uniOk mixed l0.eq (h.sub rfl) (h.sub rfl) fun x hx => by rw [l0.owed] at hx; exact absurd hx List.not_mem_nil

noncomputable def F : ((List S69) × (List S69)) → Option (Bool)
  | (p0, p1) =>
  cond (((List.length p0) : Int) != ((List.length p1) : Int)) (
   some false) (
   (l0 (0, p0, p1)).bind fun q => match q with
   | (.inl yl0) =>
    some yl0
   | (.inr yl0) =>
    some true)
theorem F.eq : ∀ x, F x = runF (mkE tab es 27 [(0, some (loopO 0 (cutOf l0.A l0.c) (cutsOf l0.xs l0.y) l0))] []) code [.row 6 0, .row 6 0] [.sc] [.tmp 4] (Coz.dec cr) (cp.enc x) := fun x => by kernel_rfl
theorem F.owed : owed (mkE (R := Bool) tab es 27 [(0, some (loopO 0 (cutOf l0.A l0.c) (cutsOf l0.xs l0.y) l0))] []) code = [((.block 0 (.loop (loopAt 0 code))), (loopO (R := _) 0 (cutOf l0.A l0.c) (cutsOf l0.xs l0.y) l0))] := by kernel_rfl
theorem con : ∀ x y, F x = some y → Con prog 55 [.row 6 0, .row 6 0] [.sc] (cp.enc x) (cr.enc y).1 (cr.enc y).2 :=
  func_ok (c := code) (n := 27) (pf := [.row 6 0, .row 6 0]) (res := [.tmp 4]) tabOk uniOk mixed get (by kernel_rfl) (by kernel_rfl) (by kernel_rfl) (by decide) F.eq fun w0 M h x hx => by rw [F.owed] at hx; rcases List.mem_cons.1 hx with rfl | hx; exact l0.ok w0 M h; exact absurd hx List.not_mem_nil
noncomputable def ent : Ent prog uni := Ent.of 55 [.row 6 0, .row 6 0] [.sc] cp cr F con fun args w => enters_of get (by kernel_rfl) rfl args w
end Go.Proofs.YtchohkelpjfpcaaDoor.AX.F55

/- The function 41 of the program in the small machine. No conditions. -/
namespace Go.Proofs.YtchohkelpjfpcaaDoor.AX.F41
open Go Go.Proofs.Tryd
noncomputable def code : Code := bodyOf f41
abbrev Y : Type := Bool
def cp : Cod uni ((ByteArray × Int × (List S69)) × (ByteArray × Int × (List S69))) := (codC (iAgg (codC iStr (codC (iInt .i64) (cod1 (iRow 6))))) (cod1 (iAgg (codC iStr (codC (iInt .i64) (cod1 (iRow 6)))))))
def cr : Coz uni Bool := (cozR (cod1 iBool) (codD (codD cod0)))
noncomputable def es : List (Ent prog uni) := [F55.ent]
theorem get : prog.funcs[41]? = some f41 := by kernel_rfl

noncomputable def F : ((ByteArray × Int × (List S69)) × (ByteArray × Int × (List S69))) → Option (Bool)
  | ((p0_0, p0_1, p0_2), (p1_0, p1_1, p1_2)) =>
  cond (!((ByteArray.toList p0_0) == (ByteArray.toList p1_0))) (
   some false) (
   cond (p0_1 != p1_1) (
    some false) (
    (F55.F (p0_2, p1_2)).bind fun y55 =>
    cond (!y55) (
     some false) (
     some true)))
theorem F.eq : ∀ x, F x = runF (mkE tab es 21 [] []) code [.agg [.sc, .sc, .row 6 0], .agg [.sc, .sc, .row 6 0]] [.sc] [.tmp 4] (Coz.dec cr) (cp.enc x) := fun x => by kernel_rfl
theorem F.owed : owed (mkE (R := Bool) tab es 21 [] []) code = [] := by kernel_rfl
theorem con : ∀ x y, F x = some y → Con prog 41 [.agg [.sc, .sc, .row 6 0], .agg [.sc, .sc, .row 6 0]] [.sc] (cp.enc x) (cr.enc y).1 (cr.enc y).2 :=
  func_ok (c := code) (n := 21) (pf := [.agg [.sc, .sc, .row 6 0], .agg [.sc, .sc, .row 6 0]]) (res := [.tmp 4]) tabOk uniOk mixed get (by kernel_rfl) (by kernel_rfl) (by kernel_rfl) (by decide) F.eq fun w0 M h x hx => by rw [F.owed] at hx; exact absurd hx List.not_mem_nil
noncomputable def ent : Ent prog uni := Ent.of 41 [.agg [.sc, .sc, .row 6 0], .agg [.sc, .sc, .row 6 0]] [.sc] cp cr F con fun args w => enters_of get (by kernel_rfl) rfl args w
end Go.Proofs.YtchohkelpjfpcaaDoor.AX.F41

/- The function 14 of the program in the small machine. No conditions. -/
namespace Go.Proofs.YtchohkelpjfpcaaDoor.AX.F14
open Go Go.Proofs.Tryd
noncomputable def code : Code := bodyOf f14
abbrev Y : Type := Bool
def cp : Cod uni ((List S54) × (List S54)) := (codC (iRow 2) (cod1 (iRow 2)))
def cr : Coz uni Bool := (cozR (cod1 iBool) (codD (codD cod0)))
noncomputable def es : List (Ent prog uni) := [F41.ent]
theorem get : prog.funcs[14]? = some f14 := by kernel_rfl

def l0.A : Ann := ⟨[(0, .slc 5000000 []), (1, .slc 5000064 []), (5, .sc)], [], [(5000000, false, 2), (5000064, false, 2)], []⟩
def l0.c : Cod uni (Int × (List S54) × (List S54)) := (codC (iInt .i64) (codC (iRow 2) (cod1 (iRow 2))))
def l0.xs : List (AExit × Ann) := [(.ret, ⟨[(4, .sc)], [], [], []⟩), ((.exit 0), ⟨[], [], [], []⟩)]
def l0.y : Coy uni (Bool ⊕ Unit) := (coyS (cod1 iBool) (coy1 cod0))
noncomputable def l0.b : Int × (List S54) × (List S54) → Option ((Int × (List S54) × (List S54)) ⊕ (Bool ⊕ Unit))
  | (v5, r0, r64) =>
  let x0 := (decide (v5 < ((List.length r0) : Int)))
  cond x0 (
   cond ((decide (0 ≤ v5)) && x0) (
    cond ((decide (0 ≤ v5)) && (decide (v5 < ((List.length r64) : Int)))) (
     let x1 := (List.getD r64 (Int.toNat v5) z54)
     let x2 := (List.getD r0 (Int.toNat v5) z54)
     (F41.F ((x2.f0, (x2.f1, x2.f2)), (x1.f0, (x1.f1, x1.f2)))).bind fun y41 =>
     cond (!y41) (
      some (.inr (.inl false))) (
      some (.inl ((Go.IntKind.wrap (Go.IntKind.i64 ) (v5 + 1)), r0, r64)))) none) none) (
   some (.inr (.inr ())))
noncomputable def l0 (x : Int × (List S54) × (List S54)) : Option (Bool ⊕ Unit) := lim l0.b x
theorem l0.eq : ∀ x, l0.b x = roundX (mkE tab es 27 [] []) (loopAt 0 code) (cutOf l0.A l0.c) (cutsOf l0.xs l0.y) x := fun x => by kernel_rfl
theorem l0.owed {R : Type} : owed (mkE (R := R) tab es 27 [] []) (loopAt 0 code) = [] := by kernel_rfl
theorem l0.ok (w0 : World) (M : Own) (h : Pinned M []) {R : Type} : SoundO prog w0 M 27 (.block 0 (.loop (loopAt 0 code))) (loopO (R := R) 0 (cutOf l0.A l0.c) (cutsOf l0.xs l0.y) l0) :=
  loop_ok tabOk uniOk mixed l0.eq (h.sub rfl) (h.sub rfl) fun x hx => by rw [l0.owed] at hx; exact absurd hx List.not_mem_nil

noncomputable def F : ((List S54) × (List S54)) → Option (Bool)
  | (p0, p1) =>
  cond (((List.length p0) : Int) != ((List.length p1) : Int)) (
   some false) (
   (l0 (0, p0, p1)).bind fun q => match q with
   | (.inl yl0) =>
    some yl0
   | (.inr yl0) =>
    some true)
theorem F.eq : ∀ x, F x = runF (mkE tab es 27 [(0, some (loopO 0 (cutOf l0.A l0.c) (cutsOf l0.xs l0.y) l0))] []) code [.row 2 0, .row 2 0] [.sc] [.tmp 4] (Coz.dec cr) (cp.enc x) := fun x => by kernel_rfl
theorem F.owed : owed (mkE (R := Bool) tab es 27 [(0, some (loopO 0 (cutOf l0.A l0.c) (cutsOf l0.xs l0.y) l0))] []) code = [((.block 0 (.loop (loopAt 0 code))), (loopO (R := _) 0 (cutOf l0.A l0.c) (cutsOf l0.xs l0.y) l0))] := by kernel_rfl
theorem con : ∀ x y, F x = some y → Con prog 14 [.row 2 0, .row 2 0] [.sc] (cp.enc x) (cr.enc y).1 (cr.enc y).2 :=
  func_ok (c := code) (n := 27) (pf := [.row 2 0, .row 2 0]) (res := [.tmp 4]) tabOk uniOk mixed get (by kernel_rfl) (by kernel_rfl) (by kernel_rfl) (by decide) F.eq fun w0 M h x hx => by rw [F.owed] at hx; rcases List.mem_cons.1 hx with rfl | hx; exact l0.ok w0 M h; exact absurd hx List.not_mem_nil
noncomputable def ent : Ent prog uni := Ent.of 14 [.row 2 0, .row 2 0] [.sc] cp cr F con fun args w => enters_of get (by kernel_rfl) rfl args w
end Go.Proofs.YtchohkelpjfpcaaDoor.AX.F14

/- The function 42 of the program in the small machine. No conditions. -/
namespace Go.Proofs.YtchohkelpjfpcaaDoor.AX.F42
open Go Go.Proofs.Tryd
noncomputable def code : Code := bodyOf f42
abbrev Y : Type := Bool
def cp : Cod uni ((Int × Int × Int × Int × Int × Bool) × (Int × Int × Int × Int × Int × Bool)) := (codC (iAgg (codC (iInt .i64) (codC (iInt .i64) (codC (iInt .i64) (codC (iInt .i64) (codC (iInt .i64) (cod1 iBool))))))) (cod1 (iAgg (codC (iInt .i64) (codC (iInt .i64) (codC (iInt .i64) (codC (iInt .i64) (codC (iInt .i64) (cod1 iBool)))))))))
def cr : Coz uni Bool := (cozR (cod1 iBool) (codD (codD cod0)))
noncomputable def es : List (Ent prog uni) := []
theorem get : prog.funcs[42]? = some f42 := by kernel_rfl

noncomputable def F : ((Int × Int × Int × Int × Int × Bool) × (Int × Int × Int × Int × Int × Bool)) → Option (Bool)
  | ((p0_0, p0_1, p0_2, p0_3, p0_4, p0_5), (p1_0, p1_1, p1_2, p1_3, p1_4, p1_5)) =>
  cond (p0_0 != p1_0) (
   some false) (
   cond (p0_1 != p1_1) (
    some false) (
    cond (p0_2 != p1_2) (
     some false) (
     cond (p0_3 != p1_3) (
      some false) (
      cond (p0_4 != p1_4) (
       some false) (
       cond (!(p0_5 == p1_5)) (
        some false) (
        some true))))))
theorem F.eq : ∀ x, F x = runF (mkE tab es 35 [] []) code [.agg [.sc, .sc, .sc, .sc, .sc, .sc], .agg [.sc, .sc, .sc, .sc, .sc, .sc]] [.sc] [.tmp 4] (Coz.dec cr) (cp.enc x) := fun x => by kernel_rfl
theorem F.owed : owed (mkE (R := Bool) tab es 35 [] []) code = [] := by kernel_rfl
theorem con : ∀ x y, F x = some y → Con prog 42 [.agg [.sc, .sc, .sc, .sc, .sc, .sc], .agg [.sc, .sc, .sc, .sc, .sc, .sc]] [.sc] (cp.enc x) (cr.enc y).1 (cr.enc y).2 :=
  func_ok (c := code) (n := 35) (pf := [.agg [.sc, .sc, .sc, .sc, .sc, .sc], .agg [.sc, .sc, .sc, .sc, .sc, .sc]]) (res := [.tmp 4]) tabOk uniOk mixed get (by kernel_rfl) (by kernel_rfl) (by kernel_rfl) (by decide) F.eq fun w0 M h x hx => by rw [F.owed] at hx; exact absurd hx List.not_mem_nil
noncomputable def ent : Ent prog uni := Ent.of 42 [.agg [.sc, .sc, .sc, .sc, .sc, .sc], .agg [.sc, .sc, .sc, .sc, .sc, .sc]] [.sc] cp cr F con fun args w => enters_of get (by kernel_rfl) rfl args w
end Go.Proofs.YtchohkelpjfpcaaDoor.AX.F42

/- The function 15 of the program in the small machine. No conditions. -/
namespace Go.Proofs.YtchohkelpjfpcaaDoor.AX.F15
open Go Go.Proofs.Tryd
noncomputable def code : Code := bodyOf f15
abbrev Y : Type := Bool
def cp : Cod uni ((List S56) × (List S56)) := (codC (iRow 3) (cod1 (iRow 3)))
def cr : Coz uni Bool := (cozR (cod1 iBool) (codD (codD cod0)))
noncomputable def es : List (Ent prog uni) := [F42.ent]
theorem get : prog.funcs[15]? = some f15 := by kernel_rfl

def l0.A : Ann := ⟨[(0, .slc 5000000 []), (1, .slc 5000064 []), (5, .sc)], [], [(5000000, false, 3), (5000064, false, 3)], []⟩
def l0.c : Cod uni (Int × (List S56) × (List S56)) := (codC (iInt .i64) (codC (iRow 3) (cod1 (iRow 3))))
def l0.xs : List (AExit × Ann) := [(.ret, ⟨[(4, .sc)], [], [], []⟩), ((.exit 0), ⟨[], [], [], []⟩)]
def l0.y : Coy uni (Bool ⊕ Unit) := (coyS (cod1 iBool) (coy1 cod0))
noncomputable def l0.b : Int × (List S56) × (List S56) → Option ((Int × (List S56) × (List S56)) ⊕ (Bool ⊕ Unit))
  | (v5, r0, r64) =>
  let x0 := (decide (v5 < ((List.length r0) : Int)))
  cond x0 (
   cond ((decide (0 ≤ v5)) && x0) (
    cond ((decide (0 ≤ v5)) && (decide (v5 < ((List.length r64) : Int)))) (
     let x1 := (List.getD r64 (Int.toNat v5) z56)
     let x2 := (List.getD r0 (Int.toNat v5) z56)
     (F42.F ((x2.f0, (x2.f1, (x2.f2, (x2.f3, (x2.f4, x2.f5))))), (x1.f0, (x1.f1, (x1.f2, (x1.f3, (x1.f4, x1.f5))))))).bind fun y42 =>
     cond (!y42) (
      some (.inr (.inl false))) (
      some (.inl ((Go.IntKind.wrap (Go.IntKind.i64 ) (v5 + 1)), r0, r64)))) none) none) (
   some (.inr (.inr ())))
noncomputable def l0 (x : Int × (List S56) × (List S56)) : Option (Bool ⊕ Unit) := lim l0.b x
theorem l0.eq : ∀ x, l0.b x = roundX (mkE tab es 27 [] []) (loopAt 0 code) (cutOf l0.A l0.c) (cutsOf l0.xs l0.y) x := fun x => by kernel_rfl
theorem l0.owed {R : Type} : owed (mkE (R := R) tab es 27 [] []) (loopAt 0 code) = [] := by kernel_rfl
theorem l0.ok (w0 : World) (M : Own) (h : Pinned M []) {R : Type} : SoundO prog w0 M 27 (.block 0 (.loop (loopAt 0 code))) (loopO (R := R) 0 (cutOf l0.A l0.c) (cutsOf l0.xs l0.y) l0) :=
  loop_ok tabOk uniOk mixed l0.eq (h.sub rfl) (h.sub rfl) fun x hx => by rw [l0.owed] at hx; exact absurd hx List.not_mem_nil

noncomputable def F : ((List S56) × (List S56)) → Option (Bool)
  | (p0, p1) =>
  cond (((List.length p0) : Int) != ((List.length p1) : Int)) (
   some false) (
   (l0 (0, p0, p1)).bind fun q => match q with
   | (.inl yl0) =>
    some yl0
   | (.inr yl0) =>
    some true)
theorem F.eq : ∀ x, F x = runF (mkE tab es 27 [(0, some (loopO 0 (cutOf l0.A l0.c) (cutsOf l0.xs l0.y) l0))] []) code [.row 3 0, .row 3 0] [.sc] [.tmp 4] (Coz.dec cr) (cp.enc x) := fun x => by kernel_rfl
theorem F.owed : owed (mkE (R := Bool) tab es 27 [(0, some (loopO 0 (cutOf l0.A l0.c) (cutsOf l0.xs l0.y) l0))] []) code = [((.block 0 (.loop (loopAt 0 code))), (loopO (R := _) 0 (cutOf l0.A l0.c) (cutsOf l0.xs l0.y) l0))] := by kernel_rfl
theorem con : ∀ x y, F x = some y → Con prog 15 [.row 3 0, .row 3 0] [.sc] (cp.enc x) (cr.enc y).1 (cr.enc y).2 :=
  func_ok (c := code) (n := 27) (pf := [.row 3 0, .row 3 0]) (res := [.tmp 4]) tabOk uniOk mixed get (by kernel_rfl) (by kernel_rfl) (by kernel_rfl) (by decide) F.eq fun w0 M h x hx => by rw [F.owed] at hx; rcases List.mem_cons.1 hx with rfl | hx; exact l0.ok w0 M h; exact absurd hx List.not_mem_nil
noncomputable def ent : Ent prog uni := Ent.of 15 [.row 3 0, .row 3 0] [.sc] cp cr F con fun args w => enters_of get (by kernel_rfl) rfl args w
end Go.Proofs.YtchohkelpjfpcaaDoor.AX.F15

/- The function 3 of the program in the small machine. No conditions. -/
namespace Go.Proofs.YtchohkelpjfpcaaDoor.AX.F3
open Go Go.Proofs.Tryd
noncomputable def code : Code := bodyOf f3
abbrev Y : Type := Bool
def cp : Cod uni ((Int × Int × Int) × (List S64) × (List S56)) := (codC (iAgg (codC (iInt .i64) (codC (iInt .i64) (cod1 (iInt .i64))))) (codC (iRow 0) (cod1 (iRow 1))))
def cr : Coz uni Bool := (cozR (cod1 iBool) (codD (codD (codD cod0))))
noncomputable def es : List (Ent prog uni) := [F7.ent, F8.ent, F10.ent, F11.ent, F12.ent, F9.ent, F13.ent, F14.ent, F15.ent]
theorem get : prog.funcs[3]? = some f3 := by kernel_rfl

noncomputable def F : ((Int × Int × Int) × (List S64) × (List S56)) → Option (Bool)
  | ((p0_0, p0_1, p0_2), p1, p2) =>
  (F7.F (p1, 1048576)).bind fun y7 =>
  cond (decide (y7 < 0)) (
   some true) (
   (F8.F (p2, y7)).bind fun y8 =>
   cond (decide (y8 < 0)) (
    some true) (
    let x0 := (F10.F (p0_0, (p0_1, p0_2)))
    x0.bind fun y10 =>
    (F11.F p1).bind fun y11 =>
    (F12.F p2).bind fun y12 =>
    (F9.F ((y10.1, (y10.2.1, y10.2.2)), (y11, y12))).bind fun y9 =>
    (F11.F p1).bind fun y11x2 =>
    (F12.F p2).bind fun y12x2 =>
    x0.bind fun y10x2 =>
    (F13.F ((y10x2.1, (y10x2.2.1, y10x2.2.2)), (y11x2, y12x2))).bind fun y13 =>
    cond ((y13.1 != y9.1) || (y13.2 != y9.2)) (
     some false) (
     (F11.F p1).bind fun y11x3 =>
     (F14.F (y11x2, y11x3)).bind fun y14 =>
     cond (!y14) (
      some false) (
      (F12.F p2).bind fun y12x3 =>
      (F15.F (y12x2, y12x3)).bind fun y15 =>
      cond (!y15) (
       some false) (
       some true)))))
theorem F.eq : ∀ x, F x = runF (mkE tab es 64 [] []) code [.agg [.sc, .sc, .sc], .row 0 0, .row 1 0] [.sc] [.tmp 6] (Coz.dec cr) (cp.enc x) := fun x => by kernel_rfl
theorem F.owed : owed (mkE (R := Bool) tab es 64 [] []) code = [] := by kernel_rfl
theorem con : ∀ x y, F x = some y → Con prog 3 [.agg [.sc, .sc, .sc], .row 0 0, .row 1 0] [.sc] (cp.enc x) (cr.enc y).1 (cr.enc y).2 :=
  func_ok (c := code) (n := 64) (pf := [.agg [.sc, .sc, .sc], .row 0 0, .row 1 0]) (res := [.tmp 6]) tabOk uniOk mixed get (by kernel_rfl) (by kernel_rfl) (by kernel_rfl) (by decide) F.eq fun w0 M h x hx => by rw [F.owed] at hx; exact absurd hx List.not_mem_nil
noncomputable def ent : Ent prog uni := Ent.of 3 [.agg [.sc, .sc, .sc], .row 0 0, .row 1 0] [.sc] cp cr F con fun args w => enters_of get (by kernel_rfl) rfl args w
end Go.Proofs.YtchohkelpjfpcaaDoor.AX.F3

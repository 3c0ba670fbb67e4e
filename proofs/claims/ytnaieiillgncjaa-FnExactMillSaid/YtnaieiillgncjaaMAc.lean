/- Functions: what is handed back. No conditions. -/
import Derived.Test.YtnaieiillgncjaaProg
import Derived.KernelRfl
import Derived.ProofKit
import Derived.OpenShut
import Derived.Below
import Derived.Test.YtnaieiillgncjaaMAb
set_option linter.unusedVariables false
set_option linter.unusedSimpArgs false
set_option linter.unusedSectionVars false
namespace Go.Proofs.Ytnaieiillgncjaa.AX
open Go Go.RowKit

section
variable {U : Uni} {P : Program} {tab : Tab} {sig : Sig} {CR : FuncId → List (DV U) → DV U → List (DV U) → Prop} {w0 : World} {M : Own} {N : Nat} {s : St U} {a : Act} {w : World} {ρ : Nat → Value} {F : Nat → List Nat}

theorem mat_root {id ver : Nat} {v : Value} (h : Mat w ρ s.chunk (.slc id ver []) v) (hr : isRead (s.chunk id) = true) : v = ρ id := by
  simp only [Mat, MatS] at h
  cases ec : s.chunk id with
  | row own cv k l => rw [ec] at h; exact h.2.1 trivial
  | _ => rw [ec] at hr; simp [isRead] at hr

/-- What arguments have, where it lies. -/
def ArgPin (M : Own) (A : Nat → Nat → Option Value) (pf : List PF) (n : Nat) : Prop := ∀ j c i, idAt pf n j c = some i → ∃ v, A j c = some v ∧ M.pins i = some v

theorem outCell_ok (hu : UniOk U) (hS : Sat w0 M N s.slot s.chunk ρ F a w) {pf : List PF} {n : Nat} {A : Nat → Nat → Option Value} (hA : ArgPin M A pf n) {f : RF} {x : SV} {v : Value} {l : Lent U} (h : (outCell (U := U) pf n f x).run s = some l) (hm : Mat w ρ s.chunk x v) : VCell A w f l.dv v (l.ex.flatMap F) ∧ Mine s l.ex := by
  unfold outCell at h
  split at h
  · obtain ⟨⟨D, a1, _⟩, a2, _, _⟩ := lendCell_ok hu hS h hm
    exact ⟨by cases e : l.dv <;> rw [e] at a1 <;> first | exact a1.elim | exact ⟨a1.1, a1.2.1⟩, a2⟩
  · obtain ⟨⟨D, a1, _⟩, a2, _, _⟩ := lendCell_ok hu hS h hm
    exact ⟨by cases e : l.dv <;> rw [e] at a1 <;> first | exact a1.elim | exact a1.1, a2⟩
  · rename_i j c id ver
    cases hi : idAt pf n j c with
    | none => rw [hi] at h; simp [Rd.run] at h
    | some i =>
      rw [hi] at h
      dsimp only at h
      cases hb : Nat.beq id i with
      | false => rw [hb] at h; simp [Rd.run] at h
      | true =>
        rw [hb] at h
        simp only [cond_true, Rd.run] at h
        have := Nat.eq_of_beq_eq_true hb
        subst this
        cases hr : isRead (s.chunk id) with
        | false => rw [hr] at h; simp [Rd.run] at h
        | true =>
          rw [hr] at h
          simp [Rd.run] at h; subst h
          obtain ⟨u, h1, h2⟩ := hA _ _ _ hi
          have := mat_root hm hr
          rw [(hS.pin _ _ h2).1] at this
          subst this
          exact ⟨⟨h1, rfl⟩, fun i hi => by simp at hi⟩
  · simp [Rd.run] at h

theorem outCells_ok (hu : UniOk U) (hS : Sat w0 M N s.slot s.chunk ρ F a w) {pf : List PF} {n : Nat} {A : Nat → Nat → Option Value} (hA : ArgPin M A pf n) : ∀ {fs : List RF} {xs : List SV} {vs : List Value} {ls : List (Lent U)}, (outCells (U := U) pf n fs xs).run s = some ls → MatL w ρ s.chunk xs vs → VCells A w fs (ls.map (·.dv)) vs ((ls.flatMap (·.ex)).flatMap F) ∧ Mine s (ls.flatMap (·.ex))
  | [], [], vs, ls, h, hm => by
    simp [outCells, Rd.run] at h; subst h
    simp only [MatL] at hm; subst hm
    exact ⟨rfl, fun i hi => by simp at hi⟩
  | [], _ :: _, _, _, h, _ => by simp [outCells, Rd.run] at h
  | _ :: _, [], _, _, h, _ => by simp [outCells, Rd.run] at h
  | f :: fs, x :: xs, vs, ls, h, hm => by
    simp only [outCells] at h
    have hq := Rd.run_bind h; clear h; obtain ⟨l, h1, h⟩ := hq
    have hq := Rd.run_bind h; clear h; obtain ⟨r, h2, h⟩ := hq
    simp [Rd.run] at h; subst h
    simp only [MatL] at hm
    obtain ⟨v, vr, rfl, g1, g2⟩ := hm
    obtain ⟨a1, a2⟩ := outCell_ok hu hS hA h1 g1
    obtain ⟨b1, b2⟩ := outCells_ok hu hS hA h2 g2
    exact ⟨⟨_, _, a1, b1, by simp⟩, by simp only [List.flatMap_cons]; exact a2.append b2⟩

theorem outOne_ok (hu : UniOk U) (hS : Sat w0 M N s.slot s.chunk ρ F a w) {pf : List PF} {n : Nat} {A : Nat → Nat → Option Value} (hA : ArgPin M A pf n) {f : RF} {x : SV} {v : Value} {l : Lent U} (h : (outOne (U := U) pf n f x).run s = some l) (hm : Mat w ρ s.chunk x v) : ROne A w f l.dv v (l.ex.flatMap F) ∧ OwnAll s l.ex := by
  unfold outOne at h
  split at h
  · rename_i fs ss
    have hq := Rd.run_bind h; clear h; obtain ⟨ls, h1, h⟩ := hq
    simp [Rd.run] at h; subst h
    simp only [Mat] at hm
    obtain ⟨vs, rfl, hm⟩ := hm
    obtain ⟨a1, a2⟩ := outCells_ok hu hS hA h1 hm
    exact ⟨⟨vs, rfl, a1⟩, mine_own a2⟩
  · rename_i ty fs id ver i
    simp only [Rd.run] at h
    cases ec : s.chunk id with
    | box ty' cs =>
      rw [ec] at h
      dsimp only at h
      cases hb : Nat.beq ty ty' with
      | false => rw [hb] at h; simp [Rd.run] at h
      | true =>
        rw [hb] at h
        have := Nat.eq_of_beq_eq_true hb
        subst this
        simp only [cond_true] at h
        have hq := Rd.run_bind h; clear h; obtain ⟨ls, h1, h⟩ := hq
        simp [Rd.run] at h; subst h
        obtain ⟨b, cur, g1, g2, g3⟩ := hS.box id ty cs ec
        simp only [Mat, MatP, ec] at hm
        obtain ⟨A', rfl, b', e1, e2⟩ := hm
        rw [g1] at e1
        simp only [Value.pointer.injEq, Option.some.injEq, Addr.mk.injEq, and_true] at e1
        subst e1 e2
        obtain ⟨a1, a2⟩ := outCells_ok hu hS hA h1 g3
        have hrep := hS.rep id
        rw [ec] at hrep
        obtain ⟨b2, _, k1, _, k2⟩ := hrep
        rw [g1] at k1
        simp only [Value.pointer.injEq, Option.some.injEq, Addr.mk.injEq, and_true] at k1
        subst k1
        refine ⟨⟨b, cur, _, by simp [Addr.add], g2, a1, by simp [k2]⟩, fun i hi => ?_⟩
        rcases List.mem_cons.1 hi with rfl | hi
        · rw [ec]; rfl
        · exact mine_own a2 i hi
    | _ => rw [ec] at h; simp [Rd.run] at h
  · rename_i n1 n2
    obtain ⟨a1, a2⟩ := outCell_ok hu hS hA h hm
    refine ⟨?_, mine_own a2⟩
    cases f with
    | agg fs => simp [outCell, Rd.run] at h
    | box ty fs => simp [outCell, Rd.run] at h
    | _ => exact a1

def resM (a : Act) : ResultVar → Sem Value
  | .tmp t => pure (a.tmps.getD t undef)
  | .cell q t => do loadVar t (← asAddr (a.tmps.getD q undef))

def RunAll (P : Program) (w : World) (a : Act) : List ResultVar → List Value → Prop
  | [], [] => True
  | r :: rs, v :: vs => (resM a r).run P w = .ok v w ∧ RunAll P w a rs vs
  | _, _ => False

theorem resRd_ok (hT : TabOk P U tab) (hu : UniOk U) (hS : Sat w0 M N s.slot s.chunk ρ F a w) {r : ResultVar} {sv : SV} (h : (resRd (U := U) tab r).run s = some sv) : ∃ v, (resM a r).run P w = .ok v w ∧ Mat w ρ s.chunk sv v := by
  cases r with
  | tmp t =>
    simp [resRd, Rd.run] at h; subst h
    exact ⟨_, rfl, hS.slots t⟩
  | cell q t =>
    simp only [resRd, Rd.run] at h
    have hm := hS.slots q
    split at h
    · rename_i id ver p i c e
      rw [e] at hm
      have hq := Rd.run_bind h; clear h; obtain ⟨L, h2, h⟩ := hq
      replace h2 := Rd.run_of h2
      have hq := Rd.run_bind h; clear h; obtain ⟨cs, h3, h⟩ := hq
      obtain ⟨A, vs, hA, hl, hc, hM⟩ := loadN_ok hu hS h3 hm
      obtain ⟨inf, z, d, hin, hsz, _, _, hun, hag⟩ := hT.lay t L h2
      split at h
      · rename_i cs' hL
        simp [Rd.run] at h; subst h
        refine ⟨.agg vs.toArray, ?_, by simp only [Mat]; exact ⟨vs, rfl, hM⟩⟩
        have hload := run_loadCells_list (P := P) w A vs (fun j u hj => hc j u hj)
        have : (loadVar t A).run P w = .ok (.agg vs.toArray) w := by
          simp [loadVar, run_isAgg hun, hag, hL, sizeOf, typeInfo, hin, hsz, ← hl, hload]
        simp only [resM, hA, Sem.run_bind, asAddr, Sem.run_pure, Result.andThen_ok, this]
      · rename_i s0 hL
        simp [Rd.run] at h; subst h
        simp only [MatL] at hM
        obtain ⟨u, r, rfl, hM, hr2⟩ := hM
        subst hr2
        refine ⟨u, ?_, hM⟩
        have hcu := hc 0 u rfl
        have hadd : A.add 0 = A := by simp [Addr.add]
        rw [hadd] at hcu
        have : (loadVar t A).run P w = .ok u w := by
          simp [loadVar, run_isAgg hun, hag, hL, hcu]
        simp only [resM, hA, Sem.run_bind, asAddr, Sem.run_pure, Result.andThen_ok, this]
      · simp [Rd.run] at h
    · simp [Rd.run] at h

theorem outMany_ok (hT : TabOk P U tab) (hu : UniOk U) (hS : Sat w0 M N s.slot s.chunk ρ F a w) {pf : List PF} {n : Nat} {A : Nat → Nat → Option Value} (hA : ArgPin M A pf n) : ∀ {fs : List RF} {rs : List ResultVar} {ls : List (Lent U)}, (outMany (U := U) tab pf n fs rs).run s = some ls → ∃ vs, RMany A w fs (ls.map (·.dv)) vs ((ls.flatMap (·.ex)).flatMap F) ∧ OwnAll s (ls.flatMap (·.ex)) ∧ RunAll P w a rs vs
  | [], [], ls, h => by simp [outMany, Rd.run] at h; subst h; exact ⟨[], rfl, fun i hi => by simp at hi, trivial⟩
  | [], _ :: _, ls, h => by simp [outMany, Rd.run] at h
  | _ :: _, [], ls, h => by simp [outMany, Rd.run] at h
  | f :: fs, r :: rs, ls, h => by
    simp only [outMany] at h
    have hq := Rd.run_bind h; clear h; obtain ⟨sv, h0, h⟩ := hq
    have hq := Rd.run_bind h; clear h; obtain ⟨l, h1, h⟩ := hq
    have hq := Rd.run_bind h; clear h; obtain ⟨r', h2, h⟩ := hq
    simp [Rd.run] at h; subst h
    obtain ⟨v, c1, c2⟩ := resRd_ok hT hu hS h0
    obtain ⟨a1, a2⟩ := outOne_ok hu hS hA h1 c2
    obtain ⟨vs, b1, b2, b3⟩ := outMany_ok hT hu hS hA h2
    exact ⟨v :: vs, ⟨_, _, a1, b1, by simp⟩, by simp only [List.flatMap_cons]; exact a2.app b2, c1, b3⟩

theorem run_results {fn : Func} {rs : List ResultVar} {vs : List Value} (h : fn.results.toList = rs) (ht : RunAll P w a rs vs) : (results fn a.tmps).run P w = .ok (tupV vs) w := by
  have hm : ∀ (g : ResultVar → Sem Value), (∀ r, g r = resM a r) → ∀ {rs : List ResultVar} {vs : List Value}, RunAll P w a rs vs → (rs.mapM g).run P w = .ok vs w := by
    intro g hg rs
    induction rs with
    | nil => intro vs ht; cases vs with
      | nil => rfl
      | cons _ _ => exact ht.elim
    | cons x rs ih =>
      intro vs ht
      cases vs with
      | nil => exact ht.elim
      | cons v vs =>
        rw [List.mapM_cons, hg]
        simp only [Sem.run_bind, ht.1, Result.andThen_ok, ih ht.2]
        rfl
  have hres : fn.results = rs.toArray := by rw [← h]
  unfold results
  rw [hres, List.mapM_toArray, Sem.run_bind, ← bind_pure_comp, Sem.run_bind, hm _ (fun r => by cases r <;> rfl) ht]
  simp only [Result.andThen_ok]
  cases vs with
  | nil => rfl
  | cons x rs => cases rs <;> rfl

theorem distinct_own {ids : List Nat} (hS : Sat w0 M N s.slot s.chunk ρ F a w) (hd : distinct ids = true) (ho : OwnAll s ids) : (ids.flatMap F).Nodup := by
  refine flat_nodup (distinct_nodup hd) (fun i hi => ?_) (fun i hi j hj hij => hS.disj i j hij (ho i hi))
  have ho := ho i hi
  have hrep := hS.rep i
  cases ec : s.chunk i with
  | row own v k l =>
    rw [ec] at hrep ho
    cases own with
    | true => obtain ⟨d, hrep⟩ := hrep; exact hrep.nodup
    | false => simp [Chunk.own] at ho
  | holed => rw [ec] at hrep; obtain ⟨_, _, _, _, d, _, _, _, _, _, _, hn⟩ := hrep; exact hn
  | box => rw [ec] at hrep; obtain ⟨b, _, _, _, e⟩ := hrep; rw [e]; simp
  | fresh => rw [ec] at ho; simp [Chunk.own] at ho
  | gone => rw [ec] at ho; simp [Chunk.own] at ho
  | mp => rw [ec] at hrep; obtain ⟨b, _, _, _, _, _, e⟩ := hrep; rw [e]; simp

theorem rep_len {own : Bool} {d k : Nat} {l : List (U.El k)} {v : Value} {G : List Nat} (h : RepT own d w v (.row k l) G) : ∃ A cap, v = .slice A l.length cap := by
  cases d with
  | zero => exact h.elim
  | succ d =>
    obtain ⟨cells, B, G, hR, _⟩ := h
    obtain ⟨A, cap, e, _⟩ := hR.slice
    exact ⟨A, cap, e⟩

/-- Pins of a parameter. -/
def PinV (M : Own) (w0 : World) (ids : List Nat) (f : PF) (v : Value) (n : Nat) : Prop := PinOne w0 (fun i v => i ∈ ids → M.pins i = some v) f v n

theorem turnCell_ok (hS : Sat w0 M N s.slot s.chunk ρ F a w) {f : PF} {n : Nat} {l : Lent U} (h : (turnCell (U := U) f n).run s = some l) {d : DV U} {v : Value} {E D : List Nat} (hin : CIn w0 f d v E D) {x : SV × List (Nat × Chunk U)} (he : entCell f d n = some x)
    (hp : f.turns = true → M.pins n = some v) : TOut w f d l.dv v (l.ex.flatMap F) ∧ OwnAll s l.ex := by
  have other : (∀ k, f ≠ .row k 1) → TOut w f d l.dv v (l.ex.flatMap F) ∧ OwnAll s l.ex := fun hf => by
    have h' : (Rd.ret (⟨.agg [], [], []⟩ : Lent U)).run s = some l := by
      unfold turnCell at h
      split at h
      · exact absurd rfl (hf _)
      · exact h
    simp [Rd.run] at h'; subst h'
    refine ⟨?_, fun i hi => by simp at hi⟩
    unfold TOut
    split
    · exact absurd rfl (hf _)
    · exact absurd rfl (hf _)
    · rfl
  cases f with
  | row k m =>
    by_cases hm : m = 1
    · subst hm
      obtain ⟨hρ, _⟩ := hS.pin n v (hp rfl)
      simp only [turnCell, Rd.run] at h
      cases ec : s.chunk n with
      | row own ver k' l' =>
        rw [ec] at h
        cases own with
        | false => simp [Rd.run] at h
        | true =>
          dsimp only at h
          cases hb : Nat.beq k k' with
          | false => rw [hb] at h; simp [Rd.run] at h
          | true =>
            rw [hb] at h
            have := Nat.eq_of_beq_eq_true hb
            subst this
            simp [Rd.run] at h; subst h
            have hrep := hS.rep n
            rw [ec, hρ] at hrep
            refine ⟨?_, fun i hi => by simp at hi; subst hi; rw [ec]; rfl⟩
            cases d with
            | row k0 l0 =>
              obtain ⟨⟨m0, hin⟩, _⟩ := hin
              obtain ⟨A, cap, e1⟩ := rep_len hin
              obtain ⟨d', hrep'⟩ := hrep
              obtain ⟨A', cap', e2⟩ := rep_len hrep'
              rw [e1] at e2
              simp only [Value.slice.injEq] at e2
              simp only [entCell] at he
              cases hk : Nat.beq k k0 with
              | false => rw [hk] at he; simp at he
              | true =>
                have := Nat.eq_of_beq_eq_true hk
                subst this
                simp only [TOut]
                refine ⟨⟨d', by simpa using hrep'⟩, ?_⟩
                simpa using e2.2.1.symm
            | _ => exact hin.elim
      | _ => rw [ec] at h; simp [Rd.run] at h
    · exact other fun k' e => by injection e with _ e; exact hm e
  | _ => exact other fun k' e => by cases e

theorem turnCs_ok (hS : Sat w0 M N s.slot s.chunk ρ F a w) : ∀ {fs : List PF} {n : Nat} {ls : List (Lent U)}, (turnCs (U := U) fs n).run s = some ls → ∀ {ds : List (DV U)} {vs : List Value} {E D : List Nat}, CsIn w0 fs ds vs E D → ∀ {x : List SV × List (Nat × Chunk U)}, entCells fs ds n = some x →
    ∀ {ids : List Nat}, PinsC (fun i v => i ∈ ids → M.pins i = some v) fs vs n → (∀ i ∈ pinCs true fs n, i ∈ ids) → TsOut w fs ds (ls.map (·.dv)) vs ((ls.flatMap (·.ex)).flatMap F) ∧ OwnAll s (ls.flatMap (·.ex))
  | [], n, ls, h, ds, vs, E, D, hin, x, he, ids, hp, hi => by
    simp [turnCs, Rd.run] at h; subst h
    cases ds <;> cases vs <;> first | exact hin.elim | exact ⟨rfl, fun i hi => by simp at hi⟩
  | f :: fs, n, ls, h, [], vs, E, D, hin, x, he, ids, hp, hi => hin.elim
  | f :: fs, n, ls, h, _ :: _, [], E, D, hin, x, he, ids, hp, hi => hin.elim
  | f :: fs, n, ls, h, d :: ds, v :: vs, E, D, hin, x, he, ids, hp, hi => by
    simp only [turnCs] at h
    have hq := Rd.run_bind h; clear h; obtain ⟨l, h1, h⟩ := hq
    have hq := Rd.run_bind h; clear h; obtain ⟨r, h2, h⟩ := hq
    simp [Rd.run] at h; subst h
    obtain ⟨E1, E2, D1, D2, g1, g2, rfl, rfl⟩ := hin
    simp only [entCells, Option.bind_eq_some_iff] at he
    obtain ⟨y, he1, z, he2, _⟩ := he
    obtain ⟨a1, a2⟩ := turnCell_ok hS h1 g1 he1 fun ht => by
      refine hp.1 ?_ (hi n ?_)
      · cases f <;> simp [PF.turns] at ht ⊢ <;> rfl
      · have : f.pinC true = true := by
          unfold PF.turns at ht
          split at ht
          · rfl
          · simp at ht
        simp [pinCs, this]
    obtain ⟨b1, b2⟩ := turnCs_ok hS h2 g2 he2 hp.2 fun i hx => hi i (by
      simp only [pinCs]
      cases f.pinC true with
      | true => exact List.mem_cons_of_mem _ hx
      | false => exact hx)
    exact ⟨⟨_, _, a1, b1, by simp⟩, by simp only [List.flatMap_cons]; exact a2.app b2⟩

theorem backCell_ok (hu : UniOk U) (hS : Sat w0 M N s.slot s.chunk ρ F a w) {f : PF} {n : Nat} {x : SV} {l : Lent U} (h : (backCell (U := U) f n x).run s = some l) {u v : Value} (hm : Mat w ρ s.chunk x v) (hp : (∃ k, f = .ro k) → M.pins n = some u) : COut w f l.dv u v (l.ex.flatMap F) ∧ Mine s l.ex := by
  unfold backCell at h
  split at h
  · obtain ⟨⟨D, a1, _⟩, a2, _, _⟩ := lendCell_ok hu hS h hm
    exact ⟨by cases e : l.dv <;> rw [e] at a1 <;> first | exact a1.elim | exact ⟨a1.1, a1.2.1⟩, a2⟩
  · obtain ⟨⟨D, a1, _⟩, a2, _, _⟩ := lendCell_ok hu hS h hm
    exact ⟨by cases e : l.dv <;> rw [e] at a1 <;> first | exact a1.elim | exact a1.1, a2⟩
  · rename_i k id ver
    cases hb : Nat.beq id n with
    | false => rw [hb] at h; simp [Rd.run] at h
    | true =>
      rw [hb] at h
      simp only [cond_true, Rd.run] at h
      have := Nat.eq_of_beq_eq_true hb
      subst this
      cases hr : isRead (s.chunk id) with
      | false => rw [hr] at h; simp [Rd.run] at h
      | true =>
        rw [hr] at h
        simp [Rd.run] at h; subst h
        have := mat_root hm hr
        rw [(hS.pin _ _ (hp ⟨k, rfl⟩)).1] at this
        subst this
        exact ⟨⟨rfl, rfl⟩, fun i hi => by simp at hi⟩
  · simp [Rd.run] at h

theorem backCs_ok (hu : UniOk U) (hS : Sat w0 M N s.slot s.chunk ρ F a w) : ∀ {fs : List PF} {n : Nat} {xs : List SV} {ls : List (Lent U)}, (backCs (U := U) fs n xs).run s = some ls → ∀ {us vs : List Value}, MatL w ρ s.chunk xs vs → us.length = fs.length →
    ∀ {ids : List Nat}, PinsC (fun i v => i ∈ ids → M.pins i = some v) fs us n → (∀ i ∈ pinCs false fs n, i ∈ ids) → CsOut w fs (ls.map (·.dv)) us vs ((ls.flatMap (·.ex)).flatMap F) ∧ Mine s (ls.flatMap (·.ex))
  | [], n, [], ls, h, us, vs, hm, hl, ids, hp, hi => by
    simp [backCs, Rd.run] at h; subst h
    simp only [MatL] at hm; subst hm
    cases us with
    | nil => exact ⟨rfl, fun i hi => by simp at hi⟩
    | cons _ _ => simp at hl
  | [], n, _ :: _, ls, h, us, vs, hm, hl, ids, hp, hi => by simp [backCs, Rd.run] at h
  | _ :: _, n, [], ls, h, us, vs, hm, hl, ids, hp, hi => by simp [backCs, Rd.run] at h
  | f :: fs, n, x :: xs, ls, h, [], vs, hm, hl, ids, hp, hi => by simp at hl
  | f :: fs, n, x :: xs, ls, h, u :: us, vs, hm, hl, ids, hp, hi => by
    simp only [backCs] at h
    have hq := Rd.run_bind h; clear h; obtain ⟨l, h1, h⟩ := hq
    have hq := Rd.run_bind h; clear h; obtain ⟨r, h2, h⟩ := hq
    simp [Rd.run] at h; subst h
    simp only [MatL] at hm
    obtain ⟨v, vr, rfl, g1, g2⟩ := hm
    obtain ⟨a1, a2⟩ := backCell_ok hu hS h1 (u := u) g1 fun ⟨k, hk⟩ => by
      subst hk
      exact hp.1 rfl (hi n (by simp [pinCs, PF.pinC]))
    obtain ⟨b1, b2⟩ := backCs_ok hu hS h2 g2 (by simpa using hl) hp.2 fun i hx => hi i (by
      simp only [pinCs]
      cases f.pinC false with
      | true => exact List.mem_cons_of_mem _ hx
      | false => exact hx)
    exact ⟨⟨_, _, a1, b1, by simp⟩, by simp only [List.flatMap_cons]; exact a2.append b2⟩

theorem csin_len : ∀ {fs : List PF} {ds : List (DV U)} {vs : List Value} {E D : List Nat}, CsIn w fs ds vs E D → vs.length = fs.length ∧ ds.length = fs.length
  | [], [], [], _, _, _ => ⟨rfl, rfl⟩
  | _ :: _, _ :: _, _ :: _, _, _, h => by obtain ⟨_, _, _, _, _, h, _⟩ := h; have := csin_len h; simp [this.1, this.2]
  | [], [], _ :: _, _, _, h => h.elim
  | [], _ :: _, _, _, _, h => h.elim
  | _ :: _, [], _, _, _, h => h.elim
  | _ :: _, _ :: _, [], _, _, h => h.elim

theorem tsout_none {w' : World} : ∀ {fs : List PF} {ds : List (DV U)} {vs : List Value} {E D : List Nat}, CsIn w fs ds vs E D → fs.any PF.turns = false → TsOut w' fs ds (List.replicate fs.length (.agg [])) vs []
  | [], [], [], _, _, _, _ => rfl
  | f :: fs, d :: ds, v :: vs, _, _, h, ht => by
    obtain ⟨_, _, _, _, _, h, _⟩ := h
    simp only [List.any_cons, Bool.or_eq_false_iff] at ht
    refine ⟨[], [], ?_, tsout_none h ht.2, rfl⟩
    unfold TOut
    split
    · simp [PF.turns] at ht
    · simp [PF.turns] at ht
    · rfl
  | [], [], _ :: _, _, _, h, _ => h.elim
  | [], _ :: _, _, _, _, h, _ => h.elim
  | _ :: _, [], _, _, _, h, _ => h.elim
  | _ :: _, _ :: _, [], _, _, h, _ => h.elim

theorem backOne_ok (hu : UniOk U) (hS : Sat w0 M N s.slot s.chunk ρ F a w) {f : PF} {n : Nat} {l : Lent U} (h : (backOne (U := U) f n).run s = some l) {d : DV U} {v : Value} {E D : List Nat} (hin : AIn w0 f d v E D) {x : SV × List (Nat × Chunk U)} (he : entOne f d n = some x)
    {ids : List Nat} (hp : PinV M w0 ids f v n) (hi : ∀ i ∈ f.pins n, i ∈ ids) : AOut w0 w f d l.dv v (l.ex.flatMap F) ∧ OwnAll s l.ex := by
  have single : (∀ fs, f ≠ .agg fs) → (∀ ty fs, f ≠ .box ty fs) → AOut w0 w f d l.dv v (l.ex.flatMap F) ∧ OwnAll s l.ex := fun n1 n2 => by
    have h' : (turnCell (U := U) f n).run s = some l := by
      cases f with
      | agg fs => exact absurd rfl (n1 fs)
      | box ty fs => exact absurd rfl (n2 ty fs)
      | _ => exact h
    have hin' : CIn w0 f d v E D := by
      cases f with
      | agg fs => exact absurd rfl (n1 fs)
      | box ty fs => exact absurd rfl (n2 ty fs)
      | _ => cases d <;> exact hin
    have he' : entCell f d n = some x := by
      cases f with
      | agg fs => exact absurd rfl (n1 fs)
      | box ty fs => exact absurd rfl (n2 ty fs)
      | _ => cases d <;> exact he
    obtain ⟨a1, a2⟩ := turnCell_ok hS h' hin' he' fun ht => by
      cases f with
      | row k m =>
        rcases m with _ | _ | m
        · simp [PF.turns] at ht
        · exact hp (hi n (by simp [PF.pins]))
        · simp [PF.turns] at ht
      | _ => simp [PF.turns] at ht
    refine ⟨?_, a2⟩
    cases f with
    | agg fs => exact absurd rfl (n1 fs)
    | box ty fs => exact absurd rfl (n2 ty fs)
    | _ => exact a1
  cases f with
  | sc => exact single (fun _ e => by cases e) (fun _ _ e => by cases e)
  | row k m => exact single (fun _ e => by cases e) (fun _ _ e => by cases e)
  | ro k => exact single (fun _ e => by cases e) (fun _ _ e => by cases e)
  | agg fs =>
    cases d with
    | agg ds =>
      obtain ⟨vs, rfl, hin⟩ := hin
      simp only [entOne, Option.bind_eq_some_iff] at he
      obtain ⟨y, he, _⟩ := he
      simp only [backOne] at h
      cases ht : fs.any PF.turns with
      | false =>
        rw [ht] at h
        simp [Rd.run] at h; subst h
        exact ⟨⟨vs, rfl, tsout_none hin ht⟩, fun i hi => by simp at hi⟩
      | true =>
        rw [ht] at h
        simp only [cond_true] at h
        have hq := Rd.run_bind h; clear h; obtain ⟨ls, h1, h⟩ := hq
        simp [Rd.run] at h; subst h
        obtain ⟨vs', e, hp⟩ := hp
        have : vs = vs' := by
          simp only [Value.agg.injEq] at e
          have := congrArg Array.toList e
          simpa using this
        subst this
        obtain ⟨a1, a2⟩ := turnCs_ok hS h1 hin he hp hi
        refine ⟨⟨vs, rfl, ?_⟩, a2⟩
        have : fillD (U := U) fs.length (ls.map (·.dv)) = ls.map (·.dv) := by
          cases ls with
          | nil =>
            cases fs with
            | nil => rfl
            | cons f fs =>
              exfalso
              simp only [turnCs] at h1
              have hq := Rd.run_bind h1; clear h1; obtain ⟨_, _, h1⟩ := hq
              have hq := Rd.run_bind h1; clear h1; obtain ⟨_, _, h1⟩ := hq
              simp [Rd.run] at h1
          | cons _ _ => rfl
        rw [this]; exact a1
    | _ => simp [entOne, entCell] at he
  | box ty fs =>
    obtain ⟨hp0, b0, cur0, e0, e1, hp1⟩ := hp
    obtain ⟨hρ, _⟩ := hS.pin n v (hp0 (hi n (by simp [PF.pins])))
    simp only [backOne, Rd.run] at h
    cases ec : s.chunk n with
    | box ty' cs =>
      rw [ec] at h
      dsimp only at h
      cases hb : Nat.beq ty ty' with
      | false => rw [hb] at h; simp [Rd.run] at h
      | true =>
        rw [hb] at h
        have := Nat.eq_of_beq_eq_true hb
        subst this
        simp only [cond_true] at h
        have hq := Rd.run_bind h; clear h; obtain ⟨ls, h1, h⟩ := hq
        simp [Rd.run] at h; subst h
        obtain ⟨b, cur, g1, g2, g3⟩ := hS.box n ty cs ec
        have hrep := hS.rep n
        rw [ec] at hrep
        obtain ⟨b2, _, k1, _, k2⟩ := hrep
        rw [g1] at k1
        simp only [Value.pointer.injEq, Option.some.injEq, Addr.mk.injEq, and_true] at k1
        subst k1
        cases d with
        | agg ds =>
          obtain ⟨b1, cur1, E', rfl, q2, q3, q4⟩ := hin
          rw [g1] at hρ
          simp only [Value.pointer.injEq, Option.some.injEq, Addr.mk.injEq, and_true] at hρ e0
          subst hρ e0
          rw [q2] at e1
          simp only [Option.some.injEq, Obj.cells.injEq, true_and, and_true] at e1
          subst e1
          obtain ⟨a1, a2⟩ := backCs_ok hu hS h1 g3 (csin_len q3).1 hp1 fun i hx => hi i (by simp [PF.pins, hx])
          refine ⟨⟨b, cur1, cur, _, rfl, q2, g2, a1, by simp [k2]⟩, fun i hi => ?_⟩
          rcases List.mem_cons.1 hi with rfl | hi
          · rw [ec]; rfl
          · exact mine_own a2 i hi
        | _ => exact hin.elim
    | _ => rw [ec] at h; simp [Rd.run] at h

theorem backMany_ok (hu : UniOk U) (hS : Sat w0 M N s.slot s.chunk ρ F a w) : ∀ {fs : List PF} {n : Nat} {ls : List (Lent U)}, (backMany (U := U) fs n).run s = some ls → ∀ {ds : List (DV U)} {vs : List Value} {E D : List Nat}, AsIn w0 fs ds vs E D → ∀ {x : List SV × List (Nat × Chunk U)}, entMany fs ds n = some x →
    ∀ {ids : List Nat}, PinsAt w0 (fun i v => i ∈ ids → M.pins i = some v) fs vs n → (∀ i ∈ pinIds fs n, i ∈ ids) → AsOut w0 w fs ds (ls.map (·.dv)) vs ((ls.flatMap (·.ex)).flatMap F) ∧ OwnAll s (ls.flatMap (·.ex))
  | [], n, ls, h, ds, vs, E, D, hin, x, he, ids, hp, hi => by
    simp [backMany, Rd.run] at h; subst h
    cases ds <;> cases vs <;> first | exact hin.elim | exact ⟨rfl, fun i hi => by simp at hi⟩
  | f :: fs, n, ls, h, [], vs, E, D, hin, x, he, ids, hp, hi => hin.elim
  | f :: fs, n, ls, h, _ :: _, [], E, D, hin, x, he, ids, hp, hi => hin.elim
  | f :: fs, n, ls, h, d :: ds, v :: vs, E, D, hin, x, he, ids, hp, hi => by
    simp only [backMany] at h
    have hq := Rd.run_bind h; clear h; obtain ⟨l, h1, h⟩ := hq
    have hq := Rd.run_bind h; clear h; obtain ⟨r, h2, h⟩ := hq
    simp [Rd.run] at h; subst h
    obtain ⟨E1, E2, D1, D2, g1, g2, rfl, rfl⟩ := hin
    simp only [entMany, Option.bind_eq_some_iff] at he
    obtain ⟨y, he1, z, he2, _⟩ := he
    obtain ⟨a1, a2⟩ := backOne_ok hu hS h1 g1 he1 hp.1 (fun i hx => hi i (by simp [pinIds, hx]))
    obtain ⟨b1, b2⟩ := backMany_ok hu hS h2 g2 he2 hp.2 (fun i hx => hi i (by simp [pinIds, hx]))
    exact ⟨⟨_, _, a1, b1, by simp⟩, by simp only [List.flatMap_cons]; exact a2.app b2⟩

theorem cellId_ok {R : Nat → Value → Prop} {a : Bool} : ∀ {fs : List PF} {vs : List Value} {n c i : Nat}, PinsC R fs vs n → cellId fs n c = some i → i ∈ pinCs a fs n ∧ ∃ v, vs[c]? = some v ∧ R i v
  | [], vs, n, c, i, _, h => by simp [cellId] at h
  | f :: fs, [], n, c, i, hp, h => hp.elim
  | f :: fs, v :: vs, n, 0, i, hp, h => by
    cases f with
    | ro k =>
      simp [cellId] at h; subst h
      exact ⟨by simp [pinCs, PF.pinC], v, rfl, hp.1 rfl⟩
    | _ => simp [cellId] at h
  | f :: fs, v :: vs, n, c + 1, i, hp, h => by
    have h : cellId fs (n + f.cell1) c = some i := by cases f <;> exact h
    obtain ⟨h1, u, h2, h3⟩ := cellId_ok (a := a) hp.2 h
    refine ⟨?_, u, by simpa using h2, h3⟩
    simp only [pinCs]
    cases f.pinC a with
    | true => exact List.mem_cons_of_mem _ h1
    | false => exact h1

theorem idAt_ok {R : Nat → Value → Prop} : ∀ {pf : List PF} {vals : List Value} {n j c i : Nat} {ds : List (DV U)} {E D : List Nat}, AsIn w pf ds vals E D → PinsAt w R pf vals n → idAt pf n j c = some i → i ∈ pinIds pf n ∧ ∃ v, argAt w vals j c = some v ∧ R i v
  | [], _, _, _, _, _, _, _, _, _, _, h => by simp [idAt] at h
  | f :: fs, [], _, _, _, _, _, _, _, _, hp, h => hp.elim
  | f :: fs, v :: vs, n, j + 1, c, i, ds, E, D, hin, hp, h => by
    cases ds with
    | nil => exact hin.elim
    | cons d ds =>
      obtain ⟨_, _, _, _, _, hin, _⟩ := hin
      obtain ⟨h1, u, h2, h3⟩ := idAt_ok hin hp.2 (show idAt fs (n + f.cnt) j c = some i from h)
      exact ⟨by simp [pinIds, h1], u, by unfold argAt at h2 ⊢; simpa using h2, h3⟩
  | f :: fs, v :: vs, n, 0, c, i, ds, E, D, hin, hp, h => by
    have h : f.idAt n c = some i := h
    cases ds with
    | nil => exact hin.elim
    | cons d ds =>
      obtain ⟨_, _, _, _, hin, _⟩ := hin
      have hp1 := hp.1
      clear hp
      cases f with
      | agg gs =>
        obtain ⟨us, rfl, hp2⟩ := hp1
        obtain ⟨h1, u, h2, h3⟩ := cellId_ok (a := true) hp2 h
        exact ⟨by simp [pinIds, PF.pins, h1], u, by unfold argAt; simpa using h2, h3⟩
      | box ty gs =>
        obtain ⟨_, b, cur, rfl, hb, hp2⟩ := hp1
        obtain ⟨h1, u, h2, h3⟩ := cellId_ok (a := false) hp2 h
        exact ⟨by simp [pinIds, PF.pins, h1], u, by unfold argAt; simp [hb]; simpa using h2, h3⟩
      | ro k =>
        cases c with
        | succ c => simp [PF.idAt] at h
        | zero =>
          simp [PF.idAt] at h; subst h
          have hin : ∃ A m cap, v = .slice A m cap := by
            cases d with
            | row k' l =>
              obtain ⟨⟨m, hr⟩, _⟩ := hin
              cases m with
              | zero => exact hr.elim
              | succ m =>
                obtain ⟨cells, B, G, hR, _⟩ := hr
                obtain ⟨A, cap, e, _⟩ := hR.slice
                exact ⟨A, _, cap, e⟩
            | _ => exact hin.elim
          obtain ⟨A, m, cap, rfl⟩ := hin
          exact ⟨by simp [pinIds, PF.pins], _, by simp [argAt], hp1⟩
      | _ => simp [PF.idAt] at h

theorem asIn_len : ∀ {pf : List PF} {ds : List (DV U)} {vals : List Value} {E D : List Nat}, AsIn w pf ds vals E D → vals.length = pf.length
  | [], [], [], _, _, _ => rfl
  | _ :: _, _ :: _, _ :: _, _, _, h => by obtain ⟨_, _, _, _, _, h, _⟩ := h; simp [asIn_len h]
  | [], [], _ :: _, _, _, h => h.elim
  | [], _ :: _, _, _, _, h => h.elim
  | _ :: _, [], _, _, _, h => h.elim
  | _ :: _, _ :: _, [], _, _, h => h.elim

/-- A FUNCTION. -/
theorem fun_ok (hB : Base P U tab sig CR) (hm : P.follows .mixedOrders = true) {R : Type} {E : Env U R} (hC : CalOk E CR) (ht : E.tab = tab) (hs : E.sig = sig) {f : FuncId} {fn : Func} {c : Code} (hf : P.funcs[f]? = some fn) (hb : fn.body = some c) (hn : fn.ntmps = E.n)
    {pf : List PF} {rf : List RF} {res : List ResultVar} (hr : fn.results.toList = res) (hl : pf.length ≤ E.n) (hL : ∀ (w0 : World) (M : Own), Pinned M (pinIds pf base) → LoopsOk P w0 M E c) {dec : DV U → List (DV U) → Option R} {enc : R → DV U × List (DV U)} (hdec : ∀ r m y, dec r m = some y → enc y = (r, m)) {ds : List (DV U)} {y : R} (h : runF E c pf rf res dec ds = some y) :
    Con P f pf rf ds (enc y).1 (enc y).2 := by
  unfold runF at h
  simp only [Option.bind_eq_some_iff] at h
  obtain ⟨st, he, h⟩ := h
  -- it answers, wherever it is called
  have key : ∀ (vals : List Value) (w : World) (Ex D : List Nat), AsIn w pf ds vals Ex D → Ex.Nodup → (∀ b ∈ Ex, b ∉ D) →
      Calls P f vals.toArray w fun e w' => ∃ r m, dec r m = some y ∧ ∃ rs vs G E', r = .agg rs ∧ RMany (argAt w vals) w' rf rs vs G ∧ e = .returned (tupV vs) ∧ AsOut w w' pf ds m vals E' ∧ Fr w Ex w' ∧ (G ++ E').Nodup ∧ ∀ b ∈ G ++ E', b ∈ Ex ∨ w.heap.size ≤ b := fun vals w Ex D hin hEn hED => by
    have hlen := asIn_len hin
    obtain ⟨M, hMb, hMp, hpins, hS⟩ := entry_sat he hin hEn hED (N := E.n) (by omega)
    have he' := he
    unfold entSt at he'
    simp only [Option.bind_eq_some_iff] at he'
    obtain ⟨x, he', _⟩ := he'
    refine calls_of_wp hf hb ?_
    rw [hn]
    refine exec_sound hB hm hC ht hs c (hL w M hMp) st _ y _ _ w h hS fun ex s' a' w' hk hs' => ?_
    obtain ⟨ρ, F, hS'⟩ := hs'
    have fin : ∀ {z : Option R}, z = some y → z = ((finish E.tab pf rf res).run s').bind (fun x => dec x.1 x.2) → a'.defers = [] ∧ ∃ v, (results fn a'.tmps).run P w' = .ok v w' ∧ (∃ r m, dec r m = some y ∧ ∃ rs vs G E', r = .agg rs ∧ RMany (argAt w vals) w' rf rs vs G ∧ Ending.returned v = .returned (tupV vs) ∧ AsOut w w' pf ds m vals E' ∧ Fr w Ex w' ∧ (G ++ E').Nodup ∧ ∀ b ∈ G ++ E', b ∈ Ex ∨ w.heap.size ≤ b) := fun {z} hz hz' => by
      rw [hz'] at hz
      simp only [Option.bind_eq_some_iff] at hz
      obtain ⟨⟨r, m⟩, h1, h2⟩ := hz
      unfold finish at h1
      have hq := Rd.run_bind h1; clear h1; obtain ⟨rs, h3, h1⟩ := hq
      have hq := Rd.run_bind h1; clear h1; obtain ⟨os, h4, h1⟩ := hq
      cases hd : distinct (rs.flatMap (·.ex) ++ os.flatMap (·.ex)) with
      | false => rw [hd] at h1; simp [Rd.run] at h1
      | true =>
        rw [hd] at h1
        simp [Rd.run] at h1
        obtain ⟨rfl, rfl⟩ := h1
        rw [ht] at h3
        have hA : ArgPin M (argAt w vals) pf base := fun j c i hi => by
          obtain ⟨g1, v, g2, g3⟩ := idAt_ok hin hpins hi
          exact ⟨v, g2, g3 g1⟩
        obtain ⟨vs, a1, a2, a3⟩ := outMany_ok hB.tabs hB.kinds hS' hA h3
        obtain ⟨b1, b2⟩ := backMany_ok hB.kinds hS' h4 hin he' hpins (fun _ h => h)
        refine ⟨hS'.defers, _, run_results hr a3, _, _, h2, _, _, _, _, rfl, a1, rfl, b1, ?_, ?_, fun b hb => ?_⟩
        · have := hS'.fr; rw [hMb] at this; exact this
        · rw [← List.flatMap_append]; exact distinct_own hS' hd (a2.app b2)
        · rw [← List.flatMap_append] at hb
          obtain ⟨i, hi, hb⟩ := List.mem_flatMap.1 hb
          have := hS'.mine i ((a2.app b2) i hi) b hb
          rwa [hMb] at this
    cases ex with
    | exit _ => simp at hk
    | normal => obtain ⟨h1, v, h2, h3⟩ := fin hk rfl; exact ⟨h1, v, h2, h3⟩
    | ret => obtain ⟨h1, v, h2, h3⟩ := fin hk rfl; exact ⟨h1, v, h2, h3⟩
  intro vals w Ex D hin hEn hED
  refine (key vals w Ex D hin hEn hED).mono fun e w' ⟨r, m, h1, h2⟩ => ?_
  rw [hdec r m y h1]
  exact h2

end
end Go.Proofs.Ytnaieiillgncjaa.AX

/- What has been proved of functions, as a table for those that call them. No conditions. -/
namespace Go.Proofs.Ytnaieiillgncjaa.AX
open Go Go.RowKit

def findLoop (id : Nat) : Code → Option Code
  | .block i (.loop c) => bif Nat.beq i id then some c else findLoop id c
  | .block _ c => findLoop id c
  | .seq a b => (findLoop id a).or (findLoop id b)
  | .cond _ a b => (findLoop id a).or (findLoop id b)
  | _ => none
def loopAt (id : Nat) (c : Code) : Code := (findLoop id c).getD .skip

def isId (id : Nat) : Option Nat → Bool
  | some n => Nat.beq n id
  | none => false
def findTail (id : Nat) : Code → Option Code
  | .seq a b => bif isId id (firstR b) then some b else (findTail id a).or (findTail id b)
  | .cond _ a b => (findTail id a).or (findTail id b)
  | .block _ c => findTail id c
  | .loop c => findTail id c
  | _ => none
def tailAt (id : Nat) (c : Code) : Code := (findTail id c).getD .skip

def bodyOf (f : Func) : Code := match f.body with
  | some c => c
  | none => .skip

structure Ent (P : Program) (U : Uni) where
  f : FuncId
  pf : List PF
  rf : List RF
  R : List (DV U) → DV U → List (DV U) → Prop
  cal : {Q : Type} → List (DV U) → (DV U → List (DV U) → Option Q) → Option Q
  con : ∀ ds r m, R ds r m → Con P f pf rf ds r m
  enters : ∀ args w, (callFunc f args).run P w = .ok (.enter f args) w
  calOk : ∀ {Q : Type} ds (K : DV U → List (DV U) → Option Q) q, cal ds K = some q → ∃ r m, R ds r m ∧ K r m = some q

section
variable {P : Program} {U : Uni}

def findE : List (Ent P U) → FuncId → Option (Ent P U)
  | [], _ => none
  | e :: r, f => bif Nat.beq e.f f then some e else findE r f

def sigE (es : List (Ent P U)) : Sig := fun f => match findE es f with
  | some e => some (e.pf, e.rf)
  | none => none
def CRE (es : List (Ent P U)) (f : FuncId) (ds : List (DV U)) (r : DV U) (m : List (DV U)) : Prop := ∃ e, findE es f = some e ∧ e.R ds r m
def calE (es : List (Ent P U)) {Q : Type} (f : FuncId) (ds : List (DV U)) (K : DV U → List (DV U) → Option Q) : Option Q := match findE es f with
  | some e => e.cal ds K
  | none => none

def mkE (tab : Tab) (es : List (Ent P U)) (n : Nat) {R : Type} (loops tails : List (Nat × Option (Oracle U R))) : Env U R :=
  { n := n, tab := tab, sig := sigE es, cal := calE es, loops := look none loops, tails := look none tails }

theorem findE_f : ∀ {es : List (Ent P U)} {f : FuncId} {e : Ent P U}, findE es f = some e → e.f = f
  | [], _, _, h => by simp [findE] at h
  | x :: r, f, e, h => by
    simp only [findE] at h
    cases hb : Nat.beq x.f f with
    | true => rw [hb] at h; simp at h; subst h; exact Nat.eq_of_beq_eq_true hb
    | false => rw [hb] at h; exact findE_f h

theorem base_of {tab : Tab} (hT : TabOk P U tab) (hU : UniOk U) (es : List (Ent P U)) : Base P U tab (sigE es) (CRE es) := by
  refine ⟨hT, hU, fun f pr h args w => ?_, fun f pf rf ds r m h hc => ?_⟩
  · unfold sigE at h
    cases e : findE es f with
    | none => rw [e] at h; simp at h
    | some x => have := x.enters args w; rw [findE_f e] at this; exact this
  · obtain ⟨x, e, hR⟩ := hc
    unfold sigE at h
    rw [e] at h
    simp only [Option.some.injEq, Prod.mk.injEq] at h
    obtain ⟨rfl, rfl⟩ := h
    have := x.con ds r m hR
    rw [findE_f e] at this
    exact this

theorem cal_of {tab : Tab} {es : List (Ent P U)} {n : Nat} {R : Type} {loops tails : List (Nat × Option (Oracle U R))} : CalOk (mkE tab es n loops tails) (CRE es) := fun f ds K r h => by
  simp only [mkE, calE] at h
  cases e : findE es f with
  | none => rw [e] at h; simp at h
  | some x =>
    rw [e] at h
    obtain ⟨q, m, h1, h2⟩ := x.calOk ds K r h
    exact ⟨q, m, ⟨x, e, h1⟩, h2⟩

/- Results as values of a type. -/
structure Coz (U : Uni) (Y : Type) where
  enc : Y → DV U × List (DV U)
  dec : DV U → List (DV U) → Option Y
  ok : ∀ {r m y}, dec r m = some y → enc y = (r, m)

/-- No more than results. -/
def cozR {A : Type} (c : Cod U A) (d : Cod U Unit) : Coz U A where
  enc a := (.agg (c.enc a), d.enc ())
  dec r m := match r with
    | .agg l => (d.dec m).bind fun _ => c.dec l
    | _ => none
  ok {r m y} h := by
    split at h
    · simp only [Option.bind_eq_some_iff] at h
      obtain ⟨u, h1, h2⟩ := h
      rw [c.ok h2, d.ok h1]
    · simp at h

/-- Results and what was turned. -/
def cozRM {A B : Type} (c : Cod U A) (d : Cod U B) : Coz U (A × B) where
  enc a := (.agg (c.enc a.1), d.enc a.2)
  dec r m := match r with
    | .agg l => (c.dec l).bind fun x => (d.dec m).bind fun y => some (x, y)
    | _ => none
  ok {r m y} h := by
    split at h
    · simp only [Option.bind_eq_some_iff, Option.some.injEq] at h
      obtain ⟨u, h1, v, h2, rfl⟩ := h
      rw [c.ok h1, d.ok h2]
    · simp at h

/-- No more than what was turned. -/
def cozM {B : Type} (d : Cod U B) : Coz U B where
  enc a := (.agg [], d.enc a)
  dec r m := match r with
    | .agg [] => d.dec m
    | _ => none
  ok {r m y} h := by
    split at h
    · rw [d.ok h]
    · simp at h

/-- A place that tells nothing. -/
def codD {X : Type} (c : Cod U X) : Cod U X where
  enc x := .agg [] :: c.enc x
  dec l := match l with
    | .agg [] :: r => c.dec r
    | _ => none
  ok {d a} h := by
    split at h
    · rw [c.ok h]
    · simp at h

/-- Parts, or a box's cells. -/
def iAgg {X : Type} (c : Cod U X) : Itm U X where
  enc x := .agg (c.enc x)
  dec d := match d with
    | .agg l => c.dec l
    | _ => none
  ok {d a} h := by
    split at h
    · rw [c.ok h]
    · simp at h

def Ent.of (f : FuncId) (pf : List PF) (rf : List RF) {X Y : Type} (cp : Cod U X) (cr : Coz U Y) (F : X → Option Y) (hc : ∀ x y, F x = some y → Con P f pf rf (cp.enc x) (cr.enc y).1 (cr.enc y).2) (hf : ∀ args w, (callFunc f args).run P w = .ok (.enter f args) w) : Ent P U where
  f := f
  pf := pf
  rf := rf
  R ds r m := ∃ x y, ds = cp.enc x ∧ F x = some y ∧ cr.enc y = (r, m)
  cal ds K := (cp.dec ds).bind fun x => (F x).bind fun y => K (cr.enc y).1 (cr.enc y).2
  con := fun ds r m ⟨x, y, h1, h2, h3⟩ => by
    have := hc x y h2
    rw [h3] at this
    rw [h1]; exact this
  enters := hf
  calOk := fun {Q} ds K q h => by
    simp only [Option.bind_eq_some_iff] at h
    obtain ⟨x, h1, y, h2, h3⟩ := h
    exact ⟨_, _, ⟨x, y, cp.ok h1, h2, rfl⟩, h3⟩

/- What is owed for loops and tails. -/
def owed {R : Type} (E : Env U R) : Code → List (Code × Oracle U R)
  | .seq a b => owed E a ++ match (firstR b).bind E.tails with
    | some o => [(b, o)]
    | none => owed E b
  | .cond _ a b => owed E a ++ owed E b
  | .block id (.loop c) => match E.loops id with
    | some o => [(.block id (.loop c), o)]
    | none => []
  | .block _ c => owed E c
  | _ => []

theorem owed_ok {w0 : World} {M : Own} {R : Type} {E : Env U R} : ∀ (c : Code), (∀ x ∈ owed E c, SoundO P w0 M E.n x.1 x.2) → LoopsOk P w0 M E c
  | .seq a b, h => by
    simp only [owed, List.mem_append] at h
    refine ⟨owed_ok a fun x hx => h x (.inl hx), fun o ho => ?_, fun hn => owed_ok b fun x hx => h x (.inr ?_)⟩
    · rw [ho] at h; exact h (b, o) (.inr (by simp))
    · rw [hn]; exact hx
  | .cond _ a b, h => by
    simp only [owed, List.mem_append] at h
    exact ⟨owed_ok a fun x hx => h x (.inl hx), owed_ok b fun x hx => h x (.inr hx)⟩
  | .block id c, h => by
    have key : (∀ x ∈ owed E c, SoundO P w0 M E.n x.1 x.2) → LoopsOk P w0 M E c := owed_ok c
    cases c with
    | loop c =>
      simp only [LoopsOk]
      intro o ho
      simp only [owed, ho] at h
      exact h (.block id (.loop c), o) (by simp)
    | _ => exact key h
  | .skip, _ | .region _ _ _, _ | .loop _, _ | .rangeFunc _ _ _ _, _ | .exit _, _ | .scope _, _ | .label _, _ | .goto _, _ | .ret, _ | .refuse _, _ => trivial

/-- A loop, with its round told. -/
theorem loop_ok {tab : Tab} {es : List (Ent P U)} (hT : TabOk P U tab) (hU : UniOk U) (hm : P.follows .mixedOrders = true) {n : Nat} {X Y : Type} {loops tails : List (Nat × Option (Oracle U (X ⊕ Y)))} {w0 : World} {M : Own} {id : Nat} {c : Code} {A : Cut U X} {B : Cuts U Y} {f : X → Option (X ⊕ Y)}
    (hf : ∀ x, f x = roundX (mkE tab es n loops tails) c A B x) (hA : Pinned M A.pins) (hB : Pinned M B.pins) (ho : ∀ x ∈ owed (mkE tab es n loops tails) c, SoundO P w0 M n x.1 x.2) {R : Type} : SoundO P w0 M n (.block id (.loop c)) (loopO (R := R) id A B (lim f)) :=
  loop_sound (exec_sound (base_of hT hU es) hm cal_of rfl rfl c (owed_ok c ho)) hf hA hB

theorem tail_ok {tab : Tab} {es : List (Ent P U)} (hT : TabOk P U tab) (hU : UniOk U) (hm : P.follows .mixedOrders = true) {n : Nat} {X Y : Type} {loops tails : List (Nat × Option (Oracle U Y))} {w0 : World} {M : Own} {c : Code} {A : Cut U X} {B : Cuts U Y} {f : X → Option Y}
    (hf : ∀ x, f x = tailX (mkE tab es n loops tails) c A B x) (hA : Pinned M A.pins) (hB : Pinned M B.pins) (ho : ∀ x ∈ owed (mkE tab es n loops tails) c, SoundO P w0 M n x.1 x.2) {R : Type} : SoundO P w0 M n c (tailO (R := R) A B f) :=
  tail_sound (exec_sound (base_of hT hU es) hm cal_of rfl rfl c (owed_ok c ho)) hf hA hB

theorem func_ok {tab : Tab} {es : List (Ent P U)} (hT : TabOk P U tab) (hU : UniOk U) (hm : P.follows .mixedOrders = true) {f : FuncId} {fn : Func} {c : Code} (hf : P.funcs[f]? = some fn) (hb : fn.body = some c) {n : Nat} (hn : fn.ntmps = n) {pf : List PF} {rf : List RF} {res : List ResultVar} (hr : fn.results.toList = res) (hl : pf.length ≤ n)
    {X Y : Type} {cp : Cod U X} {cr : Coz U Y} {loops tails : List (Nat × Option (Oracle U Y))} {F : X → Option Y} (hF : ∀ x, F x = runF (mkE tab es n loops tails) c pf rf res cr.dec (cp.enc x))
    (ho : ∀ (w0 : World) (M : Own), Pinned M (pinIds pf base) → ∀ x ∈ owed (mkE tab es n loops tails) c, SoundO P w0 M n x.1 x.2) : ∀ x y, F x = some y → Con P f pf rf (cp.enc x) (cr.enc y).1 (cr.enc y).2 := fun x y h =>
  fun_ok (base_of hT hU es) hm (E := mkE tab es n loops tails) cal_of rfl rfl hf hb hn hr hl (fun w0 M hM => owed_ok c (ho w0 M hM)) (fun r m y h => cr.ok h) ((hF x).symm.trans h)

end
end Go.Proofs.Ytnaieiillgncjaa.AX

/- A table's facts, entry by entry. No conditions. -/
namespace Go.Proofs.Ytnaieiillgncjaa.AX
open Go Go.RowKit

section
variable {P : Program} {U : Uni}

def FieldsOk (P : Program) : List Field → List (Nat × Nat × Bool) → Prop
  | [], [] => True
  | fd :: r, (off, n, g) :: s => fd.offset = off ∧ (∃ (i : TypeInfo) (d : TypeDesc), P.info? fd.type = some i ∧ i.size = n ∧ n ≠ 0 ∧ P.underlying fd.type = some d ∧ descAgg d = g) ∧ FieldsOk P r s
  | _, _ => False

theorem fieldsOk_get : ∀ {l : List Field} {fs : List (Nat × Nat × Bool)}, FieldsOk P l fs → l.length = fs.length ∧ ∀ (f off n : Nat) (g : Bool), fs[f]? = some (off, n, g) → ∃ (fd : Field) (i : TypeInfo) (d : TypeDesc), l[f]? = some fd ∧ fd.offset = off ∧ P.info? fd.type = some i ∧ i.size = n ∧ n ≠ 0 ∧ P.underlying fd.type = some d ∧ descAgg d = g
  | [], [], _ => ⟨rfl, fun f off n g h => by simp at h⟩
  | fd :: r, (off, n, g) :: s, h => by
    obtain ⟨h1, ⟨i, d, h2, h3, h4, h5, h6⟩, h7⟩ := h
    obtain ⟨k1, k2⟩ := fieldsOk_get h7
    refine ⟨by simp [k1], fun f off' n' g' hf => ?_⟩
    cases f with
    | zero => simp at hf; obtain ⟨rfl, rfl, rfl⟩ := hf; exact ⟨fd, i, d, rfl, h1, h2, h3, h4, h5, h6⟩
    | succ f => exact k2 f off' n' g' (by simpa using hf)
  | [], _ :: _, h => h.elim
  | _ :: _, [], h => h.elim

def TyOk (P : Program) (U : Uni) (t : TypeId) : Ty → Prop
  | .int k => P.underlying t = some (.int k)
  | .bool => P.underlying t = some .bool
  | .str => P.underlying t = some .string
  | .slice k => P.underlying t = some (.slice (U.ty k)) ∧ ∃ i z, P.info? (U.ty k) = some i ∧ i.zero = some z ∧ i.size = U.sz k ∧ z.cells.size = U.sz k ∧ 0 < U.sz k ∧ i.bytes ≤ 512 ∧ ZeroL z.cells.toList (U.enc k (U.dfl k))
  | .agg fs => ∃ fields : Array Field, P.underlying t = some (.struct fields) ∧ FieldsOk P fields.toList fs
  | .map k => MapTy P U t k
  | .other => True

def LayOk (P : Program) (t : TypeId) : Option Lay → Prop
  | some L => ∃ (i : TypeInfo) (z : Value) (d : TypeDesc), P.info? t = some i ∧ i.size = L.size ∧ i.zero = some z ∧ z.cells.toList = L.zero ∧ P.underlying t = some d ∧ descAgg d = L.agg
  | none => True

def AllP {α : Type} (Q : Nat → α → Prop) : List (Nat × α) → Prop
  | [] => True
  | x :: r => Q x.1 x.2 ∧ AllP Q r

theorem look_all {α : Type} {Q : Nat → α → Prop} {d : α} (hd : ∀ t, Q t d) : ∀ {l : List (Nat × α)}, AllP Q l → ∀ t, Q t (look d l t)
  | [], _, t => hd t
  | (j, x) :: r, h, t => by
    rw [look_cons]
    by_cases e : j = t
    · subst e; rw [if_pos rfl]; exact h.1
    · rw [if_neg e]; exact look_all hd h.2 t

def CmpOk (P : Program) (t : TypeId) : Option (List CK) → Prop
  | some cs => cmpAt P 20 t = some cs ∧ P.eqGuardType P.depth t = false ∧ ∃ fs, P.underlying t = some (.struct fs)
  | none => True

theorem tab_of {l1 : List (Nat × Ty)} {l2 : List (Nat × Option Lay)} {l3 : List (Nat × Option (List CK))} (h1 : AllP (TyOk P U) l1) (h2 : AllP (LayOk P) l2) (h3 : AllP (CmpOk P) l3) : TabOk P U { ty := look .other l1, lay := look none l2, cmp := look none l3 } := by
  have a := look_all (Q := TyOk P U) (d := Ty.other) (fun t => trivial) h1
  have b := look_all (Q := LayOk P) (d := none) (fun t => trivial) h2
  have c := look_all (Q := CmpOk P) (d := none) (fun t => trivial) h3
  refine ⟨fun t k e => ?_, fun t e => ?_, fun t e => ?_, fun t k e => ?_, fun t fs e => ?_, fun t L e => ?_, fun t k e => ?_, fun t cs e => ?_⟩
  · have := a t; dsimp only at e; rw [e] at this; exact this
  · have := a t; dsimp only at e; rw [e] at this; exact this
  · have := a t; dsimp only at e; rw [e] at this; exact this
  · have := a t; dsimp only at e; rw [e] at this; exact this
  · have := a t; dsimp only at e; rw [e] at this
    obtain ⟨fields, h1, h2⟩ := this
    obtain ⟨k1, k2⟩ := fieldsOk_get h2
    exact ⟨fields, h1, by simpa using k1, fun f off n g h => by obtain ⟨fd, i, d, q, r⟩ := k2 f off n g h; exact ⟨fd, i, d, by simpa using q, r⟩⟩
  · have := b t; dsimp only at e; rw [e] at this; exact this
  · have := a t; dsimp only at e; rw [e] at this; exact this
  · have := c t; dsimp only at e; rw [e] at this; exact this

theorem Pinned.sub {M : Own} {a b : List Nat} (h : Pinned M a) (hs : (a.all fun i => b.any (Nat.beq i)) = true) : Pinned M b := fun i v hv => by
  have := List.all_eq_true.1 hs i (h i v hv)
  obtain ⟨j, hj, e⟩ := List.any_eq_true.1 this
  have := Nat.eq_of_beq_eq_true e
  subst this; exact hj

end
end Go.Proofs.Ytnaieiillgncjaa.AX

/- The facts of the table. No conditions. -/
namespace Go.Proofs.Ytnaieiillgncjaa.AX
open Go Go.Proofs.Try
theorem ty2 : TyOk prog uni 2 (.int .i64) := underlying2
theorem ty3 : TyOk prog uni 3 (.int .i64) := underlying3
theorem ty4 : TyOk prog uni 4 (.bool) := underlying4
theorem ty5 : TyOk prog uni 5 (.int .u8) := underlying5
theorem ty6 : TyOk prog uni 6 (.int .u8) := underlying6
theorem ty7 : TyOk prog uni 7 (.agg [(0, 1, false), (1, 1, false), (2, 1, false), (3, 1, false)]) := ⟨_, underlying7, rfl, ⟨_, _, type2, rfl, by decide, underlying2, rfl⟩, rfl, ⟨_, _, type3, rfl, by decide, underlying3, rfl⟩, rfl, ⟨_, _, type4, rfl, by decide, underlying4, rfl⟩, rfl, ⟨_, _, type6, rfl, by decide, underlying6, rfl⟩, trivial⟩
theorem ty8 : TyOk prog uni 8 (.agg [(0, 1, false), (1, 1, false), (2, 1, false), (3, 1, false)]) := ⟨_, underlying8, rfl, ⟨_, _, type2, rfl, by decide, underlying2, rfl⟩, rfl, ⟨_, _, type3, rfl, by decide, underlying3, rfl⟩, rfl, ⟨_, _, type4, rfl, by decide, underlying4, rfl⟩, rfl, ⟨_, _, type6, rfl, by decide, underlying6, rfl⟩, trivial⟩
theorem ty9 : TyOk prog uni 9 (.str) := underlying9
theorem ty10 : TyOk prog uni 10 (.str) := underlying10
theorem ty11 : TyOk prog uni 11 (.str) := underlying11
theorem ty12 : TyOk prog uni 12 (.int .u64) := underlying12
theorem ty13 : TyOk prog uni 13 (.agg [(0, 1, false), (1, 1, false)]) := ⟨_, underlying13, rfl, ⟨_, _, type9, rfl, by decide, underlying9, rfl⟩, rfl, ⟨_, _, type12, rfl, by decide, underlying12, rfl⟩, trivial⟩
theorem ty14 : TyOk prog uni 14 (.agg [(0, 1, false), (1, 1, false)]) := ⟨_, underlying14, rfl, ⟨_, _, type9, rfl, by decide, underlying9, rfl⟩, rfl, ⟨_, _, type12, rfl, by decide, underlying12, rfl⟩, trivial⟩
theorem ty18 : TyOk prog uni 18 (.agg [(0, 1, false)]) := ⟨_, underlying18, rfl, ⟨_, _, type17, rfl, by decide, underlying17, rfl⟩, trivial⟩
theorem ty19 : TyOk prog uni 19 (.agg [(0, 1, false)]) := ⟨_, underlying19, rfl, ⟨_, _, type17, rfl, by decide, underlying17, rfl⟩, trivial⟩
theorem ty21 : TyOk prog uni 21 (.int .i32) := underlying21
theorem ty22 : TyOk prog uni 22 (.slice 0) := ⟨underlying22, _, _, type5, rfl, rfl, rfl, by decide, by decide, ⟨rfl, trivial⟩⟩
theorem ty23 : TyOk prog uni 23 (.slice 1) := ⟨underlying23, _, _, type3, rfl, rfl, rfl, by decide, by decide, ⟨rfl, trivial⟩⟩
theorem ty24 : TyOk prog uni 24 (.agg [(0, 1, false), (1, 1, false), (2, 1, false)]) := ⟨_, underlying24, rfl, ⟨_, _, type3, rfl, by decide, underlying3, rfl⟩, rfl, ⟨_, _, type3, rfl, by decide, underlying3, rfl⟩, rfl, ⟨_, _, type23, rfl, by decide, underlying23, rfl⟩, trivial⟩
theorem ty25 : TyOk prog uni 25 (.agg [(0, 1, false), (1, 1, false), (2, 1, false)]) := ⟨_, underlying25, rfl, ⟨_, _, type3, rfl, by decide, underlying3, rfl⟩, rfl, ⟨_, _, type3, rfl, by decide, underlying3, rfl⟩, rfl, ⟨_, _, type23, rfl, by decide, underlying23, rfl⟩, trivial⟩
theorem ty29 : TyOk prog uni 29 (.slice 2) := ⟨underlying29, _, _, type59, rfl, rfl, rfl, by decide, by decide, ⟨rfl, rfl, rfl, rfl, trivial⟩⟩
theorem ty33 : TyOk prog uni 33 (.agg [(0, 1, false), (1, 1, false), (2, 3, true), (5, 1, false), (6, 1, false), (7, 1, false)]) := ⟨_, underlying33, rfl, ⟨_, _, type3, rfl, by decide, underlying3, rfl⟩, rfl, ⟨_, _, type3, rfl, by decide, underlying3, rfl⟩, rfl, ⟨_, _, type25, rfl, by decide, underlying25, rfl⟩, rfl, ⟨_, _, type3, rfl, by decide, underlying3, rfl⟩, rfl, ⟨_, _, type3, rfl, by decide, underlying3, rfl⟩, rfl, ⟨_, _, type3, rfl, by decide, underlying3, rfl⟩, trivial⟩
theorem ty34 : TyOk prog uni 34 (.agg [(0, 1, false), (1, 1, false), (2, 3, true), (5, 1, false), (6, 1, false), (7, 1, false)]) := ⟨_, underlying34, rfl, ⟨_, _, type3, rfl, by decide, underlying3, rfl⟩, rfl, ⟨_, _, type3, rfl, by decide, underlying3, rfl⟩, rfl, ⟨_, _, type25, rfl, by decide, underlying25, rfl⟩, rfl, ⟨_, _, type3, rfl, by decide, underlying3, rfl⟩, rfl, ⟨_, _, type3, rfl, by decide, underlying3, rfl⟩, rfl, ⟨_, _, type3, rfl, by decide, underlying3, rfl⟩, trivial⟩
theorem ty41 : TyOk prog uni 41 (.agg [(0, 1, false), (1, 1, false), (2, 1, false)]) := ⟨_, underlying41, rfl, ⟨_, _, type3, rfl, by decide, underlying3, rfl⟩, rfl, ⟨_, _, type3, rfl, by decide, underlying3, rfl⟩, rfl, ⟨_, _, type23, rfl, by decide, underlying23, rfl⟩, trivial⟩
theorem ty42 : TyOk prog uni 42 (.slice 3) := ⟨underlying42, _, _, type78, rfl, rfl, rfl, by decide, by decide, ⟨rfl, rfl, rfl, rfl, trivial⟩⟩
theorem ty58 : TyOk prog uni 58 (.agg [(0, 1, false), (1, 1, false), (2, 1, false), (3, 1, false)]) := ⟨_, underlying58, rfl, ⟨_, _, type4, rfl, by decide, underlying4, rfl⟩, rfl, ⟨_, _, type3, rfl, by decide, underlying3, rfl⟩, rfl, ⟨_, _, type3, rfl, by decide, underlying3, rfl⟩, rfl, ⟨_, _, type3, rfl, by decide, underlying3, rfl⟩, trivial⟩
theorem ty59 : TyOk prog uni 59 (.agg [(0, 1, false), (1, 1, false), (2, 1, false), (3, 1, false)]) := ⟨_, underlying59, rfl, ⟨_, _, type4, rfl, by decide, underlying4, rfl⟩, rfl, ⟨_, _, type3, rfl, by decide, underlying3, rfl⟩, rfl, ⟨_, _, type3, rfl, by decide, underlying3, rfl⟩, rfl, ⟨_, _, type3, rfl, by decide, underlying3, rfl⟩, trivial⟩
theorem ty62 : TyOk prog uni 62 (.map 4) := ⟨3, 4, _, _, _, _, _, _, [.int .i64 0], [.bool false], underlying62, rfl, by kernel_rfl, underlying3, rfl, type4, rfl, rfl, rfl, rfl⟩
theorem ty64 : TyOk prog uni 64 (.agg [(0, 3, true), (3, 1, false), (4, 1, false), (5, 1, false), (6, 1, false)]) := ⟨_, underlying64, rfl, ⟨_, _, type25, rfl, by decide, underlying25, rfl⟩, rfl, ⟨_, _, type3, rfl, by decide, underlying3, rfl⟩, rfl, ⟨_, _, type23, rfl, by decide, underlying23, rfl⟩, rfl, ⟨_, _, type3, rfl, by decide, underlying3, rfl⟩, rfl, ⟨_, _, type29, rfl, by decide, underlying29, rfl⟩, trivial⟩
theorem ty65 : TyOk prog uni 65 (.agg [(0, 3, true), (3, 1, false), (4, 1, false), (5, 1, false), (6, 1, false)]) := ⟨_, underlying65, rfl, ⟨_, _, type25, rfl, by decide, underlying25, rfl⟩, rfl, ⟨_, _, type3, rfl, by decide, underlying3, rfl⟩, rfl, ⟨_, _, type23, rfl, by decide, underlying23, rfl⟩, rfl, ⟨_, _, type3, rfl, by decide, underlying3, rfl⟩, rfl, ⟨_, _, type29, rfl, by decide, underlying29, rfl⟩, trivial⟩
theorem ty73 : TyOk prog uni 73 (.agg [(0, 3, true), (3, 1, false), (4, 4, true), (8, 3, true), (11, 1, false), (12, 1, false), (13, 1, false)]) := ⟨_, underlying73, rfl, ⟨_, _, type25, rfl, by decide, underlying25, rfl⟩, rfl, ⟨_, _, type3, rfl, by decide, underlying3, rfl⟩, rfl, ⟨_, _, type59, rfl, by decide, underlying59, rfl⟩, rfl, ⟨_, _, type25, rfl, by decide, underlying25, rfl⟩, rfl, ⟨_, _, type3, rfl, by decide, underlying3, rfl⟩, rfl, ⟨_, _, type3, rfl, by decide, underlying3, rfl⟩, rfl, ⟨_, _, type3, rfl, by decide, underlying3, rfl⟩, trivial⟩
theorem ty74 : TyOk prog uni 74 (.agg [(0, 3, true), (3, 1, false), (4, 4, true), (8, 3, true), (11, 1, false), (12, 1, false), (13, 1, false)]) := ⟨_, underlying74, rfl, ⟨_, _, type25, rfl, by decide, underlying25, rfl⟩, rfl, ⟨_, _, type3, rfl, by decide, underlying3, rfl⟩, rfl, ⟨_, _, type59, rfl, by decide, underlying59, rfl⟩, rfl, ⟨_, _, type25, rfl, by decide, underlying25, rfl⟩, rfl, ⟨_, _, type3, rfl, by decide, underlying3, rfl⟩, rfl, ⟨_, _, type3, rfl, by decide, underlying3, rfl⟩, rfl, ⟨_, _, type3, rfl, by decide, underlying3, rfl⟩, trivial⟩
theorem ty78 : TyOk prog uni 78 (.agg [(0, 1, false), (1, 1, false), (2, 1, false), (3, 1, false)]) := ⟨_, underlying78, rfl, ⟨_, _, type4, rfl, by decide, underlying4, rfl⟩, rfl, ⟨_, _, type3, rfl, by decide, underlying3, rfl⟩, rfl, ⟨_, _, type3, rfl, by decide, underlying3, rfl⟩, rfl, ⟨_, _, type3, rfl, by decide, underlying3, rfl⟩, trivial⟩
theorem ty81 : TyOk prog uni 81 (.agg [(0, 1, false), (1, 1, false), (2, 1, false)]) := ⟨_, underlying81, rfl, ⟨_, _, type22, rfl, by decide, underlying22, rfl⟩, rfl, ⟨_, _, type3, rfl, by decide, underlying3, rfl⟩, rfl, ⟨_, _, type3, rfl, by decide, underlying3, rfl⟩, trivial⟩
theorem ty82 : TyOk prog uni 82 (.agg [(0, 1, false), (1, 1, false), (2, 1, false)]) := ⟨_, underlying82, rfl, ⟨_, _, type22, rfl, by decide, underlying22, rfl⟩, rfl, ⟨_, _, type3, rfl, by decide, underlying3, rfl⟩, rfl, ⟨_, _, type3, rfl, by decide, underlying3, rfl⟩, trivial⟩
theorem ty89 : TyOk prog uni 89 (.agg [(0, 1, false), (1, 1, false), (2, 1, false), (3, 1, false)]) := ⟨_, underlying89, rfl, ⟨_, _, type17, rfl, by decide, underlying17, rfl⟩, rfl, ⟨_, _, type17, rfl, by decide, underlying17, rfl⟩, rfl, ⟨_, _, type17, rfl, by decide, underlying17, rfl⟩, rfl, ⟨_, _, type9, rfl, by decide, underlying9, rfl⟩, trivial⟩
theorem ty90 : TyOk prog uni 90 (.agg [(0, 1, false), (1, 1, false), (2, 1, false), (3, 1, false)]) := ⟨_, underlying90, rfl, ⟨_, _, type17, rfl, by decide, underlying17, rfl⟩, rfl, ⟨_, _, type17, rfl, by decide, underlying17, rfl⟩, rfl, ⟨_, _, type17, rfl, by decide, underlying17, rfl⟩, rfl, ⟨_, _, type9, rfl, by decide, underlying9, rfl⟩, trivial⟩
theorem ty94 : TyOk prog uni 94 (.int .u32) := underlying94
theorem ty95 : TyOk prog uni 95 (.int .u8) := underlying95
theorem ty96 : TyOk prog uni 96 (.int .u8) := underlying96
theorem ty99 : TyOk prog uni 99 (.int .i32) := underlying99
theorem ty100 : TyOk prog uni 100 (.int .i32) := underlying100
theorem lay2 : LayOk prog 2 (some ⟨1, false, [.int .i64 0]⟩) := ⟨_, _, _, type2, rfl, rfl, rfl, underlying2, rfl⟩
theorem lay3 : LayOk prog 3 (some ⟨1, false, [.int .i64 0]⟩) := ⟨_, _, _, type3, rfl, rfl, rfl, underlying3, rfl⟩
theorem lay4 : LayOk prog 4 (some ⟨1, false, [.bool false]⟩) := ⟨_, _, _, type4, rfl, rfl, rfl, underlying4, rfl⟩
theorem lay5 : LayOk prog 5 (some ⟨1, false, [.int .u8 0]⟩) := ⟨_, _, _, type5, rfl, rfl, rfl, underlying5, rfl⟩
theorem lay6 : LayOk prog 6 (some ⟨1, false, [.int .u8 0]⟩) := ⟨_, _, _, type6, rfl, rfl, rfl, underlying6, rfl⟩
theorem lay7 : LayOk prog 7 (some ⟨4, true, [.int .i64 0, .int .i64 0, .bool false, .int .u8 0]⟩) := ⟨_, _, _, type7, rfl, rfl, rfl, underlying7, rfl⟩
theorem lay8 : LayOk prog 8 (some ⟨4, true, [.int .i64 0, .int .i64 0, .bool false, .int .u8 0]⟩) := ⟨_, _, _, type8, rfl, rfl, rfl, underlying8, rfl⟩
theorem lay9 : LayOk prog 9 (some ⟨1, false, [.string ⟨#[]⟩]⟩) := ⟨_, _, _, type9, rfl, rfl, rfl, underlying9, rfl⟩
theorem lay10 : LayOk prog 10 (some ⟨1, false, [.string ⟨#[]⟩]⟩) := ⟨_, _, _, type10, rfl, rfl, rfl, underlying10, rfl⟩
theorem lay11 : LayOk prog 11 (some ⟨1, false, [.string ⟨#[]⟩]⟩) := ⟨_, _, _, type11, rfl, rfl, rfl, underlying11, rfl⟩
theorem lay12 : LayOk prog 12 (some ⟨1, false, [.int .u64 0]⟩) := ⟨_, _, _, type12, rfl, rfl, rfl, underlying12, rfl⟩
theorem lay13 : LayOk prog 13 (some ⟨2, true, [.string ⟨#[]⟩, .int .u64 0]⟩) := ⟨_, _, _, type13, rfl, rfl, rfl, underlying13, rfl⟩
theorem lay14 : LayOk prog 14 (some ⟨2, true, [.string ⟨#[]⟩, .int .u64 0]⟩) := ⟨_, _, _, type14, rfl, rfl, rfl, underlying14, rfl⟩
theorem lay15 : LayOk prog 15 (some ⟨1, false, [.pointer none]⟩) := ⟨_, _, _, type15, rfl, rfl, rfl, underlying15, rfl⟩
theorem lay16 : LayOk prog 16 (some ⟨1, false, [.pointer none]⟩) := ⟨_, _, _, type16, rfl, rfl, rfl, underlying16, rfl⟩
theorem lay17 : LayOk prog 17 (some ⟨1, false, [.pointer none]⟩) := ⟨_, _, _, type17, rfl, rfl, rfl, underlying17, rfl⟩
theorem lay18 : LayOk prog 18 (some ⟨1, true, [.pointer none]⟩) := ⟨_, _, _, type18, rfl, rfl, rfl, underlying18, rfl⟩
theorem lay19 : LayOk prog 19 (some ⟨1, true, [.pointer none]⟩) := ⟨_, _, _, type19, rfl, rfl, rfl, underlying19, rfl⟩
theorem lay21 : LayOk prog 21 (some ⟨1, false, [.int .i32 0]⟩) := ⟨_, _, _, type21, rfl, rfl, rfl, underlying21, rfl⟩
theorem lay22 : LayOk prog 22 (some ⟨1, false, [.slice none 0 0]⟩) := ⟨_, _, _, type22, rfl, rfl, rfl, underlying22, rfl⟩
theorem lay23 : LayOk prog 23 (some ⟨1, false, [.slice none 0 0]⟩) := ⟨_, _, _, type23, rfl, rfl, rfl, underlying23, rfl⟩
theorem lay24 : LayOk prog 24 (some ⟨3, true, [.int .i64 0, .int .i64 0, .slice none 0 0]⟩) := ⟨_, _, _, type24, rfl, rfl, rfl, underlying24, rfl⟩
theorem lay25 : LayOk prog 25 (some ⟨3, true, [.int .i64 0, .int .i64 0, .slice none 0 0]⟩) := ⟨_, _, _, type25, rfl, rfl, rfl, underlying25, rfl⟩
theorem lay29 : LayOk prog 29 (some ⟨1, false, [.slice none 0 0]⟩) := ⟨_, _, _, type29, rfl, rfl, rfl, underlying29, rfl⟩
theorem lay33 : LayOk prog 33 (some ⟨8, true, [.int .i64 0, .int .i64 0, .int .i64 0, .int .i64 0, .slice none 0 0, .int .i64 0, .int .i64 0, .int .i64 0]⟩) := ⟨_, _, _, type33, rfl, rfl, rfl, underlying33, rfl⟩
theorem lay34 : LayOk prog 34 (some ⟨8, true, [.int .i64 0, .int .i64 0, .int .i64 0, .int .i64 0, .slice none 0 0, .int .i64 0, .int .i64 0, .int .i64 0]⟩) := ⟨_, _, _, type34, rfl, rfl, rfl, underlying34, rfl⟩
theorem lay41 : LayOk prog 41 (some ⟨3, true, [.int .i64 0, .int .i64 0, .slice none 0 0]⟩) := ⟨_, _, _, type41, rfl, rfl, rfl, underlying41, rfl⟩
theorem lay42 : LayOk prog 42 (some ⟨1, false, [.slice none 0 0]⟩) := ⟨_, _, _, type42, rfl, rfl, rfl, underlying42, rfl⟩
theorem lay53 : LayOk prog 53 (some ⟨1, false, [.pointer none]⟩) := ⟨_, _, _, type53, rfl, rfl, rfl, underlying53, rfl⟩
theorem lay58 : LayOk prog 58 (some ⟨4, true, [.bool false, .int .i64 0, .int .i64 0, .int .i64 0]⟩) := ⟨_, _, _, type58, rfl, rfl, rfl, underlying58, rfl⟩
theorem lay59 : LayOk prog 59 (some ⟨4, true, [.bool false, .int .i64 0, .int .i64 0, .int .i64 0]⟩) := ⟨_, _, _, type59, rfl, rfl, rfl, underlying59, rfl⟩
theorem lay62 : LayOk prog 62 (some ⟨1, false, [.map none]⟩) := ⟨_, _, _, type62, rfl, rfl, rfl, underlying62, rfl⟩
theorem lay63 : LayOk prog 63 (some ⟨1, false, [.pointer none]⟩) := ⟨_, _, _, type63, rfl, rfl, rfl, underlying63, rfl⟩
theorem lay64 : LayOk prog 64 (some ⟨7, true, [.int .i64 0, .int .i64 0, .slice none 0 0, .int .i64 0, .slice none 0 0, .int .i64 0, .slice none 0 0]⟩) := ⟨_, _, _, type64, rfl, rfl, rfl, underlying64, rfl⟩
theorem lay65 : LayOk prog 65 (some ⟨7, true, [.int .i64 0, .int .i64 0, .slice none 0 0, .int .i64 0, .slice none 0 0, .int .i64 0, .slice none 0 0]⟩) := ⟨_, _, _, type65, rfl, rfl, rfl, underlying65, rfl⟩
theorem lay73 : LayOk prog 73 (some ⟨14, true, [.int .i64 0, .int .i64 0, .slice none 0 0, .int .i64 0, .bool false, .int .i64 0, .int .i64 0, .int .i64 0, .int .i64 0, .int .i64 0, .slice none 0 0, .int .i64 0, .int .i64 0, .int .i64 0]⟩) := ⟨_, _, _, type73, rfl, rfl, rfl, underlying73, rfl⟩
theorem lay74 : LayOk prog 74 (some ⟨14, true, [.int .i64 0, .int .i64 0, .slice none 0 0, .int .i64 0, .bool false, .int .i64 0, .int .i64 0, .int .i64 0, .int .i64 0, .int .i64 0, .slice none 0 0, .int .i64 0, .int .i64 0, .int .i64 0]⟩) := ⟨_, _, _, type74, rfl, rfl, rfl, underlying74, rfl⟩
theorem lay78 : LayOk prog 78 (some ⟨4, true, [.bool false, .int .i64 0, .int .i64 0, .int .i64 0]⟩) := ⟨_, _, _, type78, rfl, rfl, rfl, underlying78, rfl⟩
theorem lay81 : LayOk prog 81 (some ⟨3, true, [.slice none 0 0, .int .i64 0, .int .i64 0]⟩) := ⟨_, _, _, type81, rfl, rfl, rfl, underlying81, rfl⟩
theorem lay82 : LayOk prog 82 (some ⟨3, true, [.slice none 0 0, .int .i64 0, .int .i64 0]⟩) := ⟨_, _, _, type82, rfl, rfl, rfl, underlying82, rfl⟩
theorem lay85 : LayOk prog 85 (some ⟨1, false, [.pointer none]⟩) := ⟨_, _, _, type85, rfl, rfl, rfl, underlying85, rfl⟩
theorem lay89 : LayOk prog 89 (some ⟨4, true, [.pointer none, .pointer none, .pointer none, .string ⟨#[]⟩]⟩) := ⟨_, _, _, type89, rfl, rfl, rfl, underlying89, rfl⟩
theorem lay90 : LayOk prog 90 (some ⟨4, true, [.pointer none, .pointer none, .pointer none, .string ⟨#[]⟩]⟩) := ⟨_, _, _, type90, rfl, rfl, rfl, underlying90, rfl⟩
theorem lay94 : LayOk prog 94 (some ⟨1, false, [.int .u32 0]⟩) := ⟨_, _, _, type94, rfl, rfl, rfl, underlying94, rfl⟩
theorem lay95 : LayOk prog 95 (some ⟨1, false, [.int .u8 0]⟩) := ⟨_, _, _, type95, rfl, rfl, rfl, underlying95, rfl⟩
theorem lay96 : LayOk prog 96 (some ⟨1, false, [.int .u8 0]⟩) := ⟨_, _, _, type96, rfl, rfl, rfl, underlying96, rfl⟩
theorem lay98 : LayOk prog 98 (some ⟨1, false, [.pointer none]⟩) := ⟨_, _, _, type98, rfl, rfl, rfl, underlying98, rfl⟩
theorem lay99 : LayOk prog 99 (some ⟨1, false, [.int .i32 0]⟩) := ⟨_, _, _, type99, rfl, rfl, rfl, underlying99, rfl⟩
theorem lay100 : LayOk prog 100 (some ⟨1, false, [.int .i32 0]⟩) := ⟨_, _, _, type100, rfl, rfl, rfl, underlying100, rfl⟩
theorem cmp59 : CmpOk prog 59 (some [.bool, .int .i64, .int .i64, .int .i64]) := ⟨by kernel_rfl, by kernel_rfl, _, underlying59⟩
theorem tabOk : TabOk prog uni tab := tab_of (l1 := tyL) (l2 := layL) (l3 := cmpL) ⟨ty2, ty3, ty4, ty5, ty6, ty7, ty8, ty9, ty10, ty11, ty12, ty13, ty14, ty18, ty19, ty21, ty22, ty23, ty24, ty25, ty29, ty33, ty34, ty41, ty42, ty58, ty59, ty62, ty64, ty65, ty73, ty74, ty78, ty81, ty82, ty89, ty90, ty94, ty95, ty96, ty99, ty100, trivial⟩ ⟨lay2, lay3, lay4, lay5, lay6, lay7, lay8, lay9, lay10, lay11, lay12, lay13, lay14, lay15, lay16, lay17, lay18, lay19, lay21, lay22, lay23, lay24, lay25, lay29, lay33, lay34, lay41, lay42, lay53, lay58, lay59, lay62, lay63, lay64, lay65, lay73, lay74, lay78, lay81, lay82, lay85, lay89, lay90, lay94, lay95, lay96, lay98, lay99, lay100, trivial⟩ ⟨cmp59, trivial⟩
theorem dec0_ok (cs : List (T El)) (x : Int) (h : dec0 cs = some x) : ([.lit (.int .u8 x)] : List (T El)) = cs := by
  unfold dec0 at h
  split at h
  · injection h with h; subst h; rfl
  · simp at h
theorem one0 (x : Int) (v : Value) (h : T.lit v ∈ ([.lit (.int .u8 x)] : List (T El))) : v.oneCell' = true := by
  simp at h
  subst h; rfl
theorem flat0 (x : Int) (t : T El) (h : t ∈ ([.lit (.int .u8 x)] : List (T El))) : ∃ v, t = .lit v := by
  simp at h
  subst h; exact ⟨_, rfl⟩
theorem dec1_ok (cs : List (T El)) (x : Int) (h : dec1 cs = some x) : ([.lit (.int .i64 x)] : List (T El)) = cs := by
  unfold dec1 at h
  split at h
  · injection h with h; subst h; rfl
  · simp at h
theorem one1 (x : Int) (v : Value) (h : T.lit v ∈ ([.lit (.int .i64 x)] : List (T El))) : v.oneCell' = true := by
  simp at h
  subst h; rfl
theorem flat1 (x : Int) (t : T El) (h : t ∈ ([.lit (.int .i64 x)] : List (T El))) : ∃ v, t = .lit v := by
  simp at h
  subst h; exact ⟨_, rfl⟩
theorem dec2_ok (cs : List (T El)) (x : S58) (h : dec2 cs = some x) : ([.lit (.bool x.f0), .lit (.int .i64 x.f1), .lit (.int .i64 x.f2), .lit (.int .i64 x.f3)] : List (T El)) = cs := by
  unfold dec2 at h
  split at h
  · injection h with h; subst h; rfl
  · simp at h
theorem one2 (x : S58) (v : Value) (h : T.lit v ∈ ([.lit (.bool x.f0), .lit (.int .i64 x.f1), .lit (.int .i64 x.f2), .lit (.int .i64 x.f3)] : List (T El))) : v.oneCell' = true := by
  simp at h
  rcases h with rfl | rfl | rfl | rfl <;> rfl
theorem flat2 (x : S58) (t : T El) (h : t ∈ ([.lit (.bool x.f0), .lit (.int .i64 x.f1), .lit (.int .i64 x.f2), .lit (.int .i64 x.f3)] : List (T El))) : ∃ v, t = .lit v := by
  simp at h
  rcases h with rfl | rfl | rfl | rfl <;> exact ⟨_, rfl⟩
theorem dec3_ok (cs : List (T El)) (x : S58) (h : dec3 cs = some x) : ([.lit (.bool x.f0), .lit (.int .i64 x.f1), .lit (.int .i64 x.f2), .lit (.int .i64 x.f3)] : List (T El)) = cs := by
  unfold dec3 at h
  split at h
  · injection h with h; subst h; rfl
  · simp at h
theorem one3 (x : S58) (v : Value) (h : T.lit v ∈ ([.lit (.bool x.f0), .lit (.int .i64 x.f1), .lit (.int .i64 x.f2), .lit (.int .i64 x.f3)] : List (T El))) : v.oneCell' = true := by
  simp at h
  rcases h with rfl | rfl | rfl | rfl <;> rfl
theorem flat3 (x : S58) (t : T El) (h : t ∈ ([.lit (.bool x.f0), .lit (.int .i64 x.f1), .lit (.int .i64 x.f2), .lit (.int .i64 x.f3)] : List (T El))) : ∃ v, t = .lit v := by
  simp at h
  rcases h with rfl | rfl | rfl | rfl <;> exact ⟨_, rfl⟩
theorem dec4_ok (cs : List (T El)) (x : S62) (h : dec4 cs = some x) : ([.lit (.int .i64 x.f0), .lit (.bool x.f1)] : List (T El)) = cs := by
  unfold dec4 at h
  split at h
  · injection h with h; subst h; rfl
  · simp at h
theorem one4 (x : S62) (v : Value) (h : T.lit v ∈ ([.lit (.int .i64 x.f0), .lit (.bool x.f1)] : List (T El))) : v.oneCell' = true := by
  simp at h
  rcases h with rfl | rfl <;> rfl
theorem flat4 (x : S62) (t : T El) (h : t ∈ ([.lit (.int .i64 x.f0), .lit (.bool x.f1)] : List (T El))) : ∃ v, t = .lit v := by
  simp at h
  rcases h with rfl | rfl <;> exact ⟨_, rfl⟩
theorem uniOk : UniOk uni where
  len k x := match k, x with
    | 0, x => rfl
    | 1, x => rfl
    | 2, x => rfl
    | 3, x => rfl
    | 4, x => rfl
    | k + 5, x => rfl
  dec k cs x h := match k, x, h with
    | 0, x, h => dec0_ok cs x h
    | 1, x, h => dec1_ok cs x h
    | 2, x, h => dec2_ok cs x h
    | 3, x, h => dec3_ok cs x h
    | 4, x, h => dec4_ok cs x h
    | k + 5, x, h => by cases h
  one k x v h := match k, x, h with
    | 0, x, h => one0 x v h
    | 1, x, h => one1 x v h
    | 2, x, h => one2 x v h
    | 3, x, h => one3 x v h
    | 4, x, h => one4 x v h
    | k + 5, x, h => by cases h
  flat k x hn t h := match k, x, hn, h with
    | 0, x, hn, h => flat0 x t h
    | 1, x, hn, h => flat1 x t h
    | 2, x, hn, h => flat2 x t h
    | 3, x, hn, h => flat3 x t h
    | 4, x, hn, h => flat4 x t h
    | k + 5, x, hn, h => by cases h
theorem mixed : prog.follows .mixedOrders = true := by kernel_rfl
end Go.Proofs.Ytnaieiillgncjaa.AX

/- What a law's arguments are in the small machine: memory that is read, told. No conditions. (under way) -/
namespace Go.Proofs.Ytnaieiillgncjaa.AX
open Go Go.RowKit

inductive Cl where
  | int (k : IntKind)
  | bool
  | str
  | row (k : Nat)

section
variable {U : Uni}

def TOf (R : (k : Nat) → List (U.El k) → Prop) : Cl → T U.El → Prop
  | .int k, .lit (.int k' n) => k' = k ∧ (Lit.int k n).wf = true
  | .bool, .lit (.bool _) => True
  | .str, .lit (.string s) => s.size ≤ maxLen
  | .row k, .row k' l => ∃ h : k' = k, R k (h ▸ l)
  | _, _ => False

def TsOf (R : (k : Nat) → List (U.El k) → Prop) : List Cl → List (T U.El) → Prop
  | [], [] => True
  | c :: cs, t :: ts => TOf R c t ∧ TsOf R cs ts
  | _, _ => False


def ElOk (ky : Nat → List Cl) : Nat → (k : Nat) → U.El k → Prop
  | 0, _, _ => True
  | n + 1, k, x => TsOf (fun k l => l.length ≤ maxLen ∧ ∀ x ∈ l, ElOk ky n k x) (ky k) (U.enc k x)

def RowOk (ky : Nat → List Cl) (n : Nat) (k : Nat) (l : List (U.El k)) : Prop := l.length ≤ maxLen ∧ ∀ x ∈ l, ElOk ky n k x

mutual
inductive Flat (P : Program) (U : Uni) (ky : Nat → List Cl) : TypeId → List Cl → Prop where
  | int (t k) (h : P.underlying t = some (.int k)) : Flat P U ky t [.int k]
  | bool (t) (h : P.underlying t = some .bool) : Flat P U ky t [.bool]
  | str (t) (h : P.underlying t = some .string) : Flat P U ky t [.str]
  | slice (t k) (h : P.underlying t = some (.slice (U.ty k))) (hg : ky k ≠ []) : Flat P U ky t [.row k]
  | struct (t fs cls) (h : P.underlying t = some (.struct fs)) (hc : P.cellsOf t = cls.length) (hf : FlatL P U ky fs.toList 0 cls) : Flat P U ky t cls
inductive FlatL (P : Program) (U : Uni) (ky : Nat → List Cl) : List Field → Nat → List Cl → Prop where
  | nil (off) : FlatL P U ky [] off []
  | cons (fd r off cls rest) (ho : fd.offset = off) (h : Flat P U ky fd.type cls) (hc : P.cellsOf fd.type = cls.length) (hr : FlatL P U ky r (off + cls.length) rest) : FlatL P U ky (fd :: r) off (cls ++ rest)
end

theorem tsOf_app {R : (k : Nat) → List (U.El k) → Prop} : ∀ {c1 c2 : List Cl} {t1 t2 : List (T U.El)}, TsOf R c1 t1 → TsOf R c2 t2 → TsOf R (c1 ++ c2) (t1 ++ t2)
  | [], _, [], _, _, h => h
  | c :: cs, _, t :: ts, _, h, h' => ⟨h.1, tsOf_app h.2 h'⟩
  | [], _, _ :: _, _, h, _ => h.elim
  | _ :: _, _, [], _, h, _ => h.elim

theorem tsOf_len {R : (k : Nat) → List (U.El k) → Prop} : ∀ {cs : List Cl} {ts : List (T U.El)}, TsOf R cs ts → ts.length = cs.length
  | [], [], _ => rfl
  | _ :: _, _ :: _, h => by simp [tsOf_len h.2]
  | [], _ :: _, h => h.elim
  | _ :: _, [], h => h.elim

theorem choose_list {α : Type} {Q : Nat → α → Prop} : ∀ {n : Nat}, (∀ i, i < n → ∃ x, Q i x) → ∃ l : List α, l.length = n ∧ ∀ i x, l[i]? = some x → Q i x
  | 0, _ => ⟨[], rfl, fun i x h => by simp at h⟩
  | n + 1, h => by
    obtain ⟨l, h1, h2⟩ := choose_list (n := n) fun i hi => h i (by omega)
    obtain ⟨x, hx⟩ := h n (by omega)
    refine ⟨l ++ [x], by simp [h1], fun i y hy => ?_⟩
    rcases Nat.lt_trichotomy i n with hi | hi | hi
    · rw [List.getElem?_append_left (by omega)] at hy; exact h2 i y hy
    · subst hi
      rw [List.getElem?_append_right (by omega), h1] at hy
      simp at hy; subst hy; exact hx
    · rw [List.getElem?_eq_none (by simp [h1]; omega)] at hy; simp at hy

structure Kinds (P : Program) (U : Uni) (ky : Nat → List Cl) : Prop where
  flat : ∀ k, ky k ≠ [] → Flat P U ky (U.ty k) (ky k)
  size : ∀ k, ky k ≠ [] → P.cellsOf (U.ty k) = U.sz k
  full : ∀ k ts R, ky k ≠ [] → TsOf R (ky k) ts → ∃ x, U.enc k x = ts

section
variable {k0 : Nat} {P : Program} {ky : Nat → List Cl} {H : Type} {enc : TypeId × Value → H} {w : World} {base : Nat} {spare : Nat → Bool} {held : Bool}

theorem repL_mono {d d' : Nat} (hd : d ≤ d') {cs : List Value} {ts : List (T U.El)} {F : List Nat} (h : RepL (RepT false d w) cs ts F) : RepL (RepT false d' w) cs ts F := h.imp fun v t G h _ => RepT.mono h hd

theorem flatL_ok {fuel : Nat} (ih : ∀ {t : TypeId} {cls : List Cl} {cs : List Value} {x : DataW H × List MemPlace}, Flat P U ky t cls → DataW.trod enc P w base spare held fuel t cs = some x → ∃ ts F, RepL (RepT false fuel w) cs ts F ∧ ∀ n, TsOf (RowOk (U := U) ky n) cls ts) {cs : List Value} :
    ∀ {fs : List Field} {off : Nat} {cls : List Cl}, FlatL P U ky fs off cls → (∀ (i : Nat) (f : Field), fs[i]? = some f → ∃ y, DataW.trod enc P w base spare held fuel f.type ((cs.drop f.offset).take (P.cellsOf f.type)) = some y) →
      ∃ ts F, RepL (RepT false fuel w) ((cs.drop off).take cls.length) ts F ∧ ∀ n, TsOf (RowOk (U := U) ky n) cls ts
  | _, _, _, .nil off, _ => ⟨[], [], by simp [RepL], fun n => trivial⟩
  | _, _, _, .cons fd r off cls rest ho h hc hr, hf => by
    obtain ⟨y, hy⟩ := hf 0 fd rfl
    obtain ⟨t1, F1, a1, a2⟩ := ih h hy
    obtain ⟨t2, F2, b1, b2⟩ := flatL_ok ih hr fun i f hi => hf (i + 1) f (by simpa using hi)
    refine ⟨t1 ++ t2, F1 ++ F2, ?_, fun n => tsOf_app (a2 n) (b2 n)⟩
    have : (cs.drop off).take (cls ++ rest).length = (cs.drop fd.offset).take (P.cellsOf fd.type) ++ (cs.drop (off + cls.length)).take rest.length := by
      rw [ho, hc, List.length_append, ← List.drop_drop, List.take_add]
    rw [this]
    exact a1.join b1

theorem flat_cells {a : Addr} {sz : Nat} : ∀ {L : List (List Value × U.El k0 × List Nat)} {st : Nat}, (∀ i t, L[i]? = some t → t.1.length = sz ∧ ∀ c u, t.1[c]? = some u → w.cell? (a.add ((st + i) * sz + c)) = some u) → ∀ j u, (L.flatMap (·.1))[j]? = some u → w.cell? (a.add (st * sz + j)) = some u
  | [], st, h, j, u, hj => by simp at hj
  | t :: L, st, h, j, u, hj => by
    obtain ⟨h1, h2⟩ := h 0 t rfl
    rw [List.flatMap_cons] at hj
    rcases Nat.lt_or_ge j sz with hlt | hge
    · rw [List.getElem?_append_left (by omega)] at hj
      exact h2 j u hj
    · rw [List.getElem?_append_right (by omega), h1] at hj
      have := flat_cells (L := L) (st := st + 1) (fun i t ht => by
        have := h (i + 1) t (by simpa using ht)
        rw [show st + (i + 1) = st + 1 + i by omega] at this; exact this) (j - sz) u hj
      rw [show st * sz + j = (st + 1) * sz + (j - sz) by rw [Nat.add_mul]; omega]
      exact this

theorem flat_rep {fuel : Nat} {k : Nat} : ∀ {L : List (List Value × U.El k × List Nat)}, (∀ t ∈ L, RepL (RepT false fuel w) t.1 (U.enc k t.2.1) t.2.2) → RepL (RepT false fuel w) (L.flatMap (·.1)) ((L.map (·.2.1)).flatMap (U.enc k)) (L.flatMap (·.2.2))
  | [], _ => by simp [RepL]
  | t :: L, h => by
    simp only [List.flatMap_cons, List.map_cons]
    exact (h t (by simp)).join (flat_rep fun t ht => h t (by simp [ht]))

theorem trod_flat (hK : Kinds P U ky) : ∀ (fuel : Nat) {t : TypeId} {cls : List Cl} {cs : List Value} {x : DataW H × List MemPlace}, Flat P U ky t cls → DataW.trod enc P w base spare held fuel t cs = some x → ∃ ts F, RepL (RepT false fuel w) cs ts F ∧ ∀ n, TsOf (RowOk (U := U) ky n) cls ts
  | 0, t, cls, cs, x, _, h => by simp [DataW.trod] at h
  | fuel + 1, t, cls, cs, x, hfl, h => by
    cases hfl with
    | int _ k hu =>
      obtain ⟨n, rfl, _, hw⟩ := DataW.trod_int hu h
      exact ⟨[.lit (.int k n)], [], by simp [RepL, RepT], fun _ => ⟨⟨rfl, hw⟩, trivial⟩⟩
    | bool _ hu =>
      obtain ⟨b, rfl, _⟩ := DataW.trod_bool hu h
      exact ⟨[.lit (.bool b)], [], by simp [RepL, RepT], fun _ => ⟨trivial, trivial⟩⟩
    | str _ hu =>
      obtain ⟨b, rfl, _, hs⟩ := DataW.trod_string hu h
      exact ⟨[.lit (.string b)], [], by simp [RepL, RepT], fun _ => ⟨hs, trivial⟩⟩
    | struct _ fs _ hu hcl hf =>
      obtain ⟨xs, n, e, rfl, hl, hxl, hx⟩ := DataW.trod_struct hu h
      injection e with e; subst e
      obtain ⟨ts, F, a1, a2⟩ := flatL_ok (fun hfl h => trod_flat hK fuel hfl h) hf fun i f hi => by
        have hi' : fs[i]? = some f := by rw [← Array.getElem?_toList]; exact hi
        have hlt : i < xs.length := by rw [hxl]; exact (Array.getElem?_eq_some_iff.1 hi').1
        have := hx i f hi'
        rw [List.getElem?_eq_getElem hlt] at this
        exact ⟨_, this⟩
      rw [List.drop_zero] at a1
      have hlen := a1.len
      have h2 := tsOf_len (a2 0)
      refine ⟨ts, F, ?_, a2⟩
      have : cs.take cls.length = cs := by
        apply List.take_of_length_le
        rw [hl, hcl]; exact Nat.le_refl _
      rw [this] at a1
      exact repL_mono (Nat.le_succ _) a1
    | slice _ k hu hg =>
      rcases DataW.trod_slice hu h with ⟨rfl, _⟩ | ⟨a, len, cap, elems, rest, n, e, rfl, rfl, hb, hl, hm, hlen, hel, _, _⟩
      · exact ⟨[.row k []], [], ⟨[], [], ⟨[], [], [], ⟨none, 0, rfl, Nat.le_refl _, Nat.zero_le _, by simp, by simp, fun h => absurd rfl h⟩, by simp [RepL], rfl, fun h => by simp at h⟩, by simp [RepL], rfl⟩, fun n => ⟨⟨rfl, Nat.zero_le _, fun x hx => by simp at hx⟩, trivial⟩⟩
      · injection e with e; subst e
        obtain ⟨L, hL1, hL2⟩ := choose_list (n := len) (Q := fun i (t : List Value × U.El k × List Nat) => w.cells? base (a.add (i * P.cellsOf (U.ty k))) (P.cellsOf (U.ty k)) = some t.1 ∧ RepL (RepT false fuel w) t.1 (U.enc k t.2.1) t.2.2 ∧ ∀ n, TsOf (RowOk ky n) (ky k) (U.enc k t.2.1)) fun i hi => by
          have hi' : i < elems.length := by omega
          have := hel i hi
          rw [List.getElem?_eq_getElem hi', Option.bind_eq_some_iff] at this
          obtain ⟨cs, h1, h2⟩ := this
          obtain ⟨ts, F, h3, h4⟩ := trod_flat hK fuel (hK.flat k hg) h2
          obtain ⟨x, hx⟩ := hK.full k ts _ hg (h4 0)
          subst hx
          exact ⟨(cs, x, F), h1, h3, h4⟩
        have hsz := hK.size k hg
        have hcells := flat_cells (w := w) (a := a) (sz := U.sz k) (L := L) (st := 0) fun i t ht => by
          obtain ⟨h1, _⟩ := hL2 i t ht
          obtain ⟨_, h2, h3⟩ := World.cells?_some h1
          rw [hsz] at h2 h3
          refine ⟨h2, fun c u hc => ?_⟩
          have hlt : c < U.sz k := by rw [← h2]; exact (List.getElem?_eq_some_iff.1 hc).1
          have := h3 c hlt
          rw [hc, add_add] at this
          rw [Nat.zero_add]; exact this
        have hlenc : (L.flatMap (·.1)).length = len * U.sz k := by
          rw [← hL1]
          have : ∀ t ∈ L, t.1.length = U.sz k := fun t ht => by
            obtain ⟨i, hi⟩ := List.getElem?_of_mem ht
            have := (World.cells?_some (hL2 i t hi).1).2.1
            rw [hsz] at this; exact this
          clear hL2 hcells hL1
          induction L with
          | nil => simp
          | cons t L ih =>
            rw [List.flatMap_cons, List.length_append, this t (by simp), ih fun t ht => this t (by simp [ht]), List.length_cons, Nat.add_mul]; omega
        have hrep := flat_rep (w := w) (fuel := fuel) (L := L) fun t ht => by
          obtain ⟨i, hi⟩ := List.getElem?_of_mem ht
          exact (hL2 i t hi).2.1
        refine ⟨[.row k (L.map (·.2.1))], _, ⟨_, [], ⟨L.flatMap (·.1), _, _, ⟨some a, cap, by simp [hL1], by simpa [hL1] using hl, hm, by simp [hL1, hlenc], rfl, fun _ => ⟨a, rfl, fun j u hj => by simpa using hcells j u hj⟩⟩, hrep, rfl, fun h => by simp at h⟩, by simp [RepL], rfl⟩, fun n => ⟨⟨rfl, ?_, fun x hx => ?_⟩, trivial⟩⟩
        · simp only [List.length_map, hL1]; omega
        · obtain ⟨t, ht, rfl⟩ := List.mem_map.1 hx
          obtain ⟨i, hi⟩ := List.getElem?_of_mem ht
          cases n with
          | zero => trivial
          | succ n => exact (hL2 i t hi).2.2 n

end

end
end Go.Proofs.Ytnaieiillgncjaa.AX

/- From a law's arguments to the small machine, and back. No conditions. -/
namespace Go.Proofs.Ytnaieiillgncjaa.AX
open Go Go.RowKit Go.WideShapes

section
variable {U : Uni} {P : Program} {ky : Nat → List Cl} {H : Type} {enc : TypeId × Value → H} {w : World} {base : Nat} {spare : Nat → Bool} {held : Bool}

theorem below_of {w' : World} (h : Fr w [] w') : Below w.heap.size w w' := ⟨h.os, h.tape, h.output, h.size, fun k hk => h.block k hk (by simp)⟩

/-- An argument that is a slice. -/
theorem open_slice (hK : Kinds P U ky) {r : Reach} {b0 : Nat} {t : TypeId} {k : Nat} {v : Value} {d : DataW H} {ps : List MemPlace} (ht : P.underlying t = some (.slice (U.ty k))) (hg : ky k ≠ []) (hval : Value.okWide P w r b0 t v) (h : DataW.Trod enc P w base spare held t v d ps) :
    ∃ (l : List (U.El k)) (F : List Nat), AIn w (.row k 0) (.row k l) v [] F ∧ ∀ n, RowOk ky n k l := by
  obtain ⟨a, len, cap, rfl⟩ := okWide_slice ht hval
  obtain ⟨fuel, hf⟩ := h
  obtain ⟨ts, F, h1, h2⟩ := trod_flat hK fuel (.slice t k ht hg) hf
  have h0 := h2 0
  match ts, h0, h1, h2 with
  | [.row k' l], ⟨⟨e, _⟩, _⟩, h1, h2 =>
    subst e
    obtain ⟨G1, G2, g1, g2, rfl⟩ := h1
    exact ⟨l, G1, ⟨⟨fuel, g1⟩, rfl⟩, fun n => by obtain ⟨⟨_, h⟩, _⟩ := h2 n; exact h⟩

def pfC : Cl → PF
  | .row k => .row k 0
  | _ => .sc
def dvT : T U.El → DV U
  | .lit v => .val v
  | .row k l => .row k l

theorem csIn_of {n : Nat} {R : (k : Nat) → List (U.El k) → Prop} : ∀ {cls : List Cl} {ts : List (T U.El)} {vs : List Value} {F : List Nat}, TsOf R cls ts → RepL (RepT false n w) vs ts F → CsIn w (cls.map pfC) (ts.map dvT) vs [] F
  | [], [], [], F, _, h => ⟨rfl, h⟩
  | c :: cls, t :: ts, v :: vs, F, h, h' => by
    obtain ⟨F1, F2, g1, g2, rfl⟩ := h'
    refine ⟨[], [], F1, F2, ?_, csIn_of h.2 g2, rfl, rfl⟩
    have hc := h.1
    match c, t, hc, g1 with
    | .int k, .lit (.int k' m), _, g1 => simp only [RepT] at g1; exact ⟨g1.1, rfl, g1.2⟩
    | .bool, .lit (.bool b), _, g1 => simp only [RepT] at g1; exact ⟨g1.1, rfl, g1.2⟩
    | .str, .lit (.string b), _, g1 => simp only [RepT] at g1; exact ⟨g1.1, rfl, g1.2⟩
    | .row k, .row k' l, ⟨e, _⟩, g1 => subst e; exact ⟨⟨n, g1⟩, rfl⟩
  | [], _ :: _, _, _, h, _ => h.elim
  | _ :: _, [], _, _, h, _ => h.elim
  | [], [], _ :: _, _, _, h => h.elim
  | _ :: _, _ :: _, [], _, _, h => h.elim

/-- An argument that is a struct. -/
theorem open_parts (hK : Kinds P U ky) {r : Reach} {b0 : Nat} {t : TypeId} {fs : Array Field} {cls : List Cl} {v : Value} {d : DataW H} {ps : List MemPlace} (ht : P.underlying t = some (.struct fs)) (hfl : Flat P U ky t cls) (hval : Value.okWide P w r b0 t v) (h : DataW.Trod enc P w base spare held t v d ps) :
    ∃ (ts : List (T U.El)) (F : List Nat), AIn w (.agg (cls.map pfC)) (.agg (ts.map dvT)) v [] F ∧ ∀ n, TsOf (RowOk (U := U) ky n) cls ts := by
  obtain ⟨cs, rfl, _⟩ := okWide_struct ht hval
  obtain ⟨fuel, hf⟩ := h
  obtain ⟨ts, F, h1, h2⟩ := trod_flat hK fuel hfl hf
  exact ⟨ts, F, ⟨cs.toList, rfl, csIn_of (h2 0) h1⟩, h2⟩

end
end Go.Proofs.Ytnaieiillgncjaa.AX

/- How this program's values lie. No conditions. -/
namespace Go.Proofs.Ytnaieiillgncjaa.AX
open Go Go.Proofs.Try
def ky : Nat → List Cl := look [] [(0, [.int .u8]), (1, [.int .i64]), (2, [.bool, .int .i64, .int .i64, .int .i64]), (3, [.bool, .int .i64, .int .i64, .int .i64])]
theorem flat5t : Flat prog uni ky 5 [.int .u8] := .int 5 .u8 underlying5
theorem flat3t : Flat prog uni ky 3 [.int .i64] := .int 3 .i64 underlying3
theorem flat4t : Flat prog uni ky 4 [.bool] := .bool 4 underlying4
theorem flat59t : Flat prog uni ky 59 [.bool, .int .i64, .int .i64, .int .i64] := .struct 59 _ [.bool, .int .i64, .int .i64, .int .i64] underlying59 rfl (.cons _ _ _ [.bool] _ rfl flat4t rfl (.cons _ _ _ [.int .i64] _ rfl flat3t rfl (.cons _ _ _ [.int .i64] _ rfl flat3t rfl (.cons _ _ _ [.int .i64] _ rfl flat3t rfl (.nil _)))))
theorem flat78t : Flat prog uni ky 78 [.bool, .int .i64, .int .i64, .int .i64] := .struct 78 _ [.bool, .int .i64, .int .i64, .int .i64] underlying78 rfl (.cons _ _ _ [.bool] _ rfl flat4t rfl (.cons _ _ _ [.int .i64] _ rfl flat3t rfl (.cons _ _ _ [.int .i64] _ rfl flat3t rfl (.cons _ _ _ [.int .i64] _ rfl flat3t rfl (.nil _)))))
theorem full0 (ts : List (T El)) (R : (k : Nat) → List (El k) → Prop) (h : TsOf (U := uni) R [.int .u8] ts) : ∃ x : Int, elEnc 0 x = ts :=
  match ts, h with
  | [.lit (.int k0 x0)], ⟨⟨h0, _⟩, _⟩ => by subst h0; exact ⟨x0, rfl⟩
theorem full1 (ts : List (T El)) (R : (k : Nat) → List (El k) → Prop) (h : TsOf (U := uni) R [.int .i64] ts) : ∃ x : Int, elEnc 1 x = ts :=
  match ts, h with
  | [.lit (.int k0 x0)], ⟨⟨h0, _⟩, _⟩ => by subst h0; exact ⟨x0, rfl⟩
theorem full2 (ts : List (T El)) (R : (k : Nat) → List (El k) → Prop) (h : TsOf (U := uni) R [.bool, .int .i64, .int .i64, .int .i64] ts) : ∃ x : S58, elEnc 2 x = ts :=
  match ts, h with
  | [.lit (.bool x0), .lit (.int k1 x1), .lit (.int k2 x2), .lit (.int k3 x3)], ⟨_, ⟨h1, _⟩, ⟨h2, _⟩, ⟨h3, _⟩, _⟩ => by subst h1; subst h2; subst h3; exact ⟨⟨x0, x1, x2, x3⟩, rfl⟩
theorem full3 (ts : List (T El)) (R : (k : Nat) → List (El k) → Prop) (h : TsOf (U := uni) R [.bool, .int .i64, .int .i64, .int .i64] ts) : ∃ x : S58, elEnc 3 x = ts :=
  match ts, h with
  | [.lit (.bool x0), .lit (.int k1 x1), .lit (.int k2 x2), .lit (.int k3 x3)], ⟨_, ⟨h1, _⟩, ⟨h2, _⟩, ⟨h3, _⟩, _⟩ => by subst h1; subst h2; subst h3; exact ⟨⟨x0, x1, x2, x3⟩, rfl⟩
theorem kindsOk : Kinds prog uni ky where
  flat k h := match k, h with
    | 0, _ => flat5t
    | 1, _ => flat3t
    | 2, _ => flat59t
    | 3, _ => flat78t
    | 4, h => absurd rfl h
    | k + 5, h => absurd rfl h
  size k h := match k, h with
    | 0, _ => rfl
    | 1, _ => rfl
    | 2, _ => rfl
    | 3, _ => rfl
    | 4, h => absurd rfl h
    | k + 5, h => absurd rfl h
  full k ts R h h' := match k, h, h' with
    | 0, _, h' => full0 ts R h'
    | 1, _, h' => full1 ts R h'
    | 2, _, h' => full2 ts R h'
    | 3, _, h' => full3 ts R h'
    | 4, h, _ => absurd rfl h
    | k + 5, h, _ => absurd rfl h
end Go.Proofs.Ytnaieiillgncjaa.AX

/- The function 41 of the program in the small machine. No conditions. -/
namespace Go.Proofs.Ytnaieiillgncjaa.AX.F41
open Go Go.Proofs.Try
noncomputable def code : Code := bodyOf f41
abbrev Y : Type := Int
def cp : Cod uni ((List Int) × Int) := (codC (iRow 1) (cod1 (iInt .i64)))
def cr : Coz uni Int := (cozR (cod1 (iInt .i64)) (codD (codD cod0)))
noncomputable def es : List (Ent prog uni) := []
theorem get : prog.funcs[41]? = some f41 := by kernel_rfl

noncomputable def F : ((List Int) × Int) → Option (Int)
  | (p0, p1) =>
  let x0 := (Go.IntKind.wrap (Go.IntKind.i64 ) (p1 - ((List.length p0) : Int)))
  cond (decide (x0 < 0)) (
   some (-1)) (
   some x0)
theorem F.eq : ∀ x, F x = runF (mkE tab es 12 [] []) code [.row 1 0, .sc] [.sc] [.tmp 4] (Coz.dec cr) (cp.enc x) := fun x => by kernel_rfl
theorem F.owed : owed (mkE (R := Int) tab es 12 [] []) code = [] := by kernel_rfl
theorem con : ∀ x y, F x = some y → Con prog 41 [.row 1 0, .sc] [.sc] (cp.enc x) (cr.enc y).1 (cr.enc y).2 :=
  func_ok (c := code) (n := 12) (pf := [.row 1 0, .sc]) (res := [.tmp 4]) tabOk uniOk mixed get (by kernel_rfl) (by kernel_rfl) (by kernel_rfl) (by decide) F.eq fun w0 M h x hx => by rw [F.owed] at hx; exact absurd hx List.not_mem_nil
noncomputable def ent : Ent prog uni := Ent.of 41 [.row 1 0, .sc] [.sc] cp cr F con fun args w => enters_of get (by kernel_rfl) rfl args w
end Go.Proofs.Ytnaieiillgncjaa.AX.F41

/- The function 13 of the program in the small machine. No conditions. -/
namespace Go.Proofs.Ytnaieiillgncjaa.AX.F13
open Go Go.Proofs.Try
noncomputable def code : Code := bodyOf f13
abbrev Y : Type := Int
def cp : Cod uni ((Int × Int × (List Int)) × Int) := (codC (iAgg (codC (iInt .i64) (codC (iInt .i64) (cod1 (iRow 1))))) (cod1 (iInt .i64)))
def cr : Coz uni Int := (cozR (cod1 (iInt .i64)) (codD (codD cod0)))
noncomputable def es : List (Ent prog uni) := [F41.ent]
theorem get : prog.funcs[13]? = some f13 := by kernel_rfl

noncomputable def F : ((Int × Int × (List Int)) × Int) → Option (Int)
  | ((p0_0, p0_1, p0_2), p1) =>
  (F41.F (p0_2, p1)).bind fun y41 =>
  cond (decide (y41 < 0)) (
   some (-1)) (
   some y41)
theorem F.eq : ∀ x, F x = runF (mkE tab es 12 [] []) code [.agg [.sc, .sc, .row 1 0], .sc] [.sc] [.tmp 4] (Coz.dec cr) (cp.enc x) := fun x => by kernel_rfl
theorem F.owed : owed (mkE (R := Int) tab es 12 [] []) code = [] := by kernel_rfl
theorem con : ∀ x y, F x = some y → Con prog 13 [.agg [.sc, .sc, .row 1 0], .sc] [.sc] (cp.enc x) (cr.enc y).1 (cr.enc y).2 :=
  func_ok (c := code) (n := 12) (pf := [.agg [.sc, .sc, .row 1 0], .sc]) (res := [.tmp 4]) tabOk uniOk mixed get (by kernel_rfl) (by kernel_rfl) (by kernel_rfl) (by decide) F.eq fun w0 M h x hx => by rw [F.owed] at hx; exact absurd hx List.not_mem_nil
noncomputable def ent : Ent prog uni := Ent.of 13 [.agg [.sc, .sc, .row 1 0], .sc] [.sc] cp cr F con fun args w => enters_of get (by kernel_rfl) rfl args w
end Go.Proofs.Ytnaieiillgncjaa.AX.F13

/- The function 14 of the program in the small machine. No conditions. -/
namespace Go.Proofs.Ytnaieiillgncjaa.AX.F14
open Go Go.Proofs.Try
noncomputable def code : Code := bodyOf f14
abbrev Y : Type := Int
def cp : Cod uni ((List S58) × Int) := (codC (iRow 3) (cod1 (iInt .i64)))
def cr : Coz uni Int := (cozR (cod1 (iInt .i64)) (codD (codD cod0)))
noncomputable def es : List (Ent prog uni) := []
theorem get : prog.funcs[14]? = some f14 := by kernel_rfl

noncomputable def F : ((List S58) × Int) → Option (Int)
  | (p0, p1) =>
  let x0 := (Go.IntKind.wrap (Go.IntKind.i64 ) (p1 - ((List.length p0) : Int)))
  cond (decide (x0 < 0)) (
   some (-1)) (
   some x0)
theorem F.eq : ∀ x, F x = runF (mkE tab es 12 [] []) code [.row 3 0, .sc] [.sc] [.tmp 4] (Coz.dec cr) (cp.enc x) := fun x => by kernel_rfl
theorem F.owed : owed (mkE (R := Int) tab es 12 [] []) code = [] := by kernel_rfl
theorem con : ∀ x y, F x = some y → Con prog 14 [.row 3 0, .sc] [.sc] (cp.enc x) (cr.enc y).1 (cr.enc y).2 :=
  func_ok (c := code) (n := 12) (pf := [.row 3 0, .sc]) (res := [.tmp 4]) tabOk uniOk mixed get (by kernel_rfl) (by kernel_rfl) (by kernel_rfl) (by decide) F.eq fun w0 M h x hx => by rw [F.owed] at hx; exact absurd hx List.not_mem_nil
noncomputable def ent : Ent prog uni := Ent.of 14 [.row 3 0, .sc] [.sc] cp cr F con fun args w => enters_of get (by kernel_rfl) rfl args w
end Go.Proofs.Ytnaieiillgncjaa.AX.F14

/- The function 44 of the program in the small machine. No conditions. -/
namespace Go.Proofs.Ytnaieiillgncjaa.AX.F44
open Go Go.Proofs.Try
noncomputable def code : Code := bodyOf f44
abbrev Y : Type := (List Int)
def cp : Cod uni (List Int) := (cod1 (iRow 1))
def cr : Coz uni (List Int) := (cozR (cod1 (iRow 1)) (codD cod0))
noncomputable def es : List (Ent prog uni) := []
theorem get : prog.funcs[44]? = some f44 := by kernel_rfl

def l0.A : Ann := ⟨[(0, .slc 5000000 []), (3, .slc 5000192 []), (4, .sc)], [], [(5000000, false, 1), (5000192, true, 1)], []⟩
def l0.c : Cod uni (Int × (List Int) × (List Int)) := (codC (iInt .i64) (codC (iRow 1) (cod1 (iRow 1))))
def l0.xs : List (AExit × Ann) := [((.exit 0), ⟨[(3, .slc 5000192 [])], [], [(5000192, true, 1)], []⟩)]
def l0.y : Coy uni ((List Int)) := (coy1 (cod1 (iRow 1)))
noncomputable def l0.b : Int × (List Int) × (List Int) → Option ((Int × (List Int) × (List Int)) ⊕ ((List Int)))
  | (v4, r0, r192) =>
  let x0 := (decide (v4 < ((List.length r0) : Int)))
  cond x0 (
   cond ((decide (0 ≤ v4)) && x0) (
    cond ((decide (0 ≤ v4)) && (decide (v4 < ((List.length r192) : Int)))) (
     some (.inl ((Go.IntKind.wrap (Go.IntKind.i64 ) (v4 + 1)), r0, (List.set r192 (Int.toNat v4) (List.getD r0 (Int.toNat v4) 0))))) none) none) (
   some (.inr r192))
noncomputable def l0 (x : Int × (List Int) × (List Int)) : Option ((List Int)) := lim l0.b x
theorem l0.eq : ∀ x, l0.b x = roundX (mkE tab es 22 [] []) (loopAt 0 code) (cutOf l0.A l0.c) (cutsOf l0.xs l0.y) x := fun x => by kernel_rfl
theorem l0.owed {R : Type} : owed (mkE (R := R) tab es 22 [] []) (loopAt 0 code) = [] := by kernel_rfl
theorem l0.ok (w0 : World) (M : Own) (h : Pinned M []) {R : Type} : SoundO prog w0 M 22 (.block 0 (.loop (loopAt 0 code))) (loopO (R := R) 0 (cutOf l0.A l0.c) (cutsOf l0.xs l0.y) l0) :=
  loop_ok tabOk uniOk mixed l0.eq (h.sub rfl) (h.sub rfl) fun x hx => by rw [l0.owed] at hx; exact absurd hx List.not_mem_nil

noncomputable def F : (List Int) → Option ((List Int))
  | p0 =>
  let x0 := ((List.length p0) : Int)
  cond (((decide (0 ≤ x0)) && (decide (x0 ≤ x0))) && (decide (x0 ≤ 274877906944))) (
   (l0 (0, p0, (List.replicate (Int.toNat x0) 0))).bind fun yl0 =>
   some yl0) none
theorem F.eq : ∀ x, F x = runF (mkE tab es 22 [(0, some (loopO 0 (cutOf l0.A l0.c) (cutsOf l0.xs l0.y) l0))] []) code [.row 1 0] [.row 1] [.tmp 2] (Coz.dec cr) (cp.enc x) := fun x => by kernel_rfl
theorem F.owed : owed (mkE (R := (List Int)) tab es 22 [(0, some (loopO 0 (cutOf l0.A l0.c) (cutsOf l0.xs l0.y) l0))] []) code = [((.block 0 (.loop (loopAt 0 code))), (loopO (R := _) 0 (cutOf l0.A l0.c) (cutsOf l0.xs l0.y) l0))] := by kernel_rfl
theorem con : ∀ x y, F x = some y → Con prog 44 [.row 1 0] [.row 1] (cp.enc x) (cr.enc y).1 (cr.enc y).2 :=
  func_ok (c := code) (n := 22) (pf := [.row 1 0]) (res := [.tmp 2]) tabOk uniOk mixed get (by kernel_rfl) (by kernel_rfl) (by kernel_rfl) (by decide) F.eq fun w0 M h x hx => by rw [F.owed] at hx; rcases List.mem_cons.1 hx with rfl | hx; exact l0.ok w0 M h; exact absurd hx List.not_mem_nil
noncomputable def ent : Ent prog uni := Ent.of 44 [.row 1 0] [.row 1] cp cr F con fun args w => enters_of get (by kernel_rfl) rfl args w
end Go.Proofs.Ytnaieiillgncjaa.AX.F44

/- The function 16 of the program in the small machine. No conditions. -/
namespace Go.Proofs.Ytnaieiillgncjaa.AX.F16
open Go Go.Proofs.Try
noncomputable def code : Code := bodyOf f16
abbrev Y : Type := (Int × Int × (List Int))
def cp : Cod uni (Int × Int × (List Int)) := (cod1 (iAgg (codC (iInt .i64) (codC (iInt .i64) (cod1 (iRow 1))))))
def cr : Coz uni (Int × Int × (List Int)) := (cozR (cod1 (iAgg (codC (iInt .i64) (codC (iInt .i64) (cod1 (iRow 1)))))) (codD cod0))
noncomputable def es : List (Ent prog uni) := [F44.ent]
theorem get : prog.funcs[16]? = some f16 := by kernel_rfl

noncomputable def F : (Int × Int × (List Int)) → Option ((Int × Int × (List Int)))
  | (p0_0, p0_1, p0_2) =>
  (F44.F p0_2).bind fun y44 =>
  some (p0_0, (p0_1, y44))
theorem F.eq : ∀ x, F x = runF (mkE tab es 15 [] []) code [.agg [.sc, .sc, .row 1 0]] [.agg [.sc, .sc, .row 1]] [.cell 2 25] (Coz.dec cr) (cp.enc x) := fun x => by kernel_rfl
theorem F.owed : owed (mkE (R := (Int × Int × (List Int))) tab es 15 [] []) code = [] := by kernel_rfl
theorem con : ∀ x y, F x = some y → Con prog 16 [.agg [.sc, .sc, .row 1 0]] [.agg [.sc, .sc, .row 1]] (cp.enc x) (cr.enc y).1 (cr.enc y).2 :=
  func_ok (c := code) (n := 15) (pf := [.agg [.sc, .sc, .row 1 0]]) (res := [.cell 2 25]) tabOk uniOk mixed get (by kernel_rfl) (by kernel_rfl) (by kernel_rfl) (by decide) F.eq fun w0 M h x hx => by rw [F.owed] at hx; exact absurd hx List.not_mem_nil
noncomputable def ent : Ent prog uni := Ent.of 16 [.agg [.sc, .sc, .row 1 0]] [.agg [.sc, .sc, .row 1]] cp cr F con fun args w => enters_of get (by kernel_rfl) rfl args w
end Go.Proofs.Ytnaieiillgncjaa.AX.F16

/- The function 45 of the program in the small machine. No conditions. -/
namespace Go.Proofs.Ytnaieiillgncjaa.AX.F45
open Go Go.Proofs.Try
noncomputable def code : Code := bodyOf f45
abbrev Y : Type := (Bool × Int × Int × Int)
def cp : Cod uni (Bool × Int × Int × Int) := (cod1 (iAgg (codC iBool (codC (iInt .i64) (codC (iInt .i64) (cod1 (iInt .i64)))))))
def cr : Coz uni (Bool × Int × Int × Int) := (cozR (cod1 (iAgg (codC iBool (codC (iInt .i64) (codC (iInt .i64) (cod1 (iInt .i64))))))) (codD cod0))
noncomputable def es : List (Ent prog uni) := []
theorem get : prog.funcs[45]? = some f45 := by kernel_rfl

noncomputable def F : (Bool × Int × Int × Int) → Option ((Bool × Int × Int × Int))
  | (p0_0, p0_1, p0_2, p0_3) =>
  some (p0_0, (p0_1, (p0_2, p0_3)))
theorem F.eq : ∀ x, F x = runF (mkE tab es 17 [] []) code [.agg [.sc, .sc, .sc, .sc]] [.agg [.sc, .sc, .sc, .sc]] [.cell 2 59] (Coz.dec cr) (cp.enc x) := fun x => by kernel_rfl
theorem F.owed : owed (mkE (R := (Bool × Int × Int × Int)) tab es 17 [] []) code = [] := by kernel_rfl
theorem con : ∀ x y, F x = some y → Con prog 45 [.agg [.sc, .sc, .sc, .sc]] [.agg [.sc, .sc, .sc, .sc]] (cp.enc x) (cr.enc y).1 (cr.enc y).2 :=
  func_ok (c := code) (n := 17) (pf := [.agg [.sc, .sc, .sc, .sc]]) (res := [.cell 2 59]) tabOk uniOk mixed get (by kernel_rfl) (by kernel_rfl) (by kernel_rfl) (by decide) F.eq fun w0 M h x hx => by rw [F.owed] at hx; exact absurd hx List.not_mem_nil
noncomputable def ent : Ent prog uni := Ent.of 45 [.agg [.sc, .sc, .sc, .sc]] [.agg [.sc, .sc, .sc, .sc]] cp cr F con fun args w => enters_of get (by kernel_rfl) rfl args w
end Go.Proofs.Ytnaieiillgncjaa.AX.F45

/- The function 17 of the program in the small machine. No conditions. -/
namespace Go.Proofs.Ytnaieiillgncjaa.AX.F17
open Go Go.Proofs.Try
noncomputable def code : Code := bodyOf f17
abbrev Y : Type := (List S58)
def cp : Cod uni (List S58) := (cod1 (iRow 3))
def cr : Coz uni (List S58) := (cozR (cod1 (iRow 2)) (codD cod0))
noncomputable def es : List (Ent prog uni) := [F45.ent]
theorem get : prog.funcs[17]? = some f17 := by kernel_rfl

def l0.A : Ann := ⟨[(0, .slc 5000000 []), (3, .slc 5000192 []), (4, .sc)], [], [(5000000, false, 3), (5000192, true, 2)], []⟩
def l0.c : Cod uni (Int × (List S58) × (List S58)) := (codC (iInt .i64) (codC (iRow 3) (cod1 (iRow 2))))
def l0.xs : List (AExit × Ann) := [((.exit 0), ⟨[(3, .slc 5000192 [])], [], [(5000192, true, 2)], []⟩)]
def l0.y : Coy uni ((List S58)) := (coy1 (cod1 (iRow 2)))
noncomputable def l0.b : Int × (List S58) × (List S58) → Option ((Int × (List S58) × (List S58)) ⊕ ((List S58)))
  | (v4, r0, r192) =>
  let x0 := (decide (v4 < ((List.length r0) : Int)))
  cond x0 (
   cond ((decide (0 ≤ v4)) && x0) (
    let x1 := (List.getD r0 (Int.toNat v4) z58)
    (F45.F (x1.f0, (x1.f1, (x1.f2, x1.f3)))).bind fun y45 =>
    cond ((decide (0 ≤ v4)) && (decide (v4 < ((List.length r192) : Int)))) (
     some (.inl ((Go.IntKind.wrap (Go.IntKind.i64 ) (v4 + 1)), r0, (List.set r192 (Int.toNat v4) (⟨y45.1, y45.2.1, y45.2.2.1, y45.2.2.2⟩ : S58))))) none) none) (
   some (.inr r192))
noncomputable def l0 (x : Int × (List S58) × (List S58)) : Option ((List S58)) := lim l0.b x
theorem l0.eq : ∀ x, l0.b x = roundX (mkE tab es 23 [] []) (loopAt 0 code) (cutOf l0.A l0.c) (cutsOf l0.xs l0.y) x := fun x => by kernel_rfl
theorem l0.owed {R : Type} : owed (mkE (R := R) tab es 23 [] []) (loopAt 0 code) = [] := by kernel_rfl
theorem l0.ok (w0 : World) (M : Own) (h : Pinned M []) {R : Type} : SoundO prog w0 M 23 (.block 0 (.loop (loopAt 0 code))) (loopO (R := R) 0 (cutOf l0.A l0.c) (cutsOf l0.xs l0.y) l0) :=
  loop_ok tabOk uniOk mixed l0.eq (h.sub rfl) (h.sub rfl) fun x hx => by rw [l0.owed] at hx; exact absurd hx List.not_mem_nil

noncomputable def F : (List S58) → Option ((List S58))
  | p0 =>
  let x0 := ((List.length p0) : Int)
  cond (((decide (0 ≤ x0)) && (decide (x0 ≤ x0))) && (decide (x0 ≤ 274877906944))) (
   (l0 (0, p0, (List.replicate (Int.toNat x0) z58))).bind fun yl0 =>
   some yl0) none
theorem F.eq : ∀ x, F x = runF (mkE tab es 23 [(0, some (loopO 0 (cutOf l0.A l0.c) (cutsOf l0.xs l0.y) l0))] []) code [.row 3 0] [.row 2] [.tmp 2] (Coz.dec cr) (cp.enc x) := fun x => by kernel_rfl
theorem F.owed : owed (mkE (R := (List S58)) tab es 23 [(0, some (loopO 0 (cutOf l0.A l0.c) (cutsOf l0.xs l0.y) l0))] []) code = [((.block 0 (.loop (loopAt 0 code))), (loopO (R := _) 0 (cutOf l0.A l0.c) (cutsOf l0.xs l0.y) l0))] := by kernel_rfl
theorem con : ∀ x y, F x = some y → Con prog 17 [.row 3 0] [.row 2] (cp.enc x) (cr.enc y).1 (cr.enc y).2 :=
  func_ok (c := code) (n := 23) (pf := [.row 3 0]) (res := [.tmp 2]) tabOk uniOk mixed get (by kernel_rfl) (by kernel_rfl) (by kernel_rfl) (by decide) F.eq fun w0 M h x hx => by rw [F.owed] at hx; rcases List.mem_cons.1 hx with rfl | hx; exact l0.ok w0 M h; exact absurd hx List.not_mem_nil
noncomputable def ent : Ent prog uni := Ent.of 17 [.row 3 0] [.row 2] cp cr F con fun args w => enters_of get (by kernel_rfl) rfl args w
end Go.Proofs.Ytnaieiillgncjaa.AX.F17

/- The function 54 of the program in the small machine. No conditions. -/
namespace Go.Proofs.Ytnaieiillgncjaa.AX.F54
open Go Go.Proofs.Try
noncomputable def code : Code := bodyOf f54
abbrev Y : Type := Bool
def cp : Cod uni (Int × Int × (List Int)) := (cod1 (iAgg (codC (iInt .i64) (codC (iInt .i64) (cod1 (iRow 1))))))
def cr : Coz uni Bool := (cozR (cod1 iBool) (codD cod0))
noncomputable def es : List (Ent prog uni) := []
theorem get : prog.funcs[54]? = some f54 := by kernel_rfl

def l0.A : Ann := ⟨[(1, .box 5000064 0), (3, .sc)], [(5000064, 25, [.sc, .sc, .slc 5000076 []])], [(5000076, false, 1)], []⟩
def l0.c : Cod uni (Int × Int × Int × (List Int)) := (codC (iInt .i64) (codC (iInt .i64) (codC (iInt .i64) (cod1 (iRow 1)))))
def l0.xs : List (AExit × Ann) := [(.ret, ⟨[(2, .sc)], [], [], []⟩), ((.exit 0), ⟨[], [], [], []⟩)]
def l0.y : Coy uni (Bool ⊕ Unit) := (coyS (cod1 iBool) (coy1 cod0))
noncomputable def l0.b : Int × Int × Int × (List Int) → Option ((Int × Int × Int × (List Int)) ⊕ (Bool ⊕ Unit))
  | (v3, b64_0, b64_1, r76) =>
  let x2 := (decide (v3 < ((List.length r76) : Int)))
  cond x2 (
   let x0 := ((decide (0 ≤ v3)) && x2)
   cond x0 (
    let x3 := (List.getD r76 (Int.toNat v3) 0)
    let x1 := (decide (x3 < 0))
    cond ((!(!x1)) || x0) (
     cond (x1 || (decide (x3 > 24))) (
      some (.inr (.inl false))) (
      some (.inl ((Go.IntKind.wrap (Go.IntKind.i64 ) (v3 + 1)), b64_0, b64_1, r76)))) none) none) (
   some (.inr (.inr ())))
noncomputable def l0 (x : Int × Int × Int × (List Int)) : Option (Bool ⊕ Unit) := lim l0.b x
theorem l0.eq : ∀ x, l0.b x = roundX (mkE tab es 54 [] []) (loopAt 0 code) (cutOf l0.A l0.c) (cutsOf l0.xs l0.y) x := fun x => by kernel_rfl
theorem l0.owed {R : Type} : owed (mkE (R := R) tab es 54 [] []) (loopAt 0 code) = [] := by kernel_rfl
theorem l0.ok (w0 : World) (M : Own) (h : Pinned M []) {R : Type} : SoundO prog w0 M 54 (.block 0 (.loop (loopAt 0 code))) (loopO (R := R) 0 (cutOf l0.A l0.c) (cutsOf l0.xs l0.y) l0) :=
  loop_ok tabOk uniOk mixed l0.eq (h.sub rfl) (h.sub rfl) fun x hx => by rw [l0.owed] at hx; exact absurd hx List.not_mem_nil

noncomputable def F : (Int × Int × (List Int)) → Option (Bool)
  | (p0_0, p0_1, p0_2) =>
  cond (((((decide (p0_0 < 1)) || (decide (p0_0 > 24))) || (decide (p0_1 < 1))) || (decide (p0_1 > 24))) || (((List.length p0_2) : Int) != (Go.IntKind.wrap (Go.IntKind.i64 ) (p0_0 * p0_1)))) (
   some false) (
   (l0 (0, p0_0, p0_1, p0_2)).bind fun q => match q with
   | (.inl yl0) =>
    some yl0
   | (.inr yl0) =>
    some true)
theorem F.eq : ∀ x, F x = runF (mkE tab es 54 [(0, some (loopO 0 (cutOf l0.A l0.c) (cutsOf l0.xs l0.y) l0))] []) code [.agg [.sc, .sc, .row 1 0]] [.sc] [.tmp 2] (Coz.dec cr) (cp.enc x) := fun x => by kernel_rfl
theorem F.owed : owed (mkE (R := Bool) tab es 54 [(0, some (loopO 0 (cutOf l0.A l0.c) (cutsOf l0.xs l0.y) l0))] []) code = [((.block 0 (.loop (loopAt 0 code))), (loopO (R := _) 0 (cutOf l0.A l0.c) (cutsOf l0.xs l0.y) l0))] := by kernel_rfl
theorem con : ∀ x y, F x = some y → Con prog 54 [.agg [.sc, .sc, .row 1 0]] [.sc] (cp.enc x) (cr.enc y).1 (cr.enc y).2 :=
  func_ok (c := code) (n := 54) (pf := [.agg [.sc, .sc, .row 1 0]]) (res := [.tmp 2]) tabOk uniOk mixed get (by kernel_rfl) (by kernel_rfl) (by kernel_rfl) (by decide) F.eq fun w0 M h x hx => by rw [F.owed] at hx; rcases List.mem_cons.1 hx with rfl | hx; exact l0.ok w0 M h; exact absurd hx List.not_mem_nil
noncomputable def ent : Ent prog uni := Ent.of 54 [.agg [.sc, .sc, .row 1 0]] [.sc] cp cr F con fun args w => enters_of get (by kernel_rfl) rfl args w
end Go.Proofs.Ytnaieiillgncjaa.AX.F54

/- The function 55 of the program in the small machine. No conditions. -/
namespace Go.Proofs.Ytnaieiillgncjaa.AX.F55
open Go Go.Proofs.Try
noncomputable def code : Code := bodyOf f55
abbrev Y : Type := Bool
def cp : Cod uni Int := (cod1 (iInt .i64))
def cr : Coz uni Bool := (cozR (cod1 iBool) (codD cod0))
noncomputable def es : List (Ent prog uni) := []
theorem get : prog.funcs[55]? = some f55 := by kernel_rfl

noncomputable def F : Int → Option (Bool)
  | p0 =>
  some ((decide (p0 ≥ 0)) && (decide (p0 ≤ 3)))
theorem F.eq : ∀ x, F x = runF (mkE tab es 9 [] []) code [.sc] [.sc] [.tmp 2] (Coz.dec cr) (cp.enc x) := fun x => by kernel_rfl
theorem F.owed : owed (mkE (R := Bool) tab es 9 [] []) code = [] := by kernel_rfl
theorem con : ∀ x y, F x = some y → Con prog 55 [.sc] [.sc] (cp.enc x) (cr.enc y).1 (cr.enc y).2 :=
  func_ok (c := code) (n := 9) (pf := [.sc]) (res := [.tmp 2]) tabOk uniOk mixed get (by kernel_rfl) (by kernel_rfl) (by kernel_rfl) (by decide) F.eq fun w0 M h x hx => by rw [F.owed] at hx; exact absurd hx List.not_mem_nil
noncomputable def ent : Ent prog uni := Ent.of 55 [.sc] [.sc] cp cr F con fun args w => enters_of get (by kernel_rfl) rfl args w
end Go.Proofs.Ytnaieiillgncjaa.AX.F55

/- The function 27 of the program in the small machine. No conditions. -/
namespace Go.Proofs.Ytnaieiillgncjaa.AX.F27
open Go Go.Proofs.Try
noncomputable def code : Code := bodyOf f27
abbrev Y : Type := Bool
def cp : Cod uni ((Int × Int × (List Int)) × (Int × Int × (List Int)) × Int) := (codC (iAgg (codC (iInt .i64) (codC (iInt .i64) (cod1 (iRow 1))))) (codC (iAgg (codC (iInt .i64) (codC (iInt .i64) (cod1 (iRow 1))))) (cod1 (iInt .i64))))
def cr : Coz uni Bool := (cozR (cod1 iBool) (codD (codD (codD cod0))))
noncomputable def es : List (Ent prog uni) := [F54.ent, F55.ent]
theorem get : prog.funcs[27]? = some f27 := by kernel_rfl

def l0.A : Ann := ⟨[(3, .box 5000192 0), (4, .box 5000256 0), (7, .sc)], [(5000192, 25, [.sc, .sc, .slc 5000204 []]), (5000256, 25, [.sc, .sc, .slc 5000268 []])], [(5000204, false, 1), (5000268, false, 1)], []⟩
def l0.c : Cod uni (Int × Int × Int × Int × Int × (List Int) × (List Int)) := (codC (iInt .i64) (codC (iInt .i64) (codC (iInt .i64) (codC (iInt .i64) (codC (iInt .i64) (codC (iRow 1) (cod1 (iRow 1))))))))
def l0.xs : List (AExit × Ann) := [(.ret, ⟨[(6, .sc)], [], [], []⟩), ((.exit 0), ⟨[], [], [], []⟩)]
def l0.y : Coy uni (Bool ⊕ Unit) := (coyS (cod1 iBool) (coy1 cod0))
noncomputable def l0.b : Int × Int × Int × Int × Int × (List Int) × (List Int) → Option ((Int × Int × Int × Int × Int × (List Int) × (List Int)) ⊕ (Bool ⊕ Unit))
  | (v7, b192_0, b192_1, b256_0, b256_1, r204, r268) =>
  let x0 := (decide (v7 < ((List.length r268) : Int)))
  cond x0 (
   cond ((decide (0 ≤ v7)) && x0) (
    cond ((decide (0 ≤ v7)) && (decide (v7 < ((List.length r204) : Int)))) (
     cond (decide ((List.getD r268 (Int.toNat v7) 0) > (List.getD r204 (Int.toNat v7) 0))) (
      some (.inr (.inl false))) (
      some (.inl ((Go.IntKind.wrap (Go.IntKind.i64 ) (v7 + 1)), b192_0, b192_1, b256_0, b256_1, r204, r268)))) none) none) (
   some (.inr (.inr ())))
noncomputable def l0 (x : Int × Int × Int × Int × Int × (List Int) × (List Int)) : Option (Bool ⊕ Unit) := lim l0.b x
theorem l0.eq : ∀ x, l0.b x = roundX (mkE tab es 53 [] []) (loopAt 0 code) (cutOf l0.A l0.c) (cutsOf l0.xs l0.y) x := fun x => by kernel_rfl
theorem l0.owed {R : Type} : owed (mkE (R := R) tab es 53 [] []) (loopAt 0 code) = [] := by kernel_rfl
theorem l0.ok (w0 : World) (M : Own) (h : Pinned M []) {R : Type} : SoundO prog w0 M 53 (.block 0 (.loop (loopAt 0 code))) (loopO (R := R) 0 (cutOf l0.A l0.c) (cutsOf l0.xs l0.y) l0) :=
  loop_ok tabOk uniOk mixed l0.eq (h.sub rfl) (h.sub rfl) fun x hx => by rw [l0.owed] at hx; exact absurd hx List.not_mem_nil

noncomputable def F : ((Int × Int × (List Int)) × (Int × Int × (List Int)) × Int) → Option (Bool)
  | ((p0_0, p0_1, p0_2), (p1_0, p1_1, p1_2), p2) =>
  (F54.F (p0_0, (p0_1, p0_2))).bind fun y54 =>
  let x2 := (l0 (0, p0_0, p0_1, p1_0, p1_1, p0_2, p1_2))
  cond (!(!y54)) (
   (F54.F (p1_0, (p1_1, p1_2))).bind fun y54x2 =>
   let x0 := ((((!y54) || (!y54x2)) || (p0_0 != p1_0)) || (p0_1 != p1_1))
   cond (!x0) (
    (F55.F p2).bind fun y55 =>
    cond (x0 || (!y55)) (
     some false) (
     x2.bind fun q => match q with
     | (.inl yl0) =>
      some yl0
     | (.inr yl0) =>
      some true)) (
    cond (x0 || true) (
     some false) (
     x2.bind fun q => match q with
     | (.inl yl0) =>
      some yl0
     | (.inr yl0) =>
      some true))) (
   let x1 := ((((!y54) || true) || (p0_0 != p1_0)) || (p0_1 != p1_1))
   cond (!x1) (
    (F55.F p2).bind fun y55 =>
    cond (x1 || (!y55)) (
     some false) (
     x2.bind fun q => match q with
     | (.inl yl0) =>
      some yl0
     | (.inr yl0) =>
      some true)) (
    cond (x1 || true) (
     some false) (
     x2.bind fun q => match q with
     | (.inl yl0) =>
      some yl0
     | (.inr yl0) =>
      some true)))
theorem F.eq : ∀ x, F x = runF (mkE tab es 53 [(0, some (loopO 0 (cutOf l0.A l0.c) (cutsOf l0.xs l0.y) l0))] []) code [.agg [.sc, .sc, .row 1 0], .agg [.sc, .sc, .row 1 0], .sc] [.sc] [.tmp 6] (Coz.dec cr) (cp.enc x) := fun x => by kernel_rfl
theorem F.owed : owed (mkE (R := Bool) tab es 53 [(0, some (loopO 0 (cutOf l0.A l0.c) (cutsOf l0.xs l0.y) l0))] []) code = [((.block 0 (.loop (loopAt 0 code))), (loopO (R := _) 0 (cutOf l0.A l0.c) (cutsOf l0.xs l0.y) l0))] := by kernel_rfl
theorem con : ∀ x y, F x = some y → Con prog 27 [.agg [.sc, .sc, .row 1 0], .agg [.sc, .sc, .row 1 0], .sc] [.sc] (cp.enc x) (cr.enc y).1 (cr.enc y).2 :=
  func_ok (c := code) (n := 53) (pf := [.agg [.sc, .sc, .row 1 0], .agg [.sc, .sc, .row 1 0], .sc]) (res := [.tmp 6]) tabOk uniOk mixed get (by kernel_rfl) (by kernel_rfl) (by kernel_rfl) (by decide) F.eq fun w0 M h x hx => by rw [F.owed] at hx; rcases List.mem_cons.1 hx with rfl | hx; exact l0.ok w0 M h; exact absurd hx List.not_mem_nil
noncomputable def ent : Ent prog uni := Ent.of 27 [.agg [.sc, .sc, .row 1 0], .agg [.sc, .sc, .row 1 0], .sc] [.sc] cp cr F con fun args w => enters_of get (by kernel_rfl) rfl args w
end Go.Proofs.Ytnaieiillgncjaa.AX.F27

/- The function 42 of the program in the small machine. No conditions. -/
namespace Go.Proofs.Ytnaieiillgncjaa.AX.F42
open Go Go.Proofs.Try
noncomputable def code : Code := bodyOf f42
abbrev Y : Type := (Int × Int × (List Int))
def cp : Cod uni (Int × Int × (List Int)) := (cod1 (iAgg (codC (iInt .i64) (codC (iInt .i64) (cod1 (iRow 1))))))
def cr : Coz uni (Int × Int × (List Int)) := (cozR (cod1 (iAgg (codC (iInt .i64) (codC (iInt .i64) (cod1 (iRow 1)))))) (codD cod0))
noncomputable def es : List (Ent prog uni) := []
theorem get : prog.funcs[42]? = some f42 := by kernel_rfl

noncomputable def F : (Int × Int × (List Int)) → Option ((Int × Int × (List Int)))
  | (p0_0, p0_1, p0_2) =>
  cond (decide (((List.length ([] : List Int)) + (List.length p0_2)) ≤ 274877906944)) (
   some (p0_0, (p0_1, (([] : List Int) ++ p0_2)))) none
theorem F.eq : ∀ x, F x = runF (mkE tab es 12 [] []) code [.agg [.sc, .sc, .row 1 0]] [.agg [.sc, .sc, .row 1]] [.cell 2 25] (Coz.dec cr) (cp.enc x) := fun x => by kernel_rfl
theorem F.owed : owed (mkE (R := (Int × Int × (List Int))) tab es 12 [] []) code = [] := by kernel_rfl
theorem con : ∀ x y, F x = some y → Con prog 42 [.agg [.sc, .sc, .row 1 0]] [.agg [.sc, .sc, .row 1]] (cp.enc x) (cr.enc y).1 (cr.enc y).2 :=
  func_ok (c := code) (n := 12) (pf := [.agg [.sc, .sc, .row 1 0]]) (res := [.cell 2 25]) tabOk uniOk mixed get (by kernel_rfl) (by kernel_rfl) (by kernel_rfl) (by decide) F.eq fun w0 M h x hx => by rw [F.owed] at hx; exact absurd hx List.not_mem_nil
noncomputable def ent : Ent prog uni := Ent.of 42 [.agg [.sc, .sc, .row 1 0]] [.agg [.sc, .sc, .row 1]] cp cr F con fun args w => enters_of get (by kernel_rfl) rfl args w
end Go.Proofs.Ytnaieiillgncjaa.AX.F42

/- The function 57 of the program in the small machine. No conditions. -/
namespace Go.Proofs.Ytnaieiillgncjaa.AX.F57
open Go Go.Proofs.Try
noncomputable def code : Code := bodyOf f57
abbrev Y : Type := Int
def cp : Cod uni ((Bool × Int × Int × Int) × (Bool × Int × Int × Int)) := (codC (iAgg (codC iBool (codC (iInt .i64) (codC (iInt .i64) (cod1 (iInt .i64)))))) (cod1 (iAgg (codC iBool (codC (iInt .i64) (codC (iInt .i64) (cod1 (iInt .i64))))))))
def cr : Coz uni Int := (cozR (cod1 (iInt .i64)) (codD (codD cod0)))
noncomputable def es : List (Ent prog uni) := []
theorem get : prog.funcs[57]? = some f57 := by kernel_rfl

def t6.A : Ann := ⟨[(2, .box 5000128 0), (3, .box 5000192 0), (5, .sc)], [(5000128, 59, [.sc, .sc, .sc, .sc]), (5000192, 59, [.sc, .sc, .sc, .sc])], [], []⟩
def t6.c : Cod uni (Int × Bool × Int × Int × Int × Bool × Int × Int × Int) := (codC (iInt .i64) (codC iBool (codC (iInt .i64) (codC (iInt .i64) (codC (iInt .i64) (codC iBool (codC (iInt .i64) (codC (iInt .i64) (cod1 (iInt .i64))))))))))
def t6.xs : List (AExit × Ann) := [(.ret, ⟨[(4, .sc)], [], [], []⟩)]
def t6.y : Coy uni (Int) := (coy1 (cod1 (iInt .i64)))
noncomputable def t6 : Int × Bool × Int × Int × Int × Bool × Int × Int × Int → Option (Int)
  | (v5, b128_0, b128_1, b128_2, b128_3, b192_0, b192_1, b192_2, b192_3) =>
  cond (b128_3 != b192_3) (
   some (Go.IntKind.wrap (Go.IntKind.i64 ) (v5 + 1))) (
   some v5)
theorem t6.eq : ∀ x, t6 x = tailX (mkE tab es 28 [] []) (tailAt 6 code) (cutOf t6.A t6.c) (cutsOf t6.xs t6.y) x := fun x => by kernel_rfl
theorem t6.owed {R : Type} : owed (mkE (R := R) tab es 28 [] []) (tailAt 6 code) = [] := by kernel_rfl
theorem t6.ok (w0 : World) (M : Own) (h : Pinned M []) {R : Type} : SoundO prog w0 M 28 (tailAt 6 code) (tailO (R := R) (cutOf t6.A t6.c) (cutsOf t6.xs t6.y) t6) :=
  tail_ok tabOk uniOk mixed t6.eq (h.sub rfl) (h.sub rfl) fun x hx => by rw [t6.owed] at hx; exact absurd hx List.not_mem_nil

def t4.A : Ann := ⟨[(2, .box 5000128 0), (3, .box 5000192 0), (5, .sc)], [(5000128, 59, [.sc, .sc, .sc, .sc]), (5000192, 59, [.sc, .sc, .sc, .sc])], [], []⟩
def t4.c : Cod uni (Int × Bool × Int × Int × Int × Bool × Int × Int × Int) := (codC (iInt .i64) (codC iBool (codC (iInt .i64) (codC (iInt .i64) (codC (iInt .i64) (codC iBool (codC (iInt .i64) (codC (iInt .i64) (cod1 (iInt .i64))))))))))
def t4.xs : List (AExit × Ann) := [(.ret, ⟨[(4, .sc)], [], [], []⟩)]
def t4.y : Coy uni (Int) := (coy1 (cod1 (iInt .i64)))
noncomputable def t4 : Int × Bool × Int × Int × Int × Bool × Int × Int × Int → Option (Int)
  | (v5, b128_0, b128_1, b128_2, b128_3, b192_0, b192_1, b192_2, b192_3) =>
  cond (b128_2 != b192_2) (
   (t6 ((Go.IntKind.wrap (Go.IntKind.i64 ) (v5 + 1)), b128_0, b128_1, b128_2, b128_3, b192_0, b192_1, b192_2, b192_3)).bind fun yt6 =>
   some yt6) (
   (t6 (v5, b128_0, b128_1, b128_2, b128_3, b192_0, b192_1, b192_2, b192_3)).bind fun yt6 =>
   some yt6)
theorem t4.eq : ∀ x, t4 x = tailX (mkE tab es 28 [] [(6, some (tailO (cutOf t6.A t6.c) (cutsOf t6.xs t6.y) t6))]) (tailAt 4 code) (cutOf t4.A t4.c) (cutsOf t4.xs t4.y) x := fun x => by kernel_rfl
theorem t4.owed {R : Type} : owed (mkE (R := R) tab es 28 [] [(6, some (tailO (cutOf t6.A t6.c) (cutsOf t6.xs t6.y) t6))]) (tailAt 4 code) = [((tailAt 6 code), (tailO (R := _) (cutOf t6.A t6.c) (cutsOf t6.xs t6.y) t6))] := by kernel_rfl
theorem t4.ok (w0 : World) (M : Own) (h : Pinned M []) {R : Type} : SoundO prog w0 M 28 (tailAt 4 code) (tailO (R := R) (cutOf t4.A t4.c) (cutsOf t4.xs t4.y) t4) :=
  tail_ok tabOk uniOk mixed t4.eq (h.sub rfl) (h.sub rfl) fun x hx => by rw [t4.owed] at hx; rcases List.mem_cons.1 hx with rfl | hx; exact t6.ok w0 M h; exact absurd hx List.not_mem_nil

noncomputable def F : ((Bool × Int × Int × Int) × (Bool × Int × Int × Int)) → Option (Int)
  | ((p0_0, p0_1, p0_2, p0_3), (p1_0, p1_1, p1_2, p1_3)) =>
  cond (p0_1 != p1_1) (
   (t4 ((Go.IntKind.wrap (Go.IntKind.i64 ) (0 + 1)), p0_0, p0_1, p0_2, p0_3, p1_0, p1_1, p1_2, p1_3)).bind fun yt4 =>
   some yt4) (
   (t4 (0, p0_0, p0_1, p0_2, p0_3, p1_0, p1_1, p1_2, p1_3)).bind fun yt4 =>
   some yt4)
theorem F.eq : ∀ x, F x = runF (mkE tab es 28 [] [(4, some (tailO (cutOf t4.A t4.c) (cutsOf t4.xs t4.y) t4))]) code [.agg [.sc, .sc, .sc, .sc], .agg [.sc, .sc, .sc, .sc]] [.sc] [.tmp 4] (Coz.dec cr) (cp.enc x) := fun x => by kernel_rfl
theorem F.owed : owed (mkE (R := Int) tab es 28 [] [(4, some (tailO (cutOf t4.A t4.c) (cutsOf t4.xs t4.y) t4))]) code = [((tailAt 4 code), (tailO (R := _) (cutOf t4.A t4.c) (cutsOf t4.xs t4.y) t4))] := by kernel_rfl
theorem con : ∀ x y, F x = some y → Con prog 57 [.agg [.sc, .sc, .sc, .sc], .agg [.sc, .sc, .sc, .sc]] [.sc] (cp.enc x) (cr.enc y).1 (cr.enc y).2 :=
  func_ok (c := code) (n := 28) (pf := [.agg [.sc, .sc, .sc, .sc], .agg [.sc, .sc, .sc, .sc]]) (res := [.tmp 4]) tabOk uniOk mixed get (by kernel_rfl) (by kernel_rfl) (by kernel_rfl) (by decide) F.eq fun w0 M h x hx => by rw [F.owed] at hx; rcases List.mem_cons.1 hx with rfl | hx; exact t4.ok w0 M h; exact absurd hx List.not_mem_nil
noncomputable def ent : Ent prog uni := Ent.of 57 [.agg [.sc, .sc, .sc, .sc], .agg [.sc, .sc, .sc, .sc]] [.sc] cp cr F con fun args w => enters_of get (by kernel_rfl) rfl args w
end Go.Proofs.Ytnaieiillgncjaa.AX.F57

/- The function 58 of the program in the small machine. No conditions. -/
namespace Go.Proofs.Ytnaieiillgncjaa.AX.F58
open Go Go.Proofs.Try
noncomputable def code : Code := bodyOf f58
abbrev Y : Type := Int
def cp : Cod uni Int := (cod1 (iInt .i64))
def cr : Coz uni Int := (cozR (cod1 (iInt .i64)) (codD cod0))
noncomputable def es : List (Ent prog uni) := []
theorem get : prog.funcs[58]? = some f58 := by kernel_rfl

noncomputable def F : Int → Option (Int)
  | p0 =>
  cond (decide (p0 < 0)) (
   some (Go.IntKind.wrap (Go.IntKind.i64 ) (0 - p0))) (
   some p0)
theorem F.eq : ∀ x, F x = runF (mkE tab es 8 [] []) code [.sc] [.sc] [.tmp 2] (Coz.dec cr) (cp.enc x) := fun x => by kernel_rfl
theorem F.owed : owed (mkE (R := Int) tab es 8 [] []) code = [] := by kernel_rfl
theorem con : ∀ x y, F x = some y → Con prog 58 [.sc] [.sc] (cp.enc x) (cr.enc y).1 (cr.enc y).2 :=
  func_ok (c := code) (n := 8) (pf := [.sc]) (res := [.tmp 2]) tabOk uniOk mixed get (by kernel_rfl) (by kernel_rfl) (by kernel_rfl) (by decide) F.eq fun w0 M h x hx => by rw [F.owed] at hx; exact absurd hx List.not_mem_nil
noncomputable def ent : Ent prog uni := Ent.of 58 [.sc] [.sc] cp cr F con fun args w => enters_of get (by kernel_rfl) rfl args w
end Go.Proofs.Ytnaieiillgncjaa.AX.F58

/- The function 59 of the program in the small machine. No conditions. -/
namespace Go.Proofs.Ytnaieiillgncjaa.AX.F59
open Go Go.Proofs.Try
noncomputable def code : Code := bodyOf f59
abbrev Y : Type := Int
def cp : Cod uni Int := (cod1 (iInt .i64))
def cr : Coz uni Int := (cozR (cod1 (iInt .i64)) (codD cod0))
noncomputable def es : List (Ent prog uni) := []
theorem get : prog.funcs[59]? = some f59 := by kernel_rfl

noncomputable def F : Int → Option (Int)
  | p0 =>
  cond (decide (p0 > 0)) (
   some 1) (
   cond (decide (p0 < 0)) (
    some (-1)) (
    some 0))
theorem F.eq : ∀ x, F x = runF (mkE tab es 9 [] []) code [.sc] [.sc] [.tmp 2] (Coz.dec cr) (cp.enc x) := fun x => by kernel_rfl
theorem F.owed : owed (mkE (R := Int) tab es 9 [] []) code = [] := by kernel_rfl
theorem con : ∀ x y, F x = some y → Con prog 59 [.sc] [.sc] (cp.enc x) (cr.enc y).1 (cr.enc y).2 :=
  func_ok (c := code) (n := 9) (pf := [.sc]) (res := [.tmp 2]) tabOk uniOk mixed get (by kernel_rfl) (by kernel_rfl) (by kernel_rfl) (by decide) F.eq fun w0 M h x hx => by rw [F.owed] at hx; exact absurd hx List.not_mem_nil
noncomputable def ent : Ent prog uni := Ent.of 59 [.sc] [.sc] cp cr F con fun args w => enters_of get (by kernel_rfl) rfl args w
end Go.Proofs.Ytnaieiillgncjaa.AX.F59

/- The function 56 of the program in the small machine. No conditions. -/
namespace Go.Proofs.Ytnaieiillgncjaa.AX.F56
open Go Go.Proofs.Try
noncomputable def code : Code := bodyOf f56
abbrev Y : Type := (List Int)
def cp : Cod uni ((Int × Int × (List Int)) × Int × Int × Int) := (codC (iAgg (codC (iInt .i64) (codC (iInt .i64) (cod1 (iRow 1))))) (codC (iInt .i64) (codC (iInt .i64) (cod1 (iInt .i64)))))
def cr : Coz uni (List Int) := (cozR (cod1 (iRow 1)) (codD (codD (codD (codD cod0)))))
noncomputable def es : List (Ent prog uni) := []
theorem get : prog.funcs[56]? = some f56 := by kernel_rfl

def l2.A : Ann := ⟨[(1, .sc), (2, .sc), (3, .sc), (4, .box 5000256 0), (9, .slc 5000576 []), (10, .sc), (11, .sc)], [(5000256, 25, [.sc, .sc, .slc 5000268 []])], [(5000576, true, 1), (5000268, false, 1)], []⟩
def l2.c : Cod uni (Int × Int × Int × Int × Int × Int × Int × (List Int) × (List Int)) := (codC (iInt .i64) (codC (iInt .i64) (codC (iInt .i64) (codC (iInt .i64) (codC (iInt .i64) (codC (iInt .i64) (codC (iInt .i64) (codC (iRow 1) (cod1 (iRow 1))))))))))
def l2.xs : List (AExit × Ann) := [((.exit 2), ⟨[(1, .sc), (2, .sc), (3, .sc), (4, .box 5000256 0), (9, .slc 5000576 []), (10, .sc)], [(5000256, 25, [.sc, .sc, .slc 5000268 []])], [(5000576, true, 1), (5000268, false, 1)], []⟩)]
def l2.y : Coy uni ((Int × Int × Int × Int × Int × Int × (List Int) × (List Int))) := (coy1 (codC (iInt .i64) (codC (iInt .i64) (codC (iInt .i64) (codC (iInt .i64) (codC (iInt .i64) (codC (iInt .i64) (codC (iRow 1) (cod1 (iRow 1))))))))))
noncomputable def l2.b : Int × Int × Int × Int × Int × Int × Int × (List Int) × (List Int) → Option ((Int × Int × Int × Int × Int × Int × Int × (List Int) × (List Int)) ⊕ ((Int × Int × Int × Int × Int × Int × (List Int) × (List Int))))
  | (v1, v2, v3, v10, v11, b256_0, b256_1, r576, r268) =>
  let x1 := (Go.IntKind.wrap (Go.IntKind.i64 ) (b256_0 - 1))
  let x4 := (Go.IntKind.wrap (Go.IntKind.i64 ) (v2 + v1))
  cond (decide (v11 ≤ (if (x1 < x4) then x1 else x4))) (
   let x2 := (Go.IntKind.wrap (Go.IntKind.i64 ) (v11 - v2))
   let x3 := (Go.IntKind.wrap (Go.IntKind.i64 ) (v10 - v3))
   let x5 := (Go.IntKind.wrap (Go.IntKind.i64 ) (v11 + 1))
   cond (decide ((Go.IntKind.wrap (Go.IntKind.i64 ) ((Go.IntKind.wrap (Go.IntKind.i64 ) (x2 * x2)) + (Go.IntKind.wrap (Go.IntKind.i64 ) (x3 * x3)))) ≤ (Go.IntKind.wrap (Go.IntKind.i64 ) (v1 * v1)))) (
    let x0 := ((Go.IntKind.wrap (Go.IntKind.i64 ) ((Go.IntKind.wrap (Go.IntKind.i64 ) (v10 * b256_0)) + v11)) :: [])
    cond (decide (((List.length r576) + (List.length x0)) ≤ 274877906944)) (
     some (.inl (v1, v2, v3, v10, x5, b256_0, b256_1, (r576 ++ x0), r268))) none) (
    some (.inl (v1, v2, v3, v10, x5, b256_0, b256_1, r576, r268)))) (
   some (.inr (v1, v2, v3, v10, b256_0, b256_1, r576, r268)))
noncomputable def l2 (x : Int × Int × Int × Int × Int × Int × Int × (List Int) × (List Int)) : Option ((Int × Int × Int × Int × Int × Int × (List Int) × (List Int))) := lim l2.b x
theorem l2.eq : ∀ x, l2.b x = roundX (mkE tab es 72 [] []) (loopAt 2 code) (cutOf l2.A l2.c) (cutsOf l2.xs l2.y) x := fun x => by kernel_rfl
theorem l2.owed {R : Type} : owed (mkE (R := R) tab es 72 [] []) (loopAt 2 code) = [] := by kernel_rfl
theorem l2.ok (w0 : World) (M : Own) (h : Pinned M []) {R : Type} : SoundO prog w0 M 72 (.block 2 (.loop (loopAt 2 code))) (loopO (R := R) 2 (cutOf l2.A l2.c) (cutsOf l2.xs l2.y) l2) :=
  loop_ok tabOk uniOk mixed l2.eq (h.sub rfl) (h.sub rfl) fun x hx => by rw [l2.owed] at hx; exact absurd hx List.not_mem_nil

def l0.A : Ann := ⟨[(1, .sc), (2, .sc), (3, .sc), (4, .box 5000256 0), (9, .slc 5000576 []), (10, .sc)], [(5000256, 25, [.sc, .sc, .slc 5000268 []])], [(5000576, true, 1), (5000268, false, 1)], []⟩
def l0.c : Cod uni (Int × Int × Int × Int × Int × Int × (List Int) × (List Int)) := (codC (iInt .i64) (codC (iInt .i64) (codC (iInt .i64) (codC (iInt .i64) (codC (iInt .i64) (codC (iInt .i64) (codC (iRow 1) (cod1 (iRow 1)))))))))
def l0.xs : List (AExit × Ann) := [((.exit 0), ⟨[(9, .slc 5000576 [])], [], [(5000576, true, 1)], []⟩)]
def l0.y : Coy uni ((List Int)) := (coy1 (cod1 (iRow 1)))
noncomputable def l0.b : Int × Int × Int × Int × Int × Int × (List Int) × (List Int) → Option ((Int × Int × Int × Int × Int × Int × (List Int) × (List Int)) ⊕ ((List Int)))
  | (v1, v2, v3, v10, b256_0, b256_1, r576, r268) =>
  let x0 := (Go.IntKind.wrap (Go.IntKind.i64 ) (b256_1 - 1))
  let x1 := (Go.IntKind.wrap (Go.IntKind.i64 ) (v3 + v1))
  cond (decide (v10 ≤ (if (x0 < x1) then x0 else x1))) (
   let x2 := (Go.IntKind.wrap (Go.IntKind.i64 ) (v2 - v1))
   (l2 (v1, v2, v3, v10, (if (0 > x2) then 0 else x2), b256_0, b256_1, r576, r268)).bind fun yl2 =>
   some (.inl (yl2.1, yl2.2.1, yl2.2.2.1, (Go.IntKind.wrap (Go.IntKind.i64 ) (yl2.2.2.2.1 + 1)), yl2.2.2.2.2.1, yl2.2.2.2.2.2.1, yl2.2.2.2.2.2.2.1, yl2.2.2.2.2.2.2.2))) (
   some (.inr r576))
noncomputable def l0 (x : Int × Int × Int × Int × Int × Int × (List Int) × (List Int)) : Option ((List Int)) := lim l0.b x
theorem l0.eq : ∀ x, l0.b x = roundX (mkE tab es 72 [(2, some (loopO 2 (cutOf l2.A l2.c) (cutsOf l2.xs l2.y) l2))] []) (loopAt 0 code) (cutOf l0.A l0.c) (cutsOf l0.xs l0.y) x := fun x => by kernel_rfl
theorem l0.owed {R : Type} : owed (mkE (R := R) tab es 72 [(2, some (loopO 2 (cutOf l2.A l2.c) (cutsOf l2.xs l2.y) l2))] []) (loopAt 0 code) = [((.block 2 (.loop (loopAt 2 code))), (loopO (R := _) 2 (cutOf l2.A l2.c) (cutsOf l2.xs l2.y) l2))] := by kernel_rfl
theorem l0.ok (w0 : World) (M : Own) (h : Pinned M []) {R : Type} : SoundO prog w0 M 72 (.block 0 (.loop (loopAt 0 code))) (loopO (R := R) 0 (cutOf l0.A l0.c) (cutsOf l0.xs l0.y) l0) :=
  loop_ok tabOk uniOk mixed l0.eq (h.sub rfl) (h.sub rfl) fun x hx => by rw [l0.owed] at hx; rcases List.mem_cons.1 hx with rfl | hx; exact l2.ok w0 M h; exact absurd hx List.not_mem_nil

noncomputable def F : ((Int × Int × (List Int)) × Int × Int × Int) → Option ((List Int))
  | ((p0_0, p0_1, p0_2), p1, p2, p3) =>
  let x0 := (Go.IntKind.wrap (Go.IntKind.i64 ) (p3 - p1))
  (l0 (p1, p2, p3, (if (0 > x0) then 0 else x0), p0_0, p0_1, ([] : List Int), p0_2)).bind fun yl0 =>
  some yl0
theorem F.eq : ∀ x, F x = runF (mkE tab es 72 [(0, some (loopO 0 (cutOf l0.A l0.c) (cutsOf l0.xs l0.y) l0))] []) code [.agg [.sc, .sc, .row 1 0], .sc, .sc, .sc] [.row 1] [.tmp 8] (Coz.dec cr) (cp.enc x) := fun x => by kernel_rfl
theorem F.owed : owed (mkE (R := (List Int)) tab es 72 [(0, some (loopO 0 (cutOf l0.A l0.c) (cutsOf l0.xs l0.y) l0))] []) code = [((.block 0 (.loop (loopAt 0 code))), (loopO (R := _) 0 (cutOf l0.A l0.c) (cutsOf l0.xs l0.y) l0))] := by kernel_rfl
theorem con : ∀ x y, F x = some y → Con prog 56 [.agg [.sc, .sc, .row 1 0], .sc, .sc, .sc] [.row 1] (cp.enc x) (cr.enc y).1 (cr.enc y).2 :=
  func_ok (c := code) (n := 72) (pf := [.agg [.sc, .sc, .row 1 0], .sc, .sc, .sc]) (res := [.tmp 8]) tabOk uniOk mixed get (by kernel_rfl) (by kernel_rfl) (by kernel_rfl) (by decide) F.eq fun w0 M h x hx => by rw [F.owed] at hx; rcases List.mem_cons.1 hx with rfl | hx; exact l0.ok w0 M h; exact absurd hx List.not_mem_nil
noncomputable def ent : Ent prog uni := Ent.of 56 [.agg [.sc, .sc, .row 1 0], .sc, .sc, .sc] [.row 1] cp cr F con fun args w => enters_of get (by kernel_rfl) rfl args w
end Go.Proofs.Ytnaieiillgncjaa.AX.F56

/- The function 60 of the program in the small machine. No conditions. -/
namespace Go.Proofs.Ytnaieiillgncjaa.AX.F60
open Go Go.Proofs.Try
noncomputable def code : Code := bodyOf f60
abbrev Y : Type := (Int × ((Int × Int × Int × Bool × Int × Int × Int × Int × Int × (List Int) × Int × Int × Int) × Unit))
def cp : Cod uni ((Int × Int × (List Int) × Int × Bool × Int × Int × Int × Int × Int × (List Int) × Int × Int × Int) × Int × Int × Int × Bool) := (codC (iAgg (codC (iInt .i64) (codC (iInt .i64) (codC (iRow 1) (codC (iInt .i64) (codC iBool (codC (iInt .i64) (codC (iInt .i64) (codC (iInt .i64) (codC (iInt .i64) (codC (iInt .i64) (codC (iRow 1) (codC (iInt .i64) (codC (iInt .i64) (cod1 (iInt .i64)))))))))))))))) (codC (iInt .i64) (codC (iInt .i64) (codC (iInt .i64) (cod1 iBool)))))
def cr : Coz uni (Int × ((Int × Int × Int × Bool × Int × Int × Int × Int × Int × (List Int) × Int × Int × Int) × Unit)) := (cozRM (cod1 (iInt .i64)) (codC (iAgg (codC (iInt .i64) (codC (iInt .i64) (codD (codC (iInt .i64) (codC iBool (codC (iInt .i64) (codC (iInt .i64) (codC (iInt .i64) (codC (iInt .i64) (codC (iInt .i64) (codC (iRow 1) (codC (iInt .i64) (codC (iInt .i64) (cod1 (iInt .i64)))))))))))))))) (codD (codD (codD (codD cod0))))))
noncomputable def es : List (Ent prog uni) := [F56.ent]
theorem get : prog.funcs[60]? = some f60 := by kernel_rfl

def l0.A : Ann := ⟨[(0, .box 4194304 0), (3, .sc), (4, .sc), (11, .slc 5000704 []), (12, .sc), (13, .sc)], [(4194304, 74, [.sc, .sc, .slc 4194305 [], .sc, .sc, .sc, .sc, .sc, .sc, .sc, .slc 8840010 [], .sc, .sc, .sc])], [(5000704, true, 1), (4194305, false, 1), (8840010, true, 1)], [4194304, 4194305]⟩
def l0.c : Cod uni (Int × Bool × Bool × Int × Int × Int × Int × Bool × Int × Int × Int × Int × Int × Int × Int × Int × (List Int) × (List Int) × (List Int)) := (codC (iInt .i64) (codC iBool (codC iBool (codC (iInt .i64) (codC (iInt .i64) (codC (iInt .i64) (codC (iInt .i64) (codC iBool (codC (iInt .i64) (codC (iInt .i64) (codC (iInt .i64) (codC (iInt .i64) (codC (iInt .i64) (codC (iInt .i64) (codC (iInt .i64) (codC (iInt .i64) (codC (iRow 1) (codC (iRow 1) (cod1 (iRow 1))))))))))))))))))))
def l0.xs : List (AExit × Ann) := [(.ret, ⟨[(0, .box 4194304 0), (10, .sc)], [(4194304, 74, [.sc, .sc, .slc 4194305 [], .sc, .sc, .sc, .sc, .sc, .sc, .sc, .slc 8840010 [], .sc, .sc, .sc])], [(4194305, false, 1), (8840010, true, 1)], [4194304, 4194305]⟩), ((.exit 0), ⟨[(0, .box 4194304 0), (3, .sc), (4, .sc), (11, .slc 5000704 []), (12, .sc)], [(4194304, 74, [.sc, .sc, .slc 4194305 [], .sc, .sc, .sc, .sc, .sc, .sc, .sc, .slc 8840010 [], .sc, .sc, .sc])], [(5000704, true, 1), (4194305, false, 1), (8840010, true, 1)], [4194304, 4194305]⟩)]
def l0.y : Coy uni ((Int × Int × Int × Int × Bool × Int × Int × Int × Int × Int × Int × Int × Int × (List Int) × (List Int)) ⊕ (Int × Bool × Bool × Int × Int × Int × Bool × Int × Int × Int × Int × Int × Int × Int × Int × (List Int) × (List Int) × (List Int))) := (coyS (codC (iInt .i64) (codC (iInt .i64) (codC (iInt .i64) (codC (iInt .i64) (codC iBool (codC (iInt .i64) (codC (iInt .i64) (codC (iInt .i64) (codC (iInt .i64) (codC (iInt .i64) (codC (iInt .i64) (codC (iInt .i64) (codC (iInt .i64) (codC (iRow 1) (cod1 (iRow 1)))))))))))))))) (coy1 (codC (iInt .i64) (codC iBool (codC iBool (codC (iInt .i64) (codC (iInt .i64) (codC (iInt .i64) (codC iBool (codC (iInt .i64) (codC (iInt .i64) (codC (iInt .i64) (codC (iInt .i64) (codC (iInt .i64) (codC (iInt .i64) (codC (iInt .i64) (codC (iInt .i64) (codC (iRow 1) (codC (iRow 1) (cod1 (iRow 1)))))))))))))))))))))
noncomputable def l0.b : Int × Bool × Bool × Int × Int × Int × Int × Bool × Int × Int × Int × Int × Int × Int × Int × Int × (List Int) × (List Int) × (List Int) → Option ((Int × Bool × Bool × Int × Int × Int × Int × Bool × Int × Int × Int × Int × Int × Int × Int × Int × (List Int) × (List Int) × (List Int)) ⊕ ((Int × Int × Int × Int × Bool × Int × Int × Int × Int × Int × Int × Int × Int × (List Int) × (List Int)) ⊕ (Int × Bool × Bool × Int × Int × Int × Bool × Int × Int × Int × Int × Int × Int × Int × Int × (List Int) × (List Int) × (List Int))))
  | (v3, v4, v12, v13, b94304_0, b94304_1, b94304_3, b94304_4, b94304_5, b94304_6, b94304_7, b94304_8, b94304_9, b94304_11, b94304_12, b94304_13, r704, r94305, r40010) =>
  let x3 := (decide (v13 < ((List.length r704) : Int)))
  cond x3 (
   let x0 := ((decide (0 ≤ v13)) && x3)
   cond x0 (
    let x4 := (List.getD r704 (Int.toNat v13) 0)
    let x1 := (decide (0 ≤ x4))
    cond (x1 && (decide (x4 < ((List.length r94305) : Int)))) (
     let x2 := (Int.toNat x4)
     cond (decide ((List.getD r94305 x2 0) > v3)) (
      some (.inr (.inl (16, b94304_0, b94304_1, b94304_3, b94304_4, b94304_5, b94304_6, b94304_7, b94304_8, b94304_9, b94304_11, b94304_12, b94304_13, r94305, r40010)))) (
      cond ((!(!v12)) || x0) (
       cond ((!(!v12)) || (x1 && (decide (x4 < ((List.length r40010) : Int))))) (
        some (.inl (v3, v4, (v12 || (decide ((List.getD r40010 x2 0) > v3))), (Go.IntKind.wrap (Go.IntKind.i64 ) (v13 + 1)), b94304_0, b94304_1, b94304_3, b94304_4, b94304_5, b94304_6, b94304_7, b94304_8, b94304_9, b94304_11, b94304_12, b94304_13, r704, r94305, r40010))) none) none)) none) none) (
   some (.inr (.inr (v3, v4, v12, b94304_0, b94304_1, b94304_3, b94304_4, b94304_5, b94304_6, b94304_7, b94304_8, b94304_9, b94304_11, b94304_12, b94304_13, r704, r94305, r40010))))
noncomputable def l0 (x : Int × Bool × Bool × Int × Int × Int × Int × Bool × Int × Int × Int × Int × Int × Int × Int × Int × (List Int) × (List Int) × (List Int)) : Option ((Int × Int × Int × Int × Bool × Int × Int × Int × Int × Int × Int × Int × Int × (List Int) × (List Int)) ⊕ (Int × Bool × Bool × Int × Int × Int × Bool × Int × Int × Int × Int × Int × Int × Int × Int × (List Int) × (List Int) × (List Int))) := lim l0.b x
theorem l0.eq : ∀ x, l0.b x = roundX (mkE tab es 128 [] []) (loopAt 0 code) (cutOf l0.A l0.c) (cutsOf l0.xs l0.y) x := fun x => by kernel_rfl
theorem l0.owed {R : Type} : owed (mkE (R := R) tab es 128 [] []) (loopAt 0 code) = [] := by kernel_rfl
theorem l0.ok (w0 : World) (M : Own) (h : Pinned M [4194304, 4194305]) {R : Type} : SoundO prog w0 M 128 (.block 0 (.loop (loopAt 0 code))) (loopO (R := R) 0 (cutOf l0.A l0.c) (cutsOf l0.xs l0.y) l0) :=
  loop_ok tabOk uniOk mixed l0.eq (h.sub rfl) (h.sub rfl) fun x hx => by rw [l0.owed] at hx; exact absurd hx List.not_mem_nil

def l2.A : Ann := ⟨[(0, .box 4194304 0), (3, .sc), (4, .sc), (11, .slc 5000704 []), (12, .sc), (14, .sc)], [(4194304, 74, [.sc, .sc, .slc 4194305 [], .sc, .sc, .sc, .sc, .sc, .sc, .sc, .slc 8840010 [], .sc, .sc, .sc])], [(5000704, true, 1), (4194305, false, 1), (8840010, true, 1)], [4194304, 4194305]⟩
def l2.c : Cod uni (Int × Bool × Bool × Int × Int × Int × Int × Bool × Int × Int × Int × Int × Int × Int × Int × Int × (List Int) × (List Int) × (List Int)) := (codC (iInt .i64) (codC iBool (codC iBool (codC (iInt .i64) (codC (iInt .i64) (codC (iInt .i64) (codC (iInt .i64) (codC iBool (codC (iInt .i64) (codC (iInt .i64) (codC (iInt .i64) (codC (iInt .i64) (codC (iInt .i64) (codC (iInt .i64) (codC (iInt .i64) (codC (iInt .i64) (codC (iRow 1) (codC (iRow 1) (cod1 (iRow 1))))))))))))))))))))
def l2.xs : List (AExit × Ann) := [((.exit 2), ⟨[(0, .box 4194304 0), (4, .sc), (12, .sc)], [(4194304, 74, [.sc, .sc, .slc 4194305 [], .sc, .sc, .sc, .sc, .sc, .sc, .sc, .slc 8840010 [], .sc, .sc, .sc])], [(4194305, false, 1), (8840010, true, 1)], [4194304, 4194305]⟩)]
def l2.y : Coy uni ((Bool × Bool × Int × Int × Int × Bool × Int × Int × Int × Int × Int × Int × Int × Int × (List Int) × (List Int))) := (coy1 (codC iBool (codC iBool (codC (iInt .i64) (codC (iInt .i64) (codC (iInt .i64) (codC iBool (codC (iInt .i64) (codC (iInt .i64) (codC (iInt .i64) (codC (iInt .i64) (codC (iInt .i64) (codC (iInt .i64) (codC (iInt .i64) (codC (iInt .i64) (codC (iRow 1) (cod1 (iRow 1))))))))))))))))))
noncomputable def l2.b : Int × Bool × Bool × Int × Int × Int × Int × Bool × Int × Int × Int × Int × Int × Int × Int × Int × (List Int) × (List Int) × (List Int) → Option ((Int × Bool × Bool × Int × Int × Int × Int × Bool × Int × Int × Int × Int × Int × Int × Int × Int × (List Int) × (List Int) × (List Int)) ⊕ ((Bool × Bool × Int × Int × Int × Bool × Int × Int × Int × Int × Int × Int × Int × Int × (List Int) × (List Int))))
  | (v3, v4, v12, v14, b94304_0, b94304_1, b94304_3, b94304_4, b94304_5, b94304_6, b94304_7, b94304_8, b94304_9, b94304_11, b94304_12, b94304_13, r704, r94305, r40010) =>
  let x5 := (decide (v14 < ((List.length r704) : Int)))
  cond x5 (
   let x2 := ((decide (0 ≤ v14)) && x5)
   cond x2 (
    let x6 := (List.getD r704 (Int.toNat v14) 0)
    let x0 := ((decide (0 ≤ x6)) && (decide (x6 < ((List.length r40010) : Int))))
    cond x0 (
     let x3 := (Int.toNat x6)
     let x1 := (Go.IntKind.wrap (Go.IntKind.i64 ) ((List.getD r40010 x3 0) - v3))
     let x4 := (Go.IntKind.wrap (Go.IntKind.i64 ) (v14 + 1))
     cond (decide (x1 > 0)) (
      cond x2 (
       cond x0 (
        some (.inl (v3, v4, v12, x4, b94304_0, b94304_1, b94304_3, b94304_4, b94304_5, b94304_6, b94304_7, b94304_8, b94304_9, (Go.IntKind.wrap (Go.IntKind.i64 ) (b94304_11 + x1)), b94304_12, (if (x1 > b94304_13) then x1 else b94304_13), r704, r94305, (List.set r40010 x3 v3)))) none) none) (
      some (.inl (v3, v4, v12, x4, b94304_0, b94304_1, b94304_3, b94304_4, b94304_5, b94304_6, b94304_7, b94304_8, b94304_9, b94304_11, b94304_12, b94304_13, r704, r94305, r40010)))) none) none) (
   some (.inr (v4, v12, b94304_0, b94304_1, b94304_3, b94304_4, b94304_5, b94304_6, b94304_7, b94304_8, b94304_9, b94304_11, b94304_12, b94304_13, r94305, r40010)))
noncomputable def l2 (x : Int × Bool × Bool × Int × Int × Int × Int × Bool × Int × Int × Int × Int × Int × Int × Int × Int × (List Int) × (List Int) × (List Int)) : Option ((Bool × Bool × Int × Int × Int × Bool × Int × Int × Int × Int × Int × Int × Int × Int × (List Int) × (List Int))) := lim l2.b x
theorem l2.eq : ∀ x, l2.b x = roundX (mkE tab es 128 [] []) (loopAt 2 code) (cutOf l2.A l2.c) (cutsOf l2.xs l2.y) x := fun x => by kernel_rfl
theorem l2.owed {R : Type} : owed (mkE (R := R) tab es 128 [] []) (loopAt 2 code) = [] := by kernel_rfl
theorem l2.ok (w0 : World) (M : Own) (h : Pinned M [4194304, 4194305]) {R : Type} : SoundO prog w0 M 128 (.block 2 (.loop (loopAt 2 code))) (loopO (R := R) 2 (cutOf l2.A l2.c) (cutsOf l2.xs l2.y) l2) :=
  loop_ok tabOk uniOk mixed l2.eq (h.sub rfl) (h.sub rfl) fun x hx => by rw [l2.owed] at hx; exact absurd hx List.not_mem_nil

noncomputable def F : ((Int × Int × (List Int) × Int × Bool × Int × Int × Int × Int × Int × (List Int) × Int × Int × Int) × Int × Int × Int × Bool) → Option ((Int × ((Int × Int × Int × Bool × Int × Int × Int × Int × Int × (List Int) × Int × Int × Int) × Unit)))
  | ((p0_0, p0_1, p0_2, p0_3, p0_4, p0_5, p0_6, p0_7, p0_8, p0_9, p0_10, p0_11, p0_12, p0_13), p1, p2, p3, p4) =>
  (F56.F ((p0_8, (p0_9, p0_10)), (p0_3, (p1, p2)))).bind fun y56 =>
  (l0 (p3, p4, false, 0, p0_0, p0_1, p0_3, p0_4, p0_5, p0_6, p0_7, p0_8, p0_9, p0_11, p0_12, p0_13, y56, p0_2, p0_10)).bind fun q => match q with
  | (.inl yl0) =>
   some (yl0.1, ((yl0.2.1, (yl0.2.2.1, (yl0.2.2.2.1, (yl0.2.2.2.2.1, (yl0.2.2.2.2.2.1, (yl0.2.2.2.2.2.2.1, (yl0.2.2.2.2.2.2.2.1, (yl0.2.2.2.2.2.2.2.2.1, (yl0.2.2.2.2.2.2.2.2.2.1, (yl0.2.2.2.2.2.2.2.2.2.2.2.2.2.2, (yl0.2.2.2.2.2.2.2.2.2.2.1, (yl0.2.2.2.2.2.2.2.2.2.2.2.1, yl0.2.2.2.2.2.2.2.2.2.2.2.2.1)))))))))))), ()))
  | (.inr yl0) =>
   cond (yl0.2.1 && yl0.2.2.1) (
    some (17, ((yl0.2.2.2.1, (yl0.2.2.2.2.1, (yl0.2.2.2.2.2.1, (yl0.2.2.2.2.2.2.1, (yl0.2.2.2.2.2.2.2.1, (yl0.2.2.2.2.2.2.2.2.1, (yl0.2.2.2.2.2.2.2.2.2.1, (yl0.2.2.2.2.2.2.2.2.2.2.1, (yl0.2.2.2.2.2.2.2.2.2.2.2.1, (yl0.2.2.2.2.2.2.2.2.2.2.2.2.2.2.2.2.2, (yl0.2.2.2.2.2.2.2.2.2.2.2.2.1, (yl0.2.2.2.2.2.2.2.2.2.2.2.2.2.1, yl0.2.2.2.2.2.2.2.2.2.2.2.2.2.2.1)))))))))))), ()))) (
    (l2 (yl0.1, yl0.2.1, yl0.2.2.1, 0, yl0.2.2.2.1, yl0.2.2.2.2.1, yl0.2.2.2.2.2.1, yl0.2.2.2.2.2.2.1, yl0.2.2.2.2.2.2.2.1, yl0.2.2.2.2.2.2.2.2.1, yl0.2.2.2.2.2.2.2.2.2.1, yl0.2.2.2.2.2.2.2.2.2.2.1, yl0.2.2.2.2.2.2.2.2.2.2.2.1, yl0.2.2.2.2.2.2.2.2.2.2.2.2.1, yl0.2.2.2.2.2.2.2.2.2.2.2.2.2.1, yl0.2.2.2.2.2.2.2.2.2.2.2.2.2.2.1, yl0.2.2.2.2.2.2.2.2.2.2.2.2.2.2.2.1, yl0.2.2.2.2.2.2.2.2.2.2.2.2.2.2.2.2.1, yl0.2.2.2.2.2.2.2.2.2.2.2.2.2.2.2.2.2)).bind fun yl2 =>
    cond ((!yl2.1) && (!yl2.2.1)) (
     some (0, ((yl2.2.2.1, (yl2.2.2.2.1, (yl2.2.2.2.2.1, (yl2.2.2.2.2.2.1, (yl2.2.2.2.2.2.2.1, (yl2.2.2.2.2.2.2.2.1, (yl2.2.2.2.2.2.2.2.2.1, (yl2.2.2.2.2.2.2.2.2.2.1, (yl2.2.2.2.2.2.2.2.2.2.2.1, (yl2.2.2.2.2.2.2.2.2.2.2.2.2.2.2.2, (yl2.2.2.2.2.2.2.2.2.2.2.2.1, ((Go.IntKind.wrap (Go.IntKind.i64 ) (yl2.2.2.2.2.2.2.2.2.2.2.2.2.1 + 1)), yl2.2.2.2.2.2.2.2.2.2.2.2.2.2.1)))))))))))), ()))) (
     some (0, ((yl2.2.2.1, (yl2.2.2.2.1, (yl2.2.2.2.2.1, (yl2.2.2.2.2.2.1, (yl2.2.2.2.2.2.2.1, (yl2.2.2.2.2.2.2.2.1, (yl2.2.2.2.2.2.2.2.2.1, (yl2.2.2.2.2.2.2.2.2.2.1, (yl2.2.2.2.2.2.2.2.2.2.2.1, (yl2.2.2.2.2.2.2.2.2.2.2.2.2.2.2.2, (yl2.2.2.2.2.2.2.2.2.2.2.2.1, (yl2.2.2.2.2.2.2.2.2.2.2.2.2.1, yl2.2.2.2.2.2.2.2.2.2.2.2.2.2.1)))))))))))), ()))))
theorem F.eq : ∀ x, F x = runF (mkE tab es 128 [(0, some (loopO 0 (cutOf l0.A l0.c) (cutsOf l0.xs l0.y) l0)), (2, some (loopO 2 (cutOf l2.A l2.c) (cutsOf l2.xs l2.y) l2))] []) code [.box 74 [.sc, .sc, .ro 1, .sc, .sc, .sc, .sc, .sc, .sc, .sc, .row 1 1, .sc, .sc, .sc], .sc, .sc, .sc, .sc] [.sc] [.tmp 10] (Coz.dec cr) (cp.enc x) := fun x => by kernel_rfl
theorem F.owed : owed (mkE (R := (Int × ((Int × Int × Int × Bool × Int × Int × Int × Int × Int × (List Int) × Int × Int × Int) × Unit))) tab es 128 [(0, some (loopO 0 (cutOf l0.A l0.c) (cutsOf l0.xs l0.y) l0)), (2, some (loopO 2 (cutOf l2.A l2.c) (cutsOf l2.xs l2.y) l2))] []) code = [((.block 0 (.loop (loopAt 0 code))), (loopO (R := _) 0 (cutOf l0.A l0.c) (cutsOf l0.xs l0.y) l0)), ((.block 2 (.loop (loopAt 2 code))), (loopO (R := _) 2 (cutOf l2.A l2.c) (cutsOf l2.xs l2.y) l2))] := by kernel_rfl
theorem con : ∀ x y, F x = some y → Con prog 60 [.box 74 [.sc, .sc, .ro 1, .sc, .sc, .sc, .sc, .sc, .sc, .sc, .row 1 1, .sc, .sc, .sc], .sc, .sc, .sc, .sc] [.sc] (cp.enc x) (cr.enc y).1 (cr.enc y).2 :=
  func_ok (c := code) (n := 128) (pf := [.box 74 [.sc, .sc, .ro 1, .sc, .sc, .sc, .sc, .sc, .sc, .sc, .row 1 1, .sc, .sc, .sc], .sc, .sc, .sc, .sc]) (res := [.tmp 10]) tabOk uniOk mixed get (by kernel_rfl) (by kernel_rfl) (by kernel_rfl) (by decide) F.eq fun w0 M h x hx => by rw [F.owed] at hx; rcases List.mem_cons.1 hx with rfl | hx; exact l0.ok w0 M h; rcases List.mem_cons.1 hx with rfl | hx; exact l2.ok w0 M h; exact absurd hx List.not_mem_nil
noncomputable def ent : Ent prog uni := Ent.of 60 [.box 74 [.sc, .sc, .ro 1, .sc, .sc, .sc, .sc, .sc, .sc, .sc, .row 1 1, .sc, .sc, .sc], .sc, .sc, .sc, .sc] [.sc] cp cr F con fun args w => enters_of get (by kernel_rfl) rfl args w
end Go.Proofs.Ytnaieiillgncjaa.AX.F60

/- The function 43 of the program in the small machine. No conditions. -/
namespace Go.Proofs.Ytnaieiillgncjaa.AX.F43
open Go Go.Proofs.Try
noncomputable def code : Code := bodyOf f43
abbrev Y : Type := (Int × ((Int × Int × Int × Bool × Int × Int × Int × Int × Int × (List Int) × Int × Int × Int) × Unit))
def cp : Cod uni ((Int × Int × (List Int) × Int × Bool × Int × Int × Int × Int × Int × (List Int) × Int × Int × Int) × (Bool × Int × Int × Int)) := (codC (iAgg (codC (iInt .i64) (codC (iInt .i64) (codC (iRow 1) (codC (iInt .i64) (codC iBool (codC (iInt .i64) (codC (iInt .i64) (codC (iInt .i64) (codC (iInt .i64) (codC (iInt .i64) (codC (iRow 1) (codC (iInt .i64) (codC (iInt .i64) (cod1 (iInt .i64)))))))))))))))) (cod1 (iAgg (codC iBool (codC (iInt .i64) (codC (iInt .i64) (cod1 (iInt .i64))))))))
def cr : Coz uni (Int × ((Int × Int × Int × Bool × Int × Int × Int × Int × Int × (List Int) × Int × Int × Int) × Unit)) := (cozRM (cod1 (iInt .i64)) (codC (iAgg (codC (iInt .i64) (codC (iInt .i64) (codD (codC (iInt .i64) (codC iBool (codC (iInt .i64) (codC (iInt .i64) (codC (iInt .i64) (codC (iInt .i64) (codC (iInt .i64) (codC (iRow 1) (codC (iInt .i64) (codC (iInt .i64) (cod1 (iInt .i64)))))))))))))))) (codD cod0)))
noncomputable def es : List (Ent prog uni) := [F57.ent, F58.ent, F59.ent, F60.ent]
theorem get : prog.funcs[43]? = some f43 := by kernel_rfl

def l0.A : Ann := ⟨[(0, .box 4194304 0), (3, .box 5000192 0), (5, .sc), (6, .box 5000384 0), (7, .sc)], [(4194304, 74, [.sc, .sc, .slc 4194305 [], .sc, .sc, .sc, .sc, .sc, .sc, .sc, .slc 8840010 [], .sc, .sc, .sc]), (5000192, 59, [.sc, .sc, .sc, .sc]), (5000384, 59, [.sc, .sc, .sc, .sc])], [(4194305, false, 1), (8840010, true, 1)], [4194304, 4194305]⟩
def l0.c : Cod uni (Int × Int × Int × Int × Int × Bool × Int × Int × Int × Int × Int × Int × Int × Int × Bool × Int × Int × Int × Bool × Int × Int × Int × (List Int) × (List Int)) := (codC (iInt .i64) (codC (iInt .i64) (codC (iInt .i64) (codC (iInt .i64) (codC (iInt .i64) (codC iBool (codC (iInt .i64) (codC (iInt .i64) (codC (iInt .i64) (codC (iInt .i64) (codC (iInt .i64) (codC (iInt .i64) (codC (iInt .i64) (codC (iInt .i64) (codC iBool (codC (iInt .i64) (codC (iInt .i64) (codC (iInt .i64) (codC iBool (codC (iInt .i64) (codC (iInt .i64) (codC (iInt .i64) (codC (iRow 1) (cod1 (iRow 1)))))))))))))))))))))))))
def l0.xs : List (AExit × Ann) := [(.ret, ⟨[(0, .box 4194304 0), (4, .sc)], [(4194304, 74, [.sc, .sc, .slc 4194305 [], .sc, .sc, .sc, .sc, .sc, .sc, .sc, .slc 8840010 [], .sc, .sc, .sc])], [(4194305, false, 1), (8840010, true, 1)], [4194304, 4194305]⟩), ((.exit 0), ⟨[(0, .box 4194304 0), (3, .box 5000192 0)], [(4194304, 74, [.sc, .sc, .slc 4194305 [], .sc, .sc, .sc, .sc, .sc, .sc, .sc, .slc 8840010 [], .sc, .sc, .sc]), (5000192, 59, [.sc, .sc, .sc, .sc])], [(4194305, false, 1), (8840010, true, 1)], [4194304, 4194305]⟩)]
def l0.y : Coy uni ((Int × Int × Int × Int × Bool × Int × Int × Int × Int × Int × Int × Int × Int × (List Int) × (List Int)) ⊕ (Int × Int × Int × Bool × Int × Int × Int × Int × Int × Int × Int × Int × Bool × Int × Int × Int × (List Int) × (List Int))) := (coyS (codC (iInt .i64) (codC (iInt .i64) (codC (iInt .i64) (codC (iInt .i64) (codC iBool (codC (iInt .i64) (codC (iInt .i64) (codC (iInt .i64) (codC (iInt .i64) (codC (iInt .i64) (codC (iInt .i64) (codC (iInt .i64) (codC (iInt .i64) (codC (iRow 1) (cod1 (iRow 1)))))))))))))))) (coy1 (codC (iInt .i64) (codC (iInt .i64) (codC (iInt .i64) (codC iBool (codC (iInt .i64) (codC (iInt .i64) (codC (iInt .i64) (codC (iInt .i64) (codC (iInt .i64) (codC (iInt .i64) (codC (iInt .i64) (codC (iInt .i64) (codC iBool (codC (iInt .i64) (codC (iInt .i64) (codC (iInt .i64) (codC (iRow 1) (cod1 (iRow 1)))))))))))))))))))))
noncomputable def l0.b : Int × Int × Int × Int × Int × Bool × Int × Int × Int × Int × Int × Int × Int × Int × Bool × Int × Int × Int × Bool × Int × Int × Int × (List Int) × (List Int) → Option ((Int × Int × Int × Int × Int × Bool × Int × Int × Int × Int × Int × Int × Int × Int × Bool × Int × Int × Int × Bool × Int × Int × Int × (List Int) × (List Int)) ⊕ ((Int × Int × Int × Int × Bool × Int × Int × Int × Int × Int × Int × Int × Int × (List Int) × (List Int)) ⊕ (Int × Int × Int × Bool × Int × Int × Int × Int × Int × Int × Int × Int × Bool × Int × Int × Int × (List Int) × (List Int))))
  | (v5, v7, b94304_0, b94304_1, b94304_3, b94304_4, b94304_5, b94304_6, b94304_7, b94304_8, b94304_9, b94304_11, b94304_12, b94304_13, b192_0, b192_1, b192_2, b192_3, b384_0, b384_1, b384_2, b384_3, r94305, r40010) =>
  cond (decide (v7 ≤ v5)) (
   (F59.F (Go.IntKind.wrap (Go.IntKind.i64 ) (b192_1 - b384_1))).bind fun y59 =>
   (F59.F (Go.IntKind.wrap (Go.IntKind.i64 ) (b192_2 - b384_2))).bind fun y59x2 =>
   (F59.F (Go.IntKind.wrap (Go.IntKind.i64 ) (b192_3 - b384_3))).bind fun y59x3 =>
   (F60.F ((b94304_0, (b94304_1, (r94305, (b94304_3, (b94304_4, (b94304_5, (b94304_6, (b94304_7, (b94304_8, (b94304_9, (r40010, (b94304_11, (b94304_12, b94304_13))))))))))))), ((Go.IntKind.wrap (Go.IntKind.i64 ) (b384_1 + (Go.IntKind.wrap (Go.IntKind.i64 ) (y59 * v7)))), ((Go.IntKind.wrap (Go.IntKind.i64 ) (b384_2 + (Go.IntKind.wrap (Go.IntKind.i64 ) (y59x2 * v7)))), ((Go.IntKind.wrap (Go.IntKind.i64 ) (b384_3 + (Go.IntKind.wrap (Go.IntKind.i64 ) (y59x3 * v7)))), b192_0))))).bind fun y60 =>
   cond (y60.1 != 0) (
    some (.inr (.inl (y60.1, y60.2.1.1, y60.2.1.2.1, y60.2.1.2.2.1, y60.2.1.2.2.2.1, y60.2.1.2.2.2.2.1, y60.2.1.2.2.2.2.2.1, y60.2.1.2.2.2.2.2.2.1, y60.2.1.2.2.2.2.2.2.2.1, y60.2.1.2.2.2.2.2.2.2.2.1, y60.2.1.2.2.2.2.2.2.2.2.2.2.1, y60.2.1.2.2.2.2.2.2.2.2.2.2.2.1, y60.2.1.2.2.2.2.2.2.2.2.2.2.2.2, r94305, y60.2.1.2.2.2.2.2.2.2.2.2.1)))) (
    some (.inl (v5, (Go.IntKind.wrap (Go.IntKind.i64 ) (v7 + 1)), y60.2.1.1, y60.2.1.2.1, y60.2.1.2.2.1, y60.2.1.2.2.2.1, y60.2.1.2.2.2.2.1, y60.2.1.2.2.2.2.2.1, y60.2.1.2.2.2.2.2.2.1, y60.2.1.2.2.2.2.2.2.2.1, y60.2.1.2.2.2.2.2.2.2.2.1, y60.2.1.2.2.2.2.2.2.2.2.2.2.1, y60.2.1.2.2.2.2.2.2.2.2.2.2.2.1, y60.2.1.2.2.2.2.2.2.2.2.2.2.2.2, b192_0, b192_1, b192_2, b192_3, b384_0, b384_1, b384_2, b384_3, r94305, y60.2.1.2.2.2.2.2.2.2.2.2.1)))) (
   some (.inr (.inr (b94304_0, b94304_1, b94304_3, b94304_4, b94304_5, b94304_6, b94304_7, b94304_8, b94304_9, b94304_11, b94304_12, b94304_13, b192_0, b192_1, b192_2, b192_3, r94305, r40010))))
noncomputable def l0 (x : Int × Int × Int × Int × Int × Bool × Int × Int × Int × Int × Int × Int × Int × Int × Bool × Int × Int × Int × Bool × Int × Int × Int × (List Int) × (List Int)) : Option ((Int × Int × Int × Int × Bool × Int × Int × Int × Int × Int × Int × Int × Int × (List Int) × (List Int)) ⊕ (Int × Int × Int × Bool × Int × Int × Int × Int × Int × Int × Int × Int × Bool × Int × Int × Int × (List Int) × (List Int))) := lim l0.b x
theorem l0.eq : ∀ x, l0.b x = roundX (mkE tab es 143 [] []) (loopAt 0 code) (cutOf l0.A l0.c) (cutsOf l0.xs l0.y) x := fun x => by kernel_rfl
theorem l0.owed {R : Type} : owed (mkE (R := R) tab es 143 [] []) (loopAt 0 code) = [] := by kernel_rfl
theorem l0.ok (w0 : World) (M : Own) (h : Pinned M [4194304, 4194305]) {R : Type} : SoundO prog w0 M 143 (.block 0 (.loop (loopAt 0 code))) (loopO (R := R) 0 (cutOf l0.A l0.c) (cutsOf l0.xs l0.y) l0) :=
  loop_ok tabOk uniOk mixed l0.eq (h.sub rfl) (h.sub rfl) fun x hx => by rw [l0.owed] at hx; exact absurd hx List.not_mem_nil

noncomputable def F : ((Int × Int × (List Int) × Int × Bool × Int × Int × Int × Int × Int × (List Int) × Int × Int × Int) × (Bool × Int × Int × Int)) → Option ((Int × ((Int × Int × Int × Bool × Int × Int × Int × Int × Int × (List Int) × Int × Int × Int) × Unit)))
  | ((p0_0, p0_1, p0_2, p0_3, p0_4, p0_5, p0_6, p0_7, p0_8, p0_9, p0_10, p0_11, p0_12, p0_13), (p1_0, p1_1, p1_2, p1_3)) =>
  cond ((((((decide (p1_1 < 0)) || (decide (p1_1 ≥ p0_8))) || (decide (p1_2 < 0))) || (decide (p1_2 ≥ p0_9))) || (decide (p1_3 < 0))) || (decide (p1_3 > 24))) (
   some (5, ((p0_0, (p0_1, (p0_3, (p0_4, (p0_5, (p0_6, (p0_7, (p0_8, (p0_9, (p0_10, (p0_11, (p0_12, p0_13)))))))))))), ()))) (
   (F57.F ((p0_4, (p0_5, (p0_6, p0_7))), (p1_0, (p1_1, (p1_2, p1_3))))).bind fun y57 =>
   cond (decide (y57 > 1)) (
    some (13, ((p0_0, (p0_1, (p0_3, (p0_4, (p0_5, (p0_6, (p0_7, (p0_8, (p0_9, (p0_10, (p0_11, (p0_12, p0_13)))))))))))), ()))) (
    (F58.F (Go.IntKind.wrap (Go.IntKind.i64 ) (p1_1 - p0_5))).bind fun y58 =>
    (F58.F (Go.IntKind.wrap (Go.IntKind.i64 ) (p1_2 - p0_6))).bind fun y58x2 =>
    (F58.F (Go.IntKind.wrap (Go.IntKind.i64 ) (p1_3 - p0_7))).bind fun y58x3 =>
    let x0 := (Go.IntKind.wrap (Go.IntKind.i64 ) ((Go.IntKind.wrap (Go.IntKind.i64 ) (y58 + y58x2)) + y58x3))
    (l0 ((if (1 > x0) then 1 else x0), 1, p0_0, p0_1, p0_3, p0_4, p0_5, p0_6, p0_7, p0_8, p0_9, p0_11, p0_12, p0_13, p1_0, p1_1, p1_2, p1_3, p0_4, p0_5, p0_6, p0_7, p0_2, p0_10)).bind fun q => match q with
    | (.inl yl0) =>
     some (yl0.1, ((yl0.2.1, (yl0.2.2.1, (yl0.2.2.2.1, (yl0.2.2.2.2.1, (yl0.2.2.2.2.2.1, (yl0.2.2.2.2.2.2.1, (yl0.2.2.2.2.2.2.2.1, (yl0.2.2.2.2.2.2.2.2.1, (yl0.2.2.2.2.2.2.2.2.2.1, (yl0.2.2.2.2.2.2.2.2.2.2.2.2.2.2, (yl0.2.2.2.2.2.2.2.2.2.2.1, (yl0.2.2.2.2.2.2.2.2.2.2.2.1, yl0.2.2.2.2.2.2.2.2.2.2.2.2.1)))))))))))), ()))
    | (.inr yl0) =>
     some (0, ((yl0.1, (yl0.2.1, (yl0.2.2.1, (yl0.2.2.2.2.2.2.2.2.2.2.2.2.1, (yl0.2.2.2.2.2.2.2.2.2.2.2.2.2.1, (yl0.2.2.2.2.2.2.2.2.2.2.2.2.2.2.1, (yl0.2.2.2.2.2.2.2.2.2.2.2.2.2.2.2.1, (yl0.2.2.2.2.2.2.2.1, (yl0.2.2.2.2.2.2.2.2.1, (yl0.2.2.2.2.2.2.2.2.2.2.2.2.2.2.2.2.2, (yl0.2.2.2.2.2.2.2.2.2.1, (yl0.2.2.2.2.2.2.2.2.2.2.1, yl0.2.2.2.2.2.2.2.2.2.2.2.1)))))))))))), ()))))
theorem F.eq : ∀ x, F x = runF (mkE tab es 143 [(0, some (loopO 0 (cutOf l0.A l0.c) (cutsOf l0.xs l0.y) l0))] []) code [.box 74 [.sc, .sc, .ro 1, .sc, .sc, .sc, .sc, .sc, .sc, .sc, .row 1 1, .sc, .sc, .sc], .agg [.sc, .sc, .sc, .sc]] [.sc] [.tmp 4] (Coz.dec cr) (cp.enc x) := fun x => by kernel_rfl
theorem F.owed : owed (mkE (R := (Int × ((Int × Int × Int × Bool × Int × Int × Int × Int × Int × (List Int) × Int × Int × Int) × Unit))) tab es 143 [(0, some (loopO 0 (cutOf l0.A l0.c) (cutsOf l0.xs l0.y) l0))] []) code = [((.block 0 (.loop (loopAt 0 code))), (loopO (R := _) 0 (cutOf l0.A l0.c) (cutsOf l0.xs l0.y) l0))] := by kernel_rfl
theorem con : ∀ x y, F x = some y → Con prog 43 [.box 74 [.sc, .sc, .ro 1, .sc, .sc, .sc, .sc, .sc, .sc, .sc, .row 1 1, .sc, .sc, .sc], .agg [.sc, .sc, .sc, .sc]] [.sc] (cp.enc x) (cr.enc y).1 (cr.enc y).2 :=
  func_ok (c := code) (n := 143) (pf := [.box 74 [.sc, .sc, .ro 1, .sc, .sc, .sc, .sc, .sc, .sc, .sc, .row 1 1, .sc, .sc, .sc], .agg [.sc, .sc, .sc, .sc]]) (res := [.tmp 4]) tabOk uniOk mixed get (by kernel_rfl) (by kernel_rfl) (by kernel_rfl) (by decide) F.eq fun w0 M h x hx => by rw [F.owed] at hx; rcases List.mem_cons.1 hx with rfl | hx; exact l0.ok w0 M h; exact absurd hx List.not_mem_nil
noncomputable def ent : Ent prog uni := Ent.of 43 [.box 74 [.sc, .sc, .ro 1, .sc, .sc, .sc, .sc, .sc, .sc, .sc, .row 1 1, .sc, .sc, .sc], .agg [.sc, .sc, .sc, .sc]] [.sc] cp cr F con fun args w => enters_of get (by kernel_rfl) rfl args w
end Go.Proofs.Ytnaieiillgncjaa.AX.F43

/- The function 15 of the program in the small machine. No conditions. -/
namespace Go.Proofs.Ytnaieiillgncjaa.AX.F15
open Go Go.Proofs.Try
noncomputable def code : Code := bodyOf f15
abbrev Y : Type := (Int × Int × Int × Int × (List Int) × Int × Int × Int)
def cp : Cod uni ((Int × Int × (List Int)) × (Int × Int × (List Int)) × Int × (List S58)) := (codC (iAgg (codC (iInt .i64) (codC (iInt .i64) (cod1 (iRow 1))))) (codC (iAgg (codC (iInt .i64) (codC (iInt .i64) (cod1 (iRow 1))))) (codC (iInt .i64) (cod1 (iRow 2)))))
def cr : Coz uni (Int × Int × Int × Int × (List Int) × Int × Int × Int) := (cozR (cod1 (iAgg (codC (iInt .i64) (codC (iInt .i64) (codC (iInt .i64) (codC (iInt .i64) (codC (iRow 1) (codC (iInt .i64) (codC (iInt .i64) (cod1 (iInt .i64))))))))))) (codD (codD (codD (codD cod0)))))
noncomputable def es : List (Ent prog uni) := [F27.ent, F42.ent, F43.ent]
theorem get : prog.funcs[15]? = some f15 := by kernel_rfl

def l0.A : Ann := ⟨[(3, .slc 5000192 []), (8, .box 5000512 0), (9, .box 5000576 0), (10, .sc)], [(5000512, 34, [.sc, .sc, .sc, .sc, .nil, .sc, .sc, .sc]), (5000576, 74, [.sc, .sc, .slc 5000588 [], .sc, .sc, .sc, .sc, .sc, .sc, .sc, .slc 5000596 [], .sc, .sc, .sc])], [(5000192, false, 2), (5000588, false, 1), (5000596, true, 1)], []⟩
def l0.c : Cod uni (Int × Int × Int × Int × Int × Int × Int × Int × Int × Int × Int × Bool × Int × Int × Int × Int × Int × Int × Int × Int × (List S58) × (List Int) × (List Int)) := (codC (iInt .i64) (codC (iInt .i64) (codC (iInt .i64) (codC (iInt .i64) (codC (iInt .i64) (codC (iInt .i64) (codC (iInt .i64) (codC (iInt .i64) (codC (iInt .i64) (codC (iInt .i64) (codC (iInt .i64) (codC iBool (codC (iInt .i64) (codC (iInt .i64) (codC (iInt .i64) (codC (iInt .i64) (codC (iInt .i64) (codC (iInt .i64) (codC (iInt .i64) (codC (iInt .i64) (codC (iRow 2) (codC (iRow 1) (cod1 (iRow 1))))))))))))))))))))))))
def l0.xs : List (AExit × Ann) := [(.ret, ⟨[(8, .box 5000512 0)], [(5000512, 34, [.sc, .sc, .sc, .sc, .slc 5000526 [], .sc, .sc, .sc])], [(5000526, true, 1)], []⟩), ((.exit 0), ⟨[(8, .box 5000512 0), (9, .box 5000576 0)], [(5000512, 34, [.sc, .sc, .sc, .sc, .nil, .sc, .sc, .sc]), (5000576, 74, [.sc, .sc, .slc 5000588 [], .sc, .sc, .sc, .sc, .sc, .sc, .sc, .slc 5000596 [], .sc, .sc, .sc])], [(5000588, false, 1), (5000596, true, 1)], []⟩)]
def l0.y : Coy uni ((Int × Int × Int × Int × Int × Int × Int × (List Int)) ⊕ (Int × Int × Int × Int × Int × Int × Int × Int × Int × Int × Bool × Int × Int × Int × Int × Int × Int × Int × Int × (List Int) × (List Int))) := (coyS (codC (iInt .i64) (codC (iInt .i64) (codC (iInt .i64) (codC (iInt .i64) (codC (iInt .i64) (codC (iInt .i64) (codC (iInt .i64) (cod1 (iRow 1))))))))) (coy1 (codC (iInt .i64) (codC (iInt .i64) (codC (iInt .i64) (codC (iInt .i64) (codC (iInt .i64) (codC (iInt .i64) (codC (iInt .i64) (codC (iInt .i64) (codC (iInt .i64) (codC (iInt .i64) (codC iBool (codC (iInt .i64) (codC (iInt .i64) (codC (iInt .i64) (codC (iInt .i64) (codC (iInt .i64) (codC (iInt .i64) (codC (iInt .i64) (codC (iInt .i64) (codC (iRow 1) (cod1 (iRow 1))))))))))))))))))))))))
noncomputable def l0.b : Int × Int × Int × Int × Int × Int × Int × Int × Int × Int × Int × Bool × Int × Int × Int × Int × Int × Int × Int × Int × (List S58) × (List Int) × (List Int) → Option ((Int × Int × Int × Int × Int × Int × Int × Int × Int × Int × Int × Bool × Int × Int × Int × Int × Int × Int × Int × Int × (List S58) × (List Int) × (List Int)) ⊕ ((Int × Int × Int × Int × Int × Int × Int × (List Int)) ⊕ (Int × Int × Int × Int × Int × Int × Int × Int × Int × Int × Bool × Int × Int × Int × Int × Int × Int × Int × Int × (List Int) × (List Int))))
  | (v10, b512_0, b512_1, b512_2, b512_3, b512_5, b512_6, b512_7, b576_0, b576_1, b576_3, b576_4, b576_5, b576_6, b576_7, b576_8, b576_9, b576_11, b576_12, b576_13, r192, r588, r596) =>
  let x0 := (decide (v10 < ((List.length r192) : Int)))
  cond x0 (
   (F42.F (b576_8, (b576_9, r596))).bind fun y42 =>
   cond ((decide (0 ≤ v10)) && x0) (
    let x1 := (List.getD r192 (Int.toNat v10) z58)
    (F43.F ((b576_0, (b576_1, (r588, (b576_3, (b576_4, (b576_5, (b576_6, (b576_7, (b576_8, (b576_9, (r596, (b576_11, (b576_12, b576_13))))))))))))), (x1.f0, (x1.f1, (x1.f2, x1.f3))))).bind fun y43 =>
    cond (y43.1 != 0) (
     some (.inr (.inl (y43.1, v10, y42.1, y42.2.1, b576_11, b576_12, b576_13, y42.2.2)))) (
     some (.inl ((Go.IntKind.wrap (Go.IntKind.i64 ) (v10 + 1)), b512_0, b512_1, b512_2, b512_3, b512_5, b512_6, b512_7, y43.2.1.1, y43.2.1.2.1, y43.2.1.2.2.1, y43.2.1.2.2.2.1, y43.2.1.2.2.2.2.1, y43.2.1.2.2.2.2.2.1, y43.2.1.2.2.2.2.2.2.1, y43.2.1.2.2.2.2.2.2.2.1, y43.2.1.2.2.2.2.2.2.2.2.1, y43.2.1.2.2.2.2.2.2.2.2.2.2.1, y43.2.1.2.2.2.2.2.2.2.2.2.2.2.1, y43.2.1.2.2.2.2.2.2.2.2.2.2.2.2, r192, r588, y43.2.1.2.2.2.2.2.2.2.2.2.1)))) none) (
   some (.inr (.inr (b512_0, b512_1, b512_2, b512_3, b512_5, b512_6, b512_7, b576_0, b576_1, b576_3, b576_4, b576_5, b576_6, b576_7, b576_8, b576_9, b576_11, b576_12, b576_13, r588, r596))))
noncomputable def l0 (x : Int × Int × Int × Int × Int × Int × Int × Int × Int × Int × Int × Bool × Int × Int × Int × Int × Int × Int × Int × Int × (List S58) × (List Int) × (List Int)) : Option ((Int × Int × Int × Int × Int × Int × Int × (List Int)) ⊕ (Int × Int × Int × Int × Int × Int × Int × Int × Int × Int × Bool × Int × Int × Int × Int × Int × Int × Int × Int × (List Int) × (List Int))) := lim l0.b x
theorem l0.eq : ∀ x, l0.b x = roundX (mkE tab es 71 [] []) (loopAt 0 code) (cutOf l0.A l0.c) (cutsOf l0.xs l0.y) x := fun x => by kernel_rfl
theorem l0.owed {R : Type} : owed (mkE (R := R) tab es 71 [] []) (loopAt 0 code) = [] := by kernel_rfl
theorem l0.ok (w0 : World) (M : Own) (h : Pinned M []) {R : Type} : SoundO prog w0 M 71 (.block 0 (.loop (loopAt 0 code))) (loopO (R := R) 0 (cutOf l0.A l0.c) (cutsOf l0.xs l0.y) l0) :=
  loop_ok tabOk uniOk mixed l0.eq (h.sub rfl) (h.sub rfl) fun x hx => by rw [l0.owed] at hx; exact absurd hx List.not_mem_nil

noncomputable def F : ((Int × Int × (List Int)) × (Int × Int × (List Int)) × Int × (List S58)) → Option ((Int × Int × Int × Int × (List Int) × Int × Int × Int))
  | ((p0_0, p0_1, p0_2), (p1_0, p1_1, p1_2), p2, p3) =>
  let x0 := ((List.length p3) : Int)
  cond (decide (x0 > 4096)) (
   some (2, (0, (0, (0, (([] : List Int), (0, (0, 0)))))))) (
   (F27.F ((p0_0, (p0_1, p0_2)), ((p1_0, (p1_1, p1_2)), p2))).bind fun y27 =>
   cond (!y27) (
    some (1, (0, (0, (0, (([] : List Int), (0, (0, 0)))))))) (
    cond (decide (x0 > 2000)) (
     some (10, (0, (0, (0, (([] : List Int), (0, (0, 0)))))))) (
     (F42.F (p0_0, (p0_1, p0_2))).bind fun y42 =>
     (l0 (0, 0, 0, 0, 0, 0, 0, 0, p1_0, p1_1, p2, false, 0, 0, 24, y42.1, y42.2.1, 0, 0, 0, p3, p1_2, y42.2.2)).bind fun q => match q with
     | (.inl yl0) =>
      some (yl0.1, (yl0.2.1, (yl0.2.2.1, (yl0.2.2.2.1, (yl0.2.2.2.2.2.2.2, (yl0.2.2.2.2.1, (yl0.2.2.2.2.2.1, yl0.2.2.2.2.2.2.1)))))))
     | (.inr yl0) =>
      some (0, (0, (yl0.2.2.2.2.2.2.2.2.2.2.2.2.2.2.1, (yl0.2.2.2.2.2.2.2.2.2.2.2.2.2.2.2.1, (yl0.2.2.2.2.2.2.2.2.2.2.2.2.2.2.2.2.2.2.2.2, (yl0.2.2.2.2.2.2.2.2.2.2.2.2.2.2.2.2.1, (yl0.2.2.2.2.2.2.2.2.2.2.2.2.2.2.2.2.2.1, yl0.2.2.2.2.2.2.2.2.2.2.2.2.2.2.2.2.2.2.1))))))))))
theorem F.eq : ∀ x, F x = runF (mkE tab es 71 [(0, some (loopO 0 (cutOf l0.A l0.c) (cutsOf l0.xs l0.y) l0))] []) code [.agg [.sc, .sc, .row 1 0], .agg [.sc, .sc, .row 1 0], .sc, .row 2 0] [.agg [.sc, .sc, .sc, .sc, .row 1, .sc, .sc, .sc]] [.cell 8 34] (Coz.dec cr) (cp.enc x) := fun x => by kernel_rfl
theorem F.owed : owed (mkE (R := (Int × Int × Int × Int × (List Int) × Int × Int × Int)) tab es 71 [(0, some (loopO 0 (cutOf l0.A l0.c) (cutsOf l0.xs l0.y) l0))] []) code = [((.block 0 (.loop (loopAt 0 code))), (loopO (R := _) 0 (cutOf l0.A l0.c) (cutsOf l0.xs l0.y) l0))] := by kernel_rfl
theorem con : ∀ x y, F x = some y → Con prog 15 [.agg [.sc, .sc, .row 1 0], .agg [.sc, .sc, .row 1 0], .sc, .row 2 0] [.agg [.sc, .sc, .sc, .sc, .row 1, .sc, .sc, .sc]] (cp.enc x) (cr.enc y).1 (cr.enc y).2 :=
  func_ok (c := code) (n := 71) (pf := [.agg [.sc, .sc, .row 1 0], .agg [.sc, .sc, .row 1 0], .sc, .row 2 0]) (res := [.cell 8 34]) tabOk uniOk mixed get (by kernel_rfl) (by kernel_rfl) (by kernel_rfl) (by decide) F.eq fun w0 M h x hx => by rw [F.owed] at hx; rcases List.mem_cons.1 hx with rfl | hx; exact l0.ok w0 M h; exact absurd hx List.not_mem_nil
noncomputable def ent : Ent prog uni := Ent.of 15 [.agg [.sc, .sc, .row 1 0], .agg [.sc, .sc, .row 1 0], .sc, .row 2 0] [.agg [.sc, .sc, .sc, .sc, .row 1, .sc, .sc, .sc]] cp cr F con fun args w => enters_of get (by kernel_rfl) rfl args w
end Go.Proofs.Ytnaieiillgncjaa.AX.F15

/- The function 39 of the program in the small machine. No conditions. -/
namespace Go.Proofs.Ytnaieiillgncjaa.AX.F39
open Go Go.Proofs.Try
noncomputable def code : Code := bodyOf f39
abbrev Y : Type := Bool
def cp : Cod uni (Int × Int × (List Int)) := (cod1 (iAgg (codC (iInt .i64) (codC (iInt .i64) (cod1 (iRow 1))))))
def cr : Coz uni Bool := (cozR (cod1 iBool) (codD cod0))
noncomputable def es : List (Ent prog uni) := []
theorem get : prog.funcs[39]? = some f39 := by kernel_rfl

def l0.A : Ann := ⟨[(35, .slc 5002240 []), (36, .sc), (37, .sc)], [], [(5002240, false, 1)], []⟩
def l0.c : Cod uni (Int × Int × (List Int)) := (codC (iInt .i64) (codC (iInt .i64) (cod1 (iRow 1))))
def l0.xs : List (AExit × Ann) := [(.ret, ⟨[(2, .sc)], [], [], []⟩), ((.exit 0), ⟨[], [], [], []⟩)]
def l0.y : Coy uni (Bool ⊕ Unit) := (coyS (cod1 iBool) (coy1 cod0))
noncomputable def l0.b : Int × Int × (List Int) → Option ((Int × Int × (List Int)) ⊕ (Bool ⊕ Unit))
  | (v36, v37, r2240) =>
  cond (decide (v37 < v36)) (
   cond ((decide (0 ≤ v37)) && (decide (v37 < ((List.length r2240) : Int)))) (
    let x0 := (List.getD r2240 (Int.toNat v37) 0)
    cond ((decide (x0 < 0)) || (decide (x0 > 24))) (
     some (.inr (.inl false))) (
     some (.inl (v36, (Go.IntKind.wrap (Go.IntKind.i64 ) (v37 + 1)), r2240)))) none) (
   some (.inr (.inr ())))
noncomputable def l0 (x : Int × Int × (List Int)) : Option (Bool ⊕ Unit) := lim l0.b x
theorem l0.eq : ∀ x, l0.b x = roundX (mkE tab es 48 [] []) (loopAt 0 code) (cutOf l0.A l0.c) (cutsOf l0.xs l0.y) x := fun x => by kernel_rfl
theorem l0.owed {R : Type} : owed (mkE (R := R) tab es 48 [] []) (loopAt 0 code) = [] := by kernel_rfl
theorem l0.ok (w0 : World) (M : Own) (h : Pinned M []) {R : Type} : SoundO prog w0 M 48 (.block 0 (.loop (loopAt 0 code))) (loopO (R := R) 0 (cutOf l0.A l0.c) (cutsOf l0.xs l0.y) l0) :=
  loop_ok tabOk uniOk mixed l0.eq (h.sub rfl) (h.sub rfl) fun x hx => by rw [l0.owed] at hx; exact absurd hx List.not_mem_nil

noncomputable def F : (Int × Int × (List Int)) → Option (Bool)
  | (p0_0, p0_1, p0_2) =>
  let x0 := ((List.length p0_2) : Int)
  cond (((((decide (p0_0 < 1)) || (decide (p0_0 > 24))) || (decide (p0_1 < 1))) || (decide (p0_1 > 24))) || (x0 != (Go.IntKind.wrap (Go.IntKind.i64 ) (p0_0 * p0_1)))) (
   some false) (
   (l0 (x0, 0, p0_2)).bind fun q => match q with
   | (.inl yl0) =>
    some yl0
   | (.inr yl0) =>
    some true)
theorem F.eq : ∀ x, F x = runF (mkE tab es 48 [(0, some (loopO 0 (cutOf l0.A l0.c) (cutsOf l0.xs l0.y) l0))] []) code [.agg [.sc, .sc, .row 1 0]] [.sc] [.tmp 2] (Coz.dec cr) (cp.enc x) := fun x => by kernel_rfl
theorem F.owed : owed (mkE (R := Bool) tab es 48 [(0, some (loopO 0 (cutOf l0.A l0.c) (cutsOf l0.xs l0.y) l0))] []) code = [((.block 0 (.loop (loopAt 0 code))), (loopO (R := _) 0 (cutOf l0.A l0.c) (cutsOf l0.xs l0.y) l0))] := by kernel_rfl
theorem con : ∀ x y, F x = some y → Con prog 39 [.agg [.sc, .sc, .row 1 0]] [.sc] (cp.enc x) (cr.enc y).1 (cr.enc y).2 :=
  func_ok (c := code) (n := 48) (pf := [.agg [.sc, .sc, .row 1 0]]) (res := [.tmp 2]) tabOk uniOk mixed get (by kernel_rfl) (by kernel_rfl) (by kernel_rfl) (by decide) F.eq fun w0 M h x hx => by rw [F.owed] at hx; rcases List.mem_cons.1 hx with rfl | hx; exact l0.ok w0 M h; exact absurd hx List.not_mem_nil
noncomputable def ent : Ent prog uni := Ent.of 39 [.agg [.sc, .sc, .row 1 0]] [.sc] cp cr F con fun args w => enters_of get (by kernel_rfl) rfl args w
end Go.Proofs.Ytnaieiillgncjaa.AX.F39

/- The function 40 of the program in the small machine. No conditions. -/
namespace Go.Proofs.Ytnaieiillgncjaa.AX.F40
open Go Go.Proofs.Try
noncomputable def code : Code := bodyOf f40
abbrev Y : Type := Bool
def cp : Cod uni Int := (cod1 (iInt .i64))
def cr : Coz uni Bool := (cozR (cod1 iBool) (codD cod0))
noncomputable def es : List (Ent prog uni) := []
theorem get : prog.funcs[40]? = some f40 := by kernel_rfl

noncomputable def F : Int → Option (Bool)
  | p0 =>
  some ((decide (p0 ≥ 0)) && (decide (p0 ≤ 3)))
theorem F.eq : ∀ x, F x = runF (mkE tab es 9 [] []) code [.sc] [.sc] [.tmp 2] (Coz.dec cr) (cp.enc x) := fun x => by kernel_rfl
theorem F.owed : owed (mkE (R := Bool) tab es 9 [] []) code = [] := by kernel_rfl
theorem con : ∀ x y, F x = some y → Con prog 40 [.sc] [.sc] (cp.enc x) (cr.enc y).1 (cr.enc y).2 :=
  func_ok (c := code) (n := 9) (pf := [.sc]) (res := [.tmp 2]) tabOk uniOk mixed get (by kernel_rfl) (by kernel_rfl) (by kernel_rfl) (by decide) F.eq fun w0 M h x hx => by rw [F.owed] at hx; exact absurd hx List.not_mem_nil
noncomputable def ent : Ent prog uni := Ent.of 40 [.sc] [.sc] cp cr F con fun args w => enters_of get (by kernel_rfl) rfl args w
end Go.Proofs.Ytnaieiillgncjaa.AX.F40

/- The function 28 of the program in the small machine. No conditions. -/
namespace Go.Proofs.Ytnaieiillgncjaa.AX.F28
open Go Go.Proofs.Try
noncomputable def code : Code := bodyOf f28
abbrev Y : Type := Bool
def cp : Cod uni ((Int × Int × (List Int)) × (Int × Int × (List Int)) × Int) := (codC (iAgg (codC (iInt .i64) (codC (iInt .i64) (cod1 (iRow 1))))) (codC (iAgg (codC (iInt .i64) (codC (iInt .i64) (cod1 (iRow 1))))) (cod1 (iInt .i64))))
def cr : Coz uni Bool := (cozR (cod1 iBool) (codD (codD (codD cod0))))
noncomputable def es : List (Ent prog uni) := [F39.ent, F40.ent]
theorem get : prog.funcs[28]? = some f28 := by kernel_rfl

def l0.A : Ann := ⟨[(3, .box 5000192 0), (37, .slc 5002368 []), (38, .sc), (39, .sc)], [(5000192, 25, [.sc, .sc, .slc 5000204 []])], [(5002368, false, 1), (5000204, false, 1)], []⟩
def l0.c : Cod uni (Int × Int × Int × Int × (List Int) × (List Int)) := (codC (iInt .i64) (codC (iInt .i64) (codC (iInt .i64) (codC (iInt .i64) (codC (iRow 1) (cod1 (iRow 1)))))))
def l0.xs : List (AExit × Ann) := [(.ret, ⟨[(6, .sc)], [], [], []⟩), ((.exit 0), ⟨[], [], [], []⟩)]
def l0.y : Coy uni (Bool ⊕ Unit) := (coyS (cod1 iBool) (coy1 cod0))
noncomputable def l0.b : Int × Int × Int × Int × (List Int) × (List Int) → Option ((Int × Int × Int × Int × (List Int) × (List Int)) ⊕ (Bool ⊕ Unit))
  | (v38, v39, b192_0, b192_1, r2368, r204) =>
  cond (decide (v39 < v38)) (
   cond ((decide (0 ≤ v39)) && (decide (v39 < ((List.length r2368) : Int)))) (
    cond ((decide (0 ≤ v39)) && (decide (v39 < ((List.length r204) : Int)))) (
     cond (decide ((List.getD r2368 (Int.toNat v39) 0) > (List.getD r204 (Int.toNat v39) 0))) (
      some (.inr (.inl false))) (
      some (.inl (v38, (Go.IntKind.wrap (Go.IntKind.i64 ) (v39 + 1)), b192_0, b192_1, r2368, r204)))) none) none) (
   some (.inr (.inr ())))
noncomputable def l0 (x : Int × Int × Int × Int × (List Int) × (List Int)) : Option (Bool ⊕ Unit) := lim l0.b x
theorem l0.eq : ∀ x, l0.b x = roundX (mkE tab es 52 [] []) (loopAt 0 code) (cutOf l0.A l0.c) (cutsOf l0.xs l0.y) x := fun x => by kernel_rfl
theorem l0.owed {R : Type} : owed (mkE (R := R) tab es 52 [] []) (loopAt 0 code) = [] := by kernel_rfl
theorem l0.ok (w0 : World) (M : Own) (h : Pinned M []) {R : Type} : SoundO prog w0 M 52 (.block 0 (.loop (loopAt 0 code))) (loopO (R := R) 0 (cutOf l0.A l0.c) (cutsOf l0.xs l0.y) l0) :=
  loop_ok tabOk uniOk mixed l0.eq (h.sub rfl) (h.sub rfl) fun x hx => by rw [l0.owed] at hx; exact absurd hx List.not_mem_nil

noncomputable def F : ((Int × Int × (List Int)) × (Int × Int × (List Int)) × Int) → Option (Bool)
  | ((p0_0, p0_1, p0_2), (p1_0, p1_1, p1_2), p2) =>
  (F39.F (p0_0, (p0_1, p0_2))).bind fun y39 =>
  let x1 := (l0 (((List.length p1_2) : Int), 0, p0_0, p0_1, p1_2, p0_2))
  cond (!(!y39)) (
   (F39.F (p1_0, (p1_1, p1_2))).bind fun y39x2 =>
   let x0 := ((((!y39) || (!y39x2)) || (p0_0 != p1_0)) || (p0_1 != p1_1))
   cond (!x0) (
    (F40.F p2).bind fun y40 =>
    cond (x0 || (!y40)) (
     some false) (
     x1.bind fun q => match q with
     | (.inl yl0) =>
      some yl0
     | (.inr yl0) =>
      some true)) (
    cond (x0 || true) (
     some false) (
     x1.bind fun q => match q with
     | (.inl yl0) =>
      some yl0
     | (.inr yl0) =>
      some true))) (
   let x2 := ((((!y39) || true) || (p0_0 != p1_0)) || (p0_1 != p1_1))
   cond (!x2) (
    (F40.F p2).bind fun y40 =>
    cond (x2 || (!y40)) (
     some false) (
     x1.bind fun q => match q with
     | (.inl yl0) =>
      some yl0
     | (.inr yl0) =>
      some true)) (
    cond (x2 || true) (
     some false) (
     x1.bind fun q => match q with
     | (.inl yl0) =>
      some yl0
     | (.inr yl0) =>
      some true)))
theorem F.eq : ∀ x, F x = runF (mkE tab es 52 [(0, some (loopO 0 (cutOf l0.A l0.c) (cutsOf l0.xs l0.y) l0))] []) code [.agg [.sc, .sc, .row 1 0], .agg [.sc, .sc, .row 1 0], .sc] [.sc] [.tmp 6] (Coz.dec cr) (cp.enc x) := fun x => by kernel_rfl
theorem F.owed : owed (mkE (R := Bool) tab es 52 [(0, some (loopO 0 (cutOf l0.A l0.c) (cutsOf l0.xs l0.y) l0))] []) code = [((.block 0 (.loop (loopAt 0 code))), (loopO (R := _) 0 (cutOf l0.A l0.c) (cutsOf l0.xs l0.y) l0))] := by kernel_rfl
theorem con : ∀ x y, F x = some y → Con prog 28 [.agg [.sc, .sc, .row 1 0], .agg [.sc, .sc, .row 1 0], .sc] [.sc] (cp.enc x) (cr.enc y).1 (cr.enc y).2 :=
  func_ok (c := code) (n := 52) (pf := [.agg [.sc, .sc, .row 1 0], .agg [.sc, .sc, .row 1 0], .sc]) (res := [.tmp 6]) tabOk uniOk mixed get (by kernel_rfl) (by kernel_rfl) (by kernel_rfl) (by decide) F.eq fun w0 M h x hx => by rw [F.owed] at hx; rcases List.mem_cons.1 hx with rfl | hx; exact l0.ok w0 M h; exact absurd hx List.not_mem_nil
noncomputable def ent : Ent prog uni := Ent.of 28 [.agg [.sc, .sc, .row 1 0], .agg [.sc, .sc, .row 1 0], .sc] [.sc] cp cr F con fun args w => enters_of get (by kernel_rfl) rfl args w
end Go.Proofs.Ytnaieiillgncjaa.AX.F28

/- The function 35 of the program in the small machine. No conditions. -/
namespace Go.Proofs.Ytnaieiillgncjaa.AX.F35
open Go Go.Proofs.Try
noncomputable def code : Code := bodyOf f35
abbrev Y : Type := (Int × Int × (List Int))
def cp : Cod uni (Int × Int × (List Int)) := (cod1 (iAgg (codC (iInt .i64) (codC (iInt .i64) (cod1 (iRow 1))))))
def cr : Coz uni (Int × Int × (List Int)) := (cozR (cod1 (iAgg (codC (iInt .i64) (codC (iInt .i64) (cod1 (iRow 1)))))) (codD cod0))
noncomputable def es : List (Ent prog uni) := []
theorem get : prog.funcs[35]? = some f35 := by kernel_rfl

noncomputable def F : (Int × Int × (List Int)) → Option ((Int × Int × (List Int)))
  | (p0_0, p0_1, p0_2) =>
  cond (decide ((List.length p0_2) ≤ 274877906944)) (
   some (p0_0, (p0_1, p0_2))) none
theorem F.eq : ∀ x, F x = runF (mkE tab es 11 [] []) code [.agg [.sc, .sc, .row 1 0]] [.agg [.sc, .sc, .row 1]] [.cell 2 25] (Coz.dec cr) (cp.enc x) := fun x => by kernel_rfl
theorem F.owed : owed (mkE (R := (Int × Int × (List Int))) tab es 11 [] []) code = [] := by kernel_rfl
theorem con : ∀ x y, F x = some y → Con prog 35 [.agg [.sc, .sc, .row 1 0]] [.agg [.sc, .sc, .row 1]] (cp.enc x) (cr.enc y).1 (cr.enc y).2 :=
  func_ok (c := code) (n := 11) (pf := [.agg [.sc, .sc, .row 1 0]]) (res := [.cell 2 25]) tabOk uniOk mixed get (by kernel_rfl) (by kernel_rfl) (by kernel_rfl) (by decide) F.eq fun w0 M h x hx => by rw [F.owed] at hx; exact absurd hx List.not_mem_nil
noncomputable def ent : Ent prog uni := Ent.of 35 [.agg [.sc, .sc, .row 1 0]] [.agg [.sc, .sc, .row 1]] cp cr F con fun args w => enters_of get (by kernel_rfl) rfl args w
end Go.Proofs.Ytnaieiillgncjaa.AX.F35

/- The function 36 of the program in the small machine. No conditions. -/
namespace Go.Proofs.Ytnaieiillgncjaa.AX.F36
open Go Go.Proofs.Try
noncomputable def code : Code := bodyOf f36
abbrev Y : Type := ((Int × Int × Int × Int × Int × Int × Int) × (Int × (Int × Int × Int × Int × Int × Int × Int)))
def cp : Cod uni (Int × Int × (Int × Int × Int × Int × (List Int) × Int × Int × Int)) := (codC (iInt .i64) (codC (iAgg (cod1 (iInt .i64))) (cod1 (iAgg (codC (iInt .i64) (codC (iInt .i64) (codC (iInt .i64) (codC (iInt .i64) (codC (iRow 1) (codC (iInt .i64) (codC (iInt .i64) (cod1 (iInt .i64)))))))))))))
def cr : Coz uni ((Int × Int × Int × Int × Int × Int × Int) × (Int × (Int × Int × Int × Int × Int × Int × Int))) := (cozRM (cod1 (iAgg (codC (iInt .i64) (codC (iInt .i64) (codC (iInt .i64) (codC (iInt .i64) (codD (codC (iInt .i64) (codC (iInt .i64) (cod1 (iInt .i64))))))))))) (codD (codC (iAgg (cod1 (iInt .i64))) (cod1 (iAgg (codC (iInt .i64) (codC (iInt .i64) (codC (iInt .i64) (codC (iInt .i64) (codD (codC (iInt .i64) (codC (iInt .i64) (cod1 (iInt .i64))))))))))))))
noncomputable def es : List (Ent prog uni) := []
theorem get : prog.funcs[36]? = some f36 := by kernel_rfl

noncomputable def F : (Int × Int × (Int × Int × Int × Int × (List Int) × Int × Int × Int)) → Option (((Int × Int × Int × Int × Int × Int × Int) × (Int × (Int × Int × Int × Int × Int × Int × Int))))
  | (p0, p1_0, (p2_0, p2_1, p2_2, p2_3, p2_4, p2_5, p2_6, p2_7)) =>
  some ((p0, (p1_0, (p2_2, (p2_3, (p2_5, (p2_6, p2_7)))))), (p1_0, (p0, (p1_0, (p2_2, (p2_3, (p2_5, (p2_6, p2_7))))))))
theorem F.eq : ∀ x, F x = runF (mkE tab es 10 [] []) code [.sc, .box 3 [.sc], .box 34 [.sc, .sc, .sc, .sc, .ro 1, .sc, .sc, .sc]] [.agg [.sc, .sc, .sc, .sc, .same 2 4, .sc, .sc, .sc]] [.cell 4 34] (Coz.dec cr) (cp.enc x) := fun x => by kernel_rfl
theorem F.owed : owed (mkE (R := ((Int × Int × Int × Int × Int × Int × Int) × (Int × (Int × Int × Int × Int × Int × Int × Int)))) tab es 10 [] []) code = [] := by kernel_rfl
theorem con : ∀ x y, F x = some y → Con prog 36 [.sc, .box 3 [.sc], .box 34 [.sc, .sc, .sc, .sc, .ro 1, .sc, .sc, .sc]] [.agg [.sc, .sc, .sc, .sc, .same 2 4, .sc, .sc, .sc]] (cp.enc x) (cr.enc y).1 (cr.enc y).2 :=
  func_ok (c := code) (n := 10) (pf := [.sc, .box 3 [.sc], .box 34 [.sc, .sc, .sc, .sc, .ro 1, .sc, .sc, .sc]]) (res := [.cell 4 34]) tabOk uniOk mixed get (by kernel_rfl) (by kernel_rfl) (by kernel_rfl) (by decide) F.eq fun w0 M h x hx => by rw [F.owed] at hx; exact absurd hx List.not_mem_nil
noncomputable def ent : Ent prog uni := Ent.of 36 [.sc, .box 3 [.sc], .box 34 [.sc, .sc, .sc, .sc, .ro 1, .sc, .sc, .sc]] [.agg [.sc, .sc, .sc, .sc, .same 2 4, .sc, .sc, .sc]] cp cr F con fun args w => enters_of get (by kernel_rfl) rfl args w
end Go.Proofs.Ytnaieiillgncjaa.AX.F36

/- The function 37 of the program in the small machine. No conditions. -/
namespace Go.Proofs.Ytnaieiillgncjaa.AX.F37
open Go Go.Proofs.Try
noncomputable def code : Code := bodyOf f37
abbrev Y : Type := Int
def cp : Cod uni Int := (cod1 (iInt .i64))
def cr : Coz uni Int := (cozR (cod1 (iInt .i64)) (codD cod0))
noncomputable def es : List (Ent prog uni) := []
theorem get : prog.funcs[37]? = some f37 := by kernel_rfl

noncomputable def F : Int → Option (Int)
  | p0 =>
  cond (decide (p0 > 0)) (
   some 1) (
   cond (decide (p0 < 0)) (
    some (-1)) (
    some 0))
theorem F.eq : ∀ x, F x = runF (mkE tab es 9 [] []) code [.sc] [.sc] [.tmp 2] (Coz.dec cr) (cp.enc x) := fun x => by kernel_rfl
theorem F.owed : owed (mkE (R := Int) tab es 9 [] []) code = [] := by kernel_rfl
theorem con : ∀ x y, F x = some y → Con prog 37 [.sc] [.sc] (cp.enc x) (cr.enc y).1 (cr.enc y).2 :=
  func_ok (c := code) (n := 9) (pf := [.sc]) (res := [.tmp 2]) tabOk uniOk mixed get (by kernel_rfl) (by kernel_rfl) (by kernel_rfl) (by decide) F.eq fun w0 M h x hx => by rw [F.owed] at hx; exact absurd hx List.not_mem_nil
noncomputable def ent : Ent prog uni := Ent.of 37 [.sc] [.sc] cp cr F con fun args w => enters_of get (by kernel_rfl) rfl args w
end Go.Proofs.Ytnaieiillgncjaa.AX.F37

/- The function 38 of the program in the small machine. No conditions. -/
namespace Go.Proofs.Ytnaieiillgncjaa.AX.F38
open Go Go.Proofs.Try
noncomputable def code : Code := bodyOf f38
abbrev Y : Type := Int
def cp : Cod uni Int := (cod1 (iInt .i64))
def cr : Coz uni Int := (cozR (cod1 (iInt .i64)) (codD cod0))
noncomputable def es : List (Ent prog uni) := []
theorem get : prog.funcs[38]? = some f38 := by kernel_rfl

noncomputable def F : Int → Option (Int)
  | p0 =>
  some (if ((Go.IntKind.wrap (Go.IntKind.i64 ) (0 - p0)) > p0) then (Go.IntKind.wrap (Go.IntKind.i64 ) (0 - p0)) else p0)
theorem F.eq : ∀ x, F x = runF (mkE tab es 7 [] []) code [.sc] [.sc] [.tmp 2] (Coz.dec cr) (cp.enc x) := fun x => by kernel_rfl
theorem F.owed : owed (mkE (R := Int) tab es 7 [] []) code = [] := by kernel_rfl
theorem con : ∀ x y, F x = some y → Con prog 38 [.sc] [.sc] (cp.enc x) (cr.enc y).1 (cr.enc y).2 :=
  func_ok (c := code) (n := 7) (pf := [.sc]) (res := [.tmp 2]) tabOk uniOk mixed get (by kernel_rfl) (by kernel_rfl) (by kernel_rfl) (by decide) F.eq fun w0 M h x hx => by rw [F.owed] at hx; exact absurd hx List.not_mem_nil
noncomputable def ent : Ent prog uni := Ent.of 38 [.sc] [.sc] cp cr F con fun args w => enters_of get (by kernel_rfl) rfl args w
end Go.Proofs.Ytnaieiillgncjaa.AX.F38

/- The function 31 of the program in the small machine. No conditions. -/
namespace Go.Proofs.Ytnaieiillgncjaa.AX.F31
open Go Go.Proofs.Try
noncomputable def code : Code := bodyOf f31
abbrev Y : Type := (List Int)
def cp : Cod uni ((Int × Int × (List Int)) × Int × Int × Int) := (codC (iAgg (codC (iInt .i64) (codC (iInt .i64) (cod1 (iRow 1))))) (codC (iInt .i64) (codC (iInt .i64) (cod1 (iInt .i64)))))
def cr : Coz uni (List Int) := (cozR (cod1 (iRow 1)) (codD (codD (codD (codD cod0)))))
noncomputable def es : List (Ent prog uni) := []
theorem get : prog.funcs[31]? = some f31 := by kernel_rfl

def l2.A : Ann := ⟨[(1, .sc), (2, .sc), (3, .sc), (4, .box 5000256 0), (9, .slc 5000576 []), (10, .sc), (11, .sc)], [(5000256, 25, [.sc, .sc, .slc 5000268 []])], [(5000268, false, 1), (5000576, true, 1)], []⟩
def l2.c : Cod uni (Int × Int × Int × Int × Int × Int × Int × (List Int) × (List Int)) := (codC (iInt .i64) (codC (iInt .i64) (codC (iInt .i64) (codC (iInt .i64) (codC (iInt .i64) (codC (iInt .i64) (codC (iInt .i64) (codC (iRow 1) (cod1 (iRow 1))))))))))
def l2.xs : List (AExit × Ann) := [((.exit 2), ⟨[(1, .sc), (2, .sc), (3, .sc), (4, .box 5000256 0), (9, .slc 5000576 []), (10, .sc)], [(5000256, 25, [.sc, .sc, .slc 5000268 []])], [(5000268, false, 1), (5000576, true, 1)], []⟩)]
def l2.y : Coy uni ((Int × Int × Int × Int × Int × Int × (List Int) × (List Int))) := (coy1 (codC (iInt .i64) (codC (iInt .i64) (codC (iInt .i64) (codC (iInt .i64) (codC (iInt .i64) (codC (iInt .i64) (codC (iRow 1) (cod1 (iRow 1))))))))))
noncomputable def l2.b : Int × Int × Int × Int × Int × Int × Int × (List Int) × (List Int) → Option ((Int × Int × Int × Int × Int × Int × Int × (List Int) × (List Int)) ⊕ ((Int × Int × Int × Int × Int × Int × (List Int) × (List Int))))
  | (v1, v2, v3, v10, v11, b256_0, b256_1, r268, r576) =>
  let x1 := (Go.IntKind.wrap (Go.IntKind.i64 ) (b256_0 - 1))
  let x4 := (Go.IntKind.wrap (Go.IntKind.i64 ) (v2 + v1))
  cond (decide (v11 ≤ (if (x4 < x1) then x4 else x1))) (
   let x2 := (Go.IntKind.wrap (Go.IntKind.i64 ) (v11 - v2))
   let x3 := (Go.IntKind.wrap (Go.IntKind.i64 ) (v10 - v3))
   let x5 := (Go.IntKind.wrap (Go.IntKind.i64 ) (v11 + 1))
   cond (decide ((Go.IntKind.wrap (Go.IntKind.i64 ) ((Go.IntKind.wrap (Go.IntKind.i64 ) (x2 * x2)) + (Go.IntKind.wrap (Go.IntKind.i64 ) (x3 * x3)))) ≤ (Go.IntKind.wrap (Go.IntKind.i64 ) (v1 * v1)))) (
    let x0 := ((Go.IntKind.wrap (Go.IntKind.i64 ) ((Go.IntKind.wrap (Go.IntKind.i64 ) (v10 * b256_0)) + v11)) :: [])
    cond (decide (((List.length r576) + (List.length x0)) ≤ 274877906944)) (
     some (.inl (v1, v2, v3, v10, x5, b256_0, b256_1, r268, (r576 ++ x0)))) none) (
    some (.inl (v1, v2, v3, v10, x5, b256_0, b256_1, r268, r576)))) (
   some (.inr (v1, v2, v3, v10, b256_0, b256_1, r268, r576)))
noncomputable def l2 (x : Int × Int × Int × Int × Int × Int × Int × (List Int) × (List Int)) : Option ((Int × Int × Int × Int × Int × Int × (List Int) × (List Int))) := lim l2.b x
theorem l2.eq : ∀ x, l2.b x = roundX (mkE tab es 71 [] []) (loopAt 2 code) (cutOf l2.A l2.c) (cutsOf l2.xs l2.y) x := fun x => by kernel_rfl
theorem l2.owed {R : Type} : owed (mkE (R := R) tab es 71 [] []) (loopAt 2 code) = [] := by kernel_rfl
theorem l2.ok (w0 : World) (M : Own) (h : Pinned M []) {R : Type} : SoundO prog w0 M 71 (.block 2 (.loop (loopAt 2 code))) (loopO (R := R) 2 (cutOf l2.A l2.c) (cutsOf l2.xs l2.y) l2) :=
  loop_ok tabOk uniOk mixed l2.eq (h.sub rfl) (h.sub rfl) fun x hx => by rw [l2.owed] at hx; exact absurd hx List.not_mem_nil

def l0.A : Ann := ⟨[(1, .sc), (2, .sc), (3, .sc), (4, .box 5000256 0), (9, .slc 5000576 []), (10, .sc)], [(5000256, 25, [.sc, .sc, .slc 5000268 []])], [(5000268, false, 1), (5000576, true, 1)], []⟩
def l0.c : Cod uni (Int × Int × Int × Int × Int × Int × (List Int) × (List Int)) := (codC (iInt .i64) (codC (iInt .i64) (codC (iInt .i64) (codC (iInt .i64) (codC (iInt .i64) (codC (iInt .i64) (codC (iRow 1) (cod1 (iRow 1)))))))))
def l0.xs : List (AExit × Ann) := [((.exit 0), ⟨[(9, .slc 5000576 [])], [], [(5000576, true, 1)], []⟩)]
def l0.y : Coy uni ((List Int)) := (coy1 (cod1 (iRow 1)))
noncomputable def l0.b : Int × Int × Int × Int × Int × Int × (List Int) × (List Int) → Option ((Int × Int × Int × Int × Int × Int × (List Int) × (List Int)) ⊕ ((List Int)))
  | (v1, v2, v3, v10, b256_0, b256_1, r268, r576) =>
  let x0 := (Go.IntKind.wrap (Go.IntKind.i64 ) (b256_1 - 1))
  let x1 := (Go.IntKind.wrap (Go.IntKind.i64 ) (v3 + v1))
  cond (decide (v10 ≤ (if (x1 < x0) then x1 else x0))) (
   let x2 := (Go.IntKind.wrap (Go.IntKind.i64 ) (v2 - v1))
   (l2 (v1, v2, v3, v10, (if (x2 > 0) then x2 else 0), b256_0, b256_1, r268, r576)).bind fun yl2 =>
   some (.inl (yl2.1, yl2.2.1, yl2.2.2.1, (Go.IntKind.wrap (Go.IntKind.i64 ) (yl2.2.2.2.1 + 1)), yl2.2.2.2.2.1, yl2.2.2.2.2.2.1, yl2.2.2.2.2.2.2.1, yl2.2.2.2.2.2.2.2))) (
   some (.inr r576))
noncomputable def l0 (x : Int × Int × Int × Int × Int × Int × (List Int) × (List Int)) : Option ((List Int)) := lim l0.b x
theorem l0.eq : ∀ x, l0.b x = roundX (mkE tab es 71 [(2, some (loopO 2 (cutOf l2.A l2.c) (cutsOf l2.xs l2.y) l2))] []) (loopAt 0 code) (cutOf l0.A l0.c) (cutsOf l0.xs l0.y) x := fun x => by kernel_rfl
theorem l0.owed {R : Type} : owed (mkE (R := R) tab es 71 [(2, some (loopO 2 (cutOf l2.A l2.c) (cutsOf l2.xs l2.y) l2))] []) (loopAt 0 code) = [((.block 2 (.loop (loopAt 2 code))), (loopO (R := _) 2 (cutOf l2.A l2.c) (cutsOf l2.xs l2.y) l2))] := by kernel_rfl
theorem l0.ok (w0 : World) (M : Own) (h : Pinned M []) {R : Type} : SoundO prog w0 M 71 (.block 0 (.loop (loopAt 0 code))) (loopO (R := R) 0 (cutOf l0.A l0.c) (cutsOf l0.xs l0.y) l0) :=
  loop_ok tabOk uniOk mixed l0.eq (h.sub rfl) (h.sub rfl) fun x hx => by rw [l0.owed] at hx; rcases List.mem_cons.1 hx with rfl | hx; exact l2.ok w0 M h; exact absurd hx List.not_mem_nil

noncomputable def F : ((Int × Int × (List Int)) × Int × Int × Int) → Option ((List Int))
  | ((p0_0, p0_1, p0_2), p1, p2, p3) =>
  let x0 := (Go.IntKind.wrap (Go.IntKind.i64 ) (p3 - p1))
  (l0 (p1, p2, p3, (if (x0 > 0) then x0 else 0), p0_0, p0_1, p0_2, ([] : List Int))).bind fun yl0 =>
  some yl0
theorem F.eq : ∀ x, F x = runF (mkE tab es 71 [(0, some (loopO 0 (cutOf l0.A l0.c) (cutsOf l0.xs l0.y) l0))] []) code [.agg [.sc, .sc, .row 1 0], .sc, .sc, .sc] [.row 1] [.tmp 8] (Coz.dec cr) (cp.enc x) := fun x => by kernel_rfl
theorem F.owed : owed (mkE (R := (List Int)) tab es 71 [(0, some (loopO 0 (cutOf l0.A l0.c) (cutsOf l0.xs l0.y) l0))] []) code = [((.block 0 (.loop (loopAt 0 code))), (loopO (R := _) 0 (cutOf l0.A l0.c) (cutsOf l0.xs l0.y) l0))] := by kernel_rfl
theorem con : ∀ x y, F x = some y → Con prog 31 [.agg [.sc, .sc, .row 1 0], .sc, .sc, .sc] [.row 1] (cp.enc x) (cr.enc y).1 (cr.enc y).2 :=
  func_ok (c := code) (n := 71) (pf := [.agg [.sc, .sc, .row 1 0], .sc, .sc, .sc]) (res := [.tmp 8]) tabOk uniOk mixed get (by kernel_rfl) (by kernel_rfl) (by kernel_rfl) (by decide) F.eq fun w0 M h x hx => by rw [F.owed] at hx; rcases List.mem_cons.1 hx with rfl | hx; exact l0.ok w0 M h; exact absurd hx List.not_mem_nil
noncomputable def ent : Ent prog uni := Ent.of 31 [.agg [.sc, .sc, .row 1 0], .sc, .sc, .sc] [.row 1] cp cr F con fun args w => enters_of get (by kernel_rfl) rfl args w
end Go.Proofs.Ytnaieiillgncjaa.AX.F31

/- The function 10 of the program in the small machine. No conditions. -/
namespace Go.Proofs.Ytnaieiillgncjaa.AX.F10
open Go Go.Proofs.Try
noncomputable def code : Code := bodyOf f10
abbrev Y : Type := (Int × Int × Int × Int × (List Int) × Int × Int × Int)
def cp : Cod uni ((Int × Int × (List Int)) × (Int × Int × (List Int)) × Int × (List S58)) := (codC (iAgg (codC (iInt .i64) (codC (iInt .i64) (cod1 (iRow 1))))) (codC (iAgg (codC (iInt .i64) (codC (iInt .i64) (cod1 (iRow 1))))) (codC (iInt .i64) (cod1 (iRow 2)))))
def cr : Coz uni (Int × Int × Int × Int × (List Int) × Int × Int × Int) := (cozR (cod1 (iAgg (codC (iInt .i64) (codC (iInt .i64) (codC (iInt .i64) (codC (iInt .i64) (codC (iRow 1) (codC (iInt .i64) (codC (iInt .i64) (cod1 (iInt .i64))))))))))) (codD (codD (codD (codD cod0)))))
noncomputable def es : List (Ent prog uni) := [F28.ent, F35.ent, F36.ent, F37.ent, F38.ent, F31.ent]
theorem get : prog.funcs[10]? = some f10 := by kernel_rfl

def l4.A : Ann := ⟨[(2, .sc), (4, .box 5000256 0), (5, .box 5000320 0), (8, .box 5000512 0), (9, .box 5000576 0), (10, .box 5000640 0), (12, .box 5000768 0), (14, .fn 36 [.box 5000896 0, .box 5000897 0]), (15, .sc), (16, .sc), (17, .sc), (18, .sc), (19, .sc), (22, .sc), (23, .slc 5001472 []), (24, .sc), (48, .slc 5003072 []), (49, .sc), (50, .sc), (173, .slc 5001472 []), (174, .sc), (175, .sc)], [(5000256, 25, [.sc, .sc, .slc 5000268 []]), (5000320, 25, [.sc, .sc, .slc 5000332 []]), (5000512, 34, [.sc, .sc, .sc, .sc, .nil, .sc, .sc, .sc]), (5000576, 34, [.sc, .sc, .sc, .sc, .slc 5000590 [], .sc, .sc, .sc]), (5000640, 59, [.sc, .sc, .sc, .sc]), (5000768, 59, [.sc, .sc, .sc, .sc]), (5000896, 3, [.sc]), (5000897, 34, [.sc, .sc, .sc, .sc, .slc 5000910 [], .sc, .sc, .sc])], [(5001472, true, 1), (5003072, false, 2), (5000268, false, 1), (5000332, false, 1), (5000590, true, 1), (5000910, true, 1)], []⟩
def l4.c : Cod uni (Int × Int × Int × Int × Int × Int × Int × Bool × Int × Int × Int × Int × Int × Int × Int × Int × Int × Int × Int × Int × Int × Int × Int × Int × Int × Int × Int × Int × Int × Int × Bool × Int × Int × Int × Bool × Int × Int × Int × Int × Int × Int × Int × Int × Int × Int × Int × (List Int) × (List S58) × (List Int) × (List Int) × (List Int) × (List Int)) := (codC (iInt .i64) (codC (iInt .i64) (codC (iInt .i64) (codC (iInt .i64) (codC (iInt .i64) (codC (iInt .i64) (codC (iInt .i64) (codC iBool (codC (iInt .i64) (codC (iInt .i64) (codC (iInt .i64) (codC (iInt .i64) (codC (iInt .i64) (codC (iInt .i64) (codC (iInt .i64) (codC (iInt .i64) (codC (iInt .i64) (codC (iInt .i64) (codC (iInt .i64) (codC (iInt .i64) (codC (iInt .i64) (codC (iInt .i64) (codC (iInt .i64) (codC (iInt .i64) (codC (iInt .i64) (codC (iInt .i64) (codC (iInt .i64) (codC (iInt .i64) (codC (iInt .i64) (codC (iInt .i64) (codC iBool (codC (iInt .i64) (codC (iInt .i64) (codC (iInt .i64) (codC iBool (codC (iInt .i64) (codC (iInt .i64) (codC (iInt .i64) (codC (iInt .i64) (codC (iInt .i64) (codC (iInt .i64) (codC (iInt .i64) (codC (iInt .i64) (codC (iInt .i64) (codC (iInt .i64) (codC (iInt .i64) (codC (iRow 1) (codC (iRow 2) (codC (iRow 1) (codC (iRow 1) (codC (iRow 1) (cod1 (iRow 1)))))))))))))))))))))))))))))))))))))))))))))))))))))
def l4.xs : List (AExit × Ann) := [(.ret, ⟨[(8, .box 5000512 0)], [(5000512, 34, [.sc, .sc, .sc, .sc, .slc 5000526 [], .sc, .sc, .sc])], [(5000526, true, 1)], []⟩), ((.exit 4), ⟨[(2, .sc), (4, .box 5000256 0), (5, .box 5000320 0), (8, .box 5000512 0), (9, .box 5000576 0), (10, .box 5000640 0), (12, .box 5000768 0), (14, .fn 36 [.box 5000896 0, .box 5000897 0]), (15, .sc), (16, .sc), (17, .sc), (18, .sc), (19, .sc), (22, .sc), (23, .slc 5001472 []), (24, .sc), (48, .slc 5003072 []), (49, .sc), (50, .sc)], [(5000256, 25, [.sc, .sc, .slc 5000268 []]), (5000320, 25, [.sc, .sc, .slc 5000332 []]), (5000512, 34, [.sc, .sc, .sc, .sc, .nil, .sc, .sc, .sc]), (5000576, 34, [.sc, .sc, .sc, .sc, .slc 5000590 [], .sc, .sc, .sc]), (5000640, 59, [.sc, .sc, .sc, .sc]), (5000768, 59, [.sc, .sc, .sc, .sc]), (5000896, 3, [.sc]), (5000897, 34, [.sc, .sc, .sc, .sc, .slc 5000910 [], .sc, .sc, .sc])], [(5001472, true, 1), (5003072, false, 2), (5000268, false, 1), (5000332, false, 1), (5000590, true, 1), (5000910, true, 1)], []⟩)]
def l4.y : Coy uni ((Int × Int × Int × Int × Int × Int × Int × (List Int)) ⊕ (Int × Int × Int × Int × Int × Int × Int × Bool × Int × Int × Int × Int × Int × Int × Int × Int × Int × Int × Int × Int × Int × Int × Int × Int × Int × Int × Int × Int × Bool × Int × Int × Int × Bool × Int × Int × Int × Int × Int × Int × Int × Int × Int × Int × Int × (List Int) × (List S58) × (List Int) × (List Int) × (List Int) × (List Int))) := (coyS (codC (iInt .i64) (codC (iInt .i64) (codC (iInt .i64) (codC (iInt .i64) (codC (iInt .i64) (codC (iInt .i64) (codC (iInt .i64) (cod1 (iRow 1))))))))) (coy1 (codC (iInt .i64) (codC (iInt .i64) (codC (iInt .i64) (codC (iInt .i64) (codC (iInt .i64) (codC (iInt .i64) (codC (iInt .i64) (codC iBool (codC (iInt .i64) (codC (iInt .i64) (codC (iInt .i64) (codC (iInt .i64) (codC (iInt .i64) (codC (iInt .i64) (codC (iInt .i64) (codC (iInt .i64) (codC (iInt .i64) (codC (iInt .i64) (codC (iInt .i64) (codC (iInt .i64) (codC (iInt .i64) (codC (iInt .i64) (codC (iInt .i64) (codC (iInt .i64) (codC (iInt .i64) (codC (iInt .i64) (codC (iInt .i64) (codC (iInt .i64) (codC iBool (codC (iInt .i64) (codC (iInt .i64) (codC (iInt .i64) (codC iBool (codC (iInt .i64) (codC (iInt .i64) (codC (iInt .i64) (codC (iInt .i64) (codC (iInt .i64) (codC (iInt .i64) (codC (iInt .i64) (codC (iInt .i64) (codC (iInt .i64) (codC (iInt .i64) (codC (iInt .i64) (codC (iRow 1) (codC (iRow 2) (codC (iRow 1) (codC (iRow 1) (codC (iRow 1) (cod1 (iRow 1)))))))))))))))))))))))))))))))))))))))))))))))))))))
noncomputable def l4.b : Int × Int × Int × Int × Int × Int × Int × Bool × Int × Int × Int × Int × Int × Int × Int × Int × Int × Int × Int × Int × Int × Int × Int × Int × Int × Int × Int × Int × Int × Int × Bool × Int × Int × Int × Bool × Int × Int × Int × Int × Int × Int × Int × Int × Int × Int × Int × (List Int) × (List S58) × (List Int) × (List Int) × (List Int) × (List Int) → Option ((Int × Int × Int × Int × Int × Int × Int × Bool × Int × Int × Int × Int × Int × Int × Int × Int × Int × Int × Int × Int × Int × Int × Int × Int × Int × Int × Int × Int × Int × Int × Bool × Int × Int × Int × Bool × Int × Int × Int × Int × Int × Int × Int × Int × Int × Int × Int × (List Int) × (List S58) × (List Int) × (List Int) × (List Int) × (List Int)) ⊕ ((Int × Int × Int × Int × Int × Int × Int × (List Int)) ⊕ (Int × Int × Int × Int × Int × Int × Int × Bool × Int × Int × Int × Int × Int × Int × Int × Int × Int × Int × Int × Int × Int × Int × Int × Int × Int × Int × Int × Int × Bool × Int × Int × Int × Bool × Int × Int × Int × Int × Int × Int × Int × Int × Int × Int × Int × (List Int) × (List S58) × (List Int) × (List Int) × (List Int) × (List Int))))
  | (v2, v15, v16, v17, v18, v19, v22, v24, v49, v50, v174, v175, b256_0, b256_1, b320_0, b320_1, b512_0, b512_1, b512_2, b512_3, b512_5, b512_6, b512_7, b576_0, b576_1, b576_2, b576_3, b576_5, b576_6, b576_7, b640_0, b640_1, b640_2, b640_3, b768_0, b768_1, b768_2, b768_3, b896_0, b897_0, b897_1, b897_2, b897_3, b897_5, b897_6, b897_7, r1472, r3072, r268, r332, r590, r910) =>
  cond (decide (v175 < v174)) (
   cond ((decide (0 ≤ v175)) && (decide (v175 < ((List.length r1472) : Int)))) (
    let x2 := (List.getD r1472 (Int.toNat v175) 0)
    let x0 := (decide (0 ≤ x2))
    cond (x0 && (decide (x2 < ((List.length r332) : Int)))) (
     let x1 := (Int.toNat x2)
     cond (decide ((List.getD r332 x1 0) > v22)) (
      (F36.F (16, (b896_0, (b897_0, (b897_1, (b897_2, (b897_3, (r910, (b897_5, (b897_6, b897_7)))))))))).bind fun y36 =>
      some (.inr (.inl (y36.1.1, y36.1.2.1, y36.1.2.2.1, y36.1.2.2.2.1, y36.1.2.2.2.2.1, y36.1.2.2.2.2.2.1, y36.1.2.2.2.2.2.2, r910)))) (
      cond ((!(!v24)) || (x0 && (decide (x2 < ((List.length r590) : Int))))) (
       some (.inl (v2, v15, v16, v17, v18, v19, v22, (v24 || (decide ((List.getD r590 x1 0) > v22))), v49, v50, v174, (Go.IntKind.wrap (Go.IntKind.i64 ) (v175 + 1)), b256_0, b256_1, b320_0, b320_1, b512_0, b512_1, b512_2, b512_3, b512_5, b512_6, b512_7, b576_0, b576_1, b576_2, b576_3, b576_5, b576_6, b576_7, b640_0, b640_1, b640_2, b640_3, b768_0, b768_1, b768_2, b768_3, b896_0, b897_0, b897_1, b897_2, b897_3, b897_5, b897_6, b897_7, r1472, r3072, r268, r332, r590, r910))) none)) none) none) (
   some (.inr (.inr (v2, v15, v16, v17, v18, v19, v22, v24, v49, v50, b256_0, b256_1, b320_0, b320_1, b512_0, b512_1, b512_2, b512_3, b512_5, b512_6, b512_7, b576_0, b576_1, b576_2, b576_3, b576_5, b576_6, b576_7, b640_0, b640_1, b640_2, b640_3, b768_0, b768_1, b768_2, b768_3, b896_0, b897_0, b897_1, b897_2, b897_3, b897_5, b897_6, b897_7, r1472, r3072, r268, r332, r590, r910))))
noncomputable def l4 (x : Int × Int × Int × Int × Int × Int × Int × Bool × Int × Int × Int × Int × Int × Int × Int × Int × Int × Int × Int × Int × Int × Int × Int × Int × Int × Int × Int × Int × Int × Int × Bool × Int × Int × Int × Bool × Int × Int × Int × Int × Int × Int × Int × Int × Int × Int × Int × (List Int) × (List S58) × (List Int) × (List Int) × (List Int) × (List Int)) : Option ((Int × Int × Int × Int × Int × Int × Int × (List Int)) ⊕ (Int × Int × Int × Int × Int × Int × Int × Bool × Int × Int × Int × Int × Int × Int × Int × Int × Int × Int × Int × Int × Int × Int × Int × Int × Int × Int × Int × Int × Bool × Int × Int × Int × Bool × Int × Int × Int × Int × Int × Int × Int × Int × Int × Int × Int × (List Int) × (List S58) × (List Int) × (List Int) × (List Int) × (List Int))) := lim l4.b x
theorem l4.eq : ∀ x, l4.b x = roundX (mkE tab es 254 [] []) (loopAt 4 code) (cutOf l4.A l4.c) (cutsOf l4.xs l4.y) x := fun x => by kernel_rfl
theorem l4.owed {R : Type} : owed (mkE (R := R) tab es 254 [] []) (loopAt 4 code) = [] := by kernel_rfl
theorem l4.ok (w0 : World) (M : Own) (h : Pinned M []) {R : Type} : SoundO prog w0 M 254 (.block 4 (.loop (loopAt 4 code))) (loopO (R := R) 4 (cutOf l4.A l4.c) (cutsOf l4.xs l4.y) l4) :=
  loop_ok tabOk uniOk mixed l4.eq (h.sub rfl) (h.sub rfl) fun x hx => by rw [l4.owed] at hx; exact absurd hx List.not_mem_nil

def l6.A : Ann := ⟨[(2, .sc), (4, .box 5000256 0), (5, .box 5000320 0), (8, .box 5000512 0), (9, .box 5000576 0), (10, .box 5000640 0), (12, .box 5000768 0), (14, .fn 36 [.box 5000896 0, .box 5000897 0]), (15, .sc), (16, .sc), (17, .sc), (18, .sc), (19, .sc), (22, .sc), (24, .sc), (48, .slc 5003072 []), (49, .sc), (50, .sc), (207, .slc 5013248 []), (208, .sc), (209, .sc)], [(5000256, 25, [.sc, .sc, .slc 5000268 []]), (5000320, 25, [.sc, .sc, .slc 5000332 []]), (5000512, 34, [.sc, .sc, .sc, .sc, .nil, .sc, .sc, .sc]), (5000576, 34, [.sc, .sc, .sc, .sc, .slc 5000590 [], .sc, .sc, .sc]), (5000640, 59, [.sc, .sc, .sc, .sc]), (5000768, 59, [.sc, .sc, .sc, .sc]), (5000896, 3, [.sc]), (5000897, 34, [.sc, .sc, .sc, .sc, .slc 5000910 [], .sc, .sc, .sc])], [(5003072, false, 2), (5013248, true, 1), (5000268, false, 1), (5000332, false, 1), (5000590, true, 1), (5000910, true, 1)], []⟩
def l6.c : Cod uni (Int × Int × Int × Int × Int × Int × Int × Bool × Int × Int × Int × Int × Int × Int × Int × Int × Int × Int × Int × Int × Int × Int × Int × Int × Int × Int × Int × Int × Int × Int × Bool × Int × Int × Int × Bool × Int × Int × Int × Int × Int × Int × Int × Int × Int × Int × Int × (List S58) × (List Int) × (List Int) × (List Int) × (List Int) × (List Int)) := (codC (iInt .i64) (codC (iInt .i64) (codC (iInt .i64) (codC (iInt .i64) (codC (iInt .i64) (codC (iInt .i64) (codC (iInt .i64) (codC iBool (codC (iInt .i64) (codC (iInt .i64) (codC (iInt .i64) (codC (iInt .i64) (codC (iInt .i64) (codC (iInt .i64) (codC (iInt .i64) (codC (iInt .i64) (codC (iInt .i64) (codC (iInt .i64) (codC (iInt .i64) (codC (iInt .i64) (codC (iInt .i64) (codC (iInt .i64) (codC (iInt .i64) (codC (iInt .i64) (codC (iInt .i64) (codC (iInt .i64) (codC (iInt .i64) (codC (iInt .i64) (codC (iInt .i64) (codC (iInt .i64) (codC iBool (codC (iInt .i64) (codC (iInt .i64) (codC (iInt .i64) (codC iBool (codC (iInt .i64) (codC (iInt .i64) (codC (iInt .i64) (codC (iInt .i64) (codC (iInt .i64) (codC (iInt .i64) (codC (iInt .i64) (codC (iInt .i64) (codC (iInt .i64) (codC (iInt .i64) (codC (iInt .i64) (codC (iRow 2) (codC (iRow 1) (codC (iRow 1) (codC (iRow 1) (codC (iRow 1) (cod1 (iRow 1)))))))))))))))))))))))))))))))))))))))))))))))))))))
def l6.xs : List (AExit × Ann) := [((.exit 6), ⟨[(2, .sc), (4, .box 5000256 0), (5, .box 5000320 0), (8, .box 5000512 0), (9, .box 5000576 0), (10, .box 5000640 0), (12, .box 5000768 0), (14, .fn 36 [.box 5000896 0, .box 5000897 0]), (15, .sc), (16, .sc), (17, .sc), (18, .sc), (19, .sc), (24, .sc), (48, .slc 5003072 []), (49, .sc), (50, .sc)], [(5000256, 25, [.sc, .sc, .slc 5000268 []]), (5000320, 25, [.sc, .sc, .slc 5000332 []]), (5000512, 34, [.sc, .sc, .sc, .sc, .nil, .sc, .sc, .sc]), (5000576, 34, [.sc, .sc, .sc, .sc, .slc 5000590 [], .sc, .sc, .sc]), (5000640, 59, [.sc, .sc, .sc, .sc]), (5000768, 59, [.sc, .sc, .sc, .sc]), (5000896, 3, [.sc]), (5000897, 34, [.sc, .sc, .sc, .sc, .slc 5000910 [], .sc, .sc, .sc])], [(5003072, false, 2), (5000268, false, 1), (5000332, false, 1), (5000590, true, 1), (5000910, true, 1)], []⟩)]
def l6.y : Coy uni ((Int × Int × Int × Int × Int × Int × Bool × Int × Int × Int × Int × Int × Int × Int × Int × Int × Int × Int × Int × Int × Int × Int × Int × Int × Int × Int × Int × Bool × Int × Int × Int × Bool × Int × Int × Int × Int × Int × Int × Int × Int × Int × Int × Int × (List S58) × (List Int) × (List Int) × (List Int) × (List Int))) := (coy1 (codC (iInt .i64) (codC (iInt .i64) (codC (iInt .i64) (codC (iInt .i64) (codC (iInt .i64) (codC (iInt .i64) (codC iBool (codC (iInt .i64) (codC (iInt .i64) (codC (iInt .i64) (codC (iInt .i64) (codC (iInt .i64) (codC (iInt .i64) (codC (iInt .i64) (codC (iInt .i64) (codC (iInt .i64) (codC (iInt .i64) (codC (iInt .i64) (codC (iInt .i64) (codC (iInt .i64) (codC (iInt .i64) (codC (iInt .i64) (codC (iInt .i64) (codC (iInt .i64) (codC (iInt .i64) (codC (iInt .i64) (codC (iInt .i64) (codC iBool (codC (iInt .i64) (codC (iInt .i64) (codC (iInt .i64) (codC iBool (codC (iInt .i64) (codC (iInt .i64) (codC (iInt .i64) (codC (iInt .i64) (codC (iInt .i64) (codC (iInt .i64) (codC (iInt .i64) (codC (iInt .i64) (codC (iInt .i64) (codC (iInt .i64) (codC (iInt .i64) (codC (iRow 2) (codC (iRow 1) (codC (iRow 1) (codC (iRow 1) (cod1 (iRow 1))))))))))))))))))))))))))))))))))))))))))))))))))
noncomputable def l6.b : Int × Int × Int × Int × Int × Int × Int × Bool × Int × Int × Int × Int × Int × Int × Int × Int × Int × Int × Int × Int × Int × Int × Int × Int × Int × Int × Int × Int × Int × Int × Bool × Int × Int × Int × Bool × Int × Int × Int × Int × Int × Int × Int × Int × Int × Int × Int × (List S58) × (List Int) × (List Int) × (List Int) × (List Int) × (List Int) → Option ((Int × Int × Int × Int × Int × Int × Int × Bool × Int × Int × Int × Int × Int × Int × Int × Int × Int × Int × Int × Int × Int × Int × Int × Int × Int × Int × Int × Int × Int × Int × Bool × Int × Int × Int × Bool × Int × Int × Int × Int × Int × Int × Int × Int × Int × Int × Int × (List S58) × (List Int) × (List Int) × (List Int) × (List Int) × (List Int)) ⊕ ((Int × Int × Int × Int × Int × Int × Bool × Int × Int × Int × Int × Int × Int × Int × Int × Int × Int × Int × Int × Int × Int × Int × Int × Int × Int × Int × Int × Bool × Int × Int × Int × Bool × Int × Int × Int × Int × Int × Int × Int × Int × Int × Int × Int × (List S58) × (List Int) × (List Int) × (List Int) × (List Int))))
  | (v2, v15, v16, v17, v18, v19, v22, v24, v49, v50, v208, v209, b256_0, b256_1, b320_0, b320_1, b512_0, b512_1, b512_2, b512_3, b512_5, b512_6, b512_7, b576_0, b576_1, b576_2, b576_3, b576_5, b576_6, b576_7, b640_0, b640_1, b640_2, b640_3, b768_0, b768_1, b768_2, b768_3, b896_0, b897_0, b897_1, b897_2, b897_3, b897_5, b897_6, b897_7, r3072, r13248, r268, r332, r590, r910) =>
  cond (decide (v209 < v208)) (
   cond ((decide (0 ≤ v209)) && (decide (v209 < ((List.length r13248) : Int)))) (
    let x4 := (List.getD r13248 (Int.toNat v209) 0)
    let x0 := ((decide (0 ≤ x4)) && (decide (x4 < ((List.length r590) : Int))))
    cond x0 (
     let x2 := (Int.toNat x4)
     let x1 := (Go.IntKind.wrap (Go.IntKind.i64 ) ((List.getD r590 x2 0) - v22))
     let x3 := (Go.IntKind.wrap (Go.IntKind.i64 ) (v209 + 1))
     cond (decide (x1 > 0)) (
      cond x0 (
       some (.inl (v2, v15, v16, v17, v18, v19, v22, v24, v49, v50, v208, x3, b256_0, b256_1, b320_0, b320_1, b512_0, b512_1, b512_2, b512_3, b512_5, b512_6, b512_7, b576_0, b576_1, b576_2, b576_3, (Go.IntKind.wrap (Go.IntKind.i64 ) (b576_5 + x1)), b576_6, (if (x1 > b576_7) then x1 else b576_7), b640_0, b640_1, b640_2, b640_3, b768_0, b768_1, b768_2, b768_3, b896_0, b897_0, b897_1, b897_2, b897_3, b897_5, b897_6, b897_7, r3072, r13248, r268, r332, (List.set r590 x2 v22), r910))) none) (
      some (.inl (v2, v15, v16, v17, v18, v19, v22, v24, v49, v50, v208, x3, b256_0, b256_1, b320_0, b320_1, b512_0, b512_1, b512_2, b512_3, b512_5, b512_6, b512_7, b576_0, b576_1, b576_2, b576_3, b576_5, b576_6, b576_7, b640_0, b640_1, b640_2, b640_3, b768_0, b768_1, b768_2, b768_3, b896_0, b897_0, b897_1, b897_2, b897_3, b897_5, b897_6, b897_7, r3072, r13248, r268, r332, r590, r910)))) none) none) (
   some (.inr (v2, v15, v16, v17, v18, v19, v24, v49, v50, b256_0, b256_1, b320_0, b320_1, b512_0, b512_1, b512_2, b512_3, b512_5, b512_6, b512_7, b576_0, b576_1, b576_2, b576_3, b576_5, b576_6, b576_7, b640_0, b640_1, b640_2, b640_3, b768_0, b768_1, b768_2, b768_3, b896_0, b897_0, b897_1, b897_2, b897_3, b897_5, b897_6, b897_7, r3072, r268, r332, r590, r910)))
noncomputable def l6 (x : Int × Int × Int × Int × Int × Int × Int × Bool × Int × Int × Int × Int × Int × Int × Int × Int × Int × Int × Int × Int × Int × Int × Int × Int × Int × Int × Int × Int × Int × Int × Bool × Int × Int × Int × Bool × Int × Int × Int × Int × Int × Int × Int × Int × Int × Int × Int × (List S58) × (List Int) × (List Int) × (List Int) × (List Int) × (List Int)) : Option ((Int × Int × Int × Int × Int × Int × Bool × Int × Int × Int × Int × Int × Int × Int × Int × Int × Int × Int × Int × Int × Int × Int × Int × Int × Int × Int × Int × Bool × Int × Int × Int × Bool × Int × Int × Int × Int × Int × Int × Int × Int × Int × Int × Int × (List S58) × (List Int) × (List Int) × (List Int) × (List Int))) := lim l6.b x
theorem l6.eq : ∀ x, l6.b x = roundX (mkE tab es 254 [] []) (loopAt 6 code) (cutOf l6.A l6.c) (cutsOf l6.xs l6.y) x := fun x => by kernel_rfl
theorem l6.owed {R : Type} : owed (mkE (R := R) tab es 254 [] []) (loopAt 6 code) = [] := by kernel_rfl
theorem l6.ok (w0 : World) (M : Own) (h : Pinned M []) {R : Type} : SoundO prog w0 M 254 (.block 6 (.loop (loopAt 6 code))) (loopO (R := R) 6 (cutOf l6.A l6.c) (cutsOf l6.xs l6.y) l6) :=
  loop_ok tabOk uniOk mixed l6.eq (h.sub rfl) (h.sub rfl) fun x hx => by rw [l6.owed] at hx; exact absurd hx List.not_mem_nil

def l2.A : Ann := ⟨[(2, .sc), (4, .box 5000256 0), (5, .box 5000320 0), (8, .box 5000512 0), (9, .box 5000576 0), (10, .box 5000640 0), (12, .box 5000768 0), (14, .fn 36 [.box 5000896 0, .box 5000897 0]), (15, .sc), (16, .sc), (17, .sc), (18, .sc), (19, .sc), (48, .slc 5003072 []), (49, .sc), (50, .sc)], [(5000256, 25, [.sc, .sc, .slc 5000268 []]), (5000320, 25, [.sc, .sc, .slc 5000332 []]), (5000512, 34, [.sc, .sc, .sc, .sc, .nil, .sc, .sc, .sc]), (5000576, 34, [.sc, .sc, .sc, .sc, .slc 5000590 [], .sc, .sc, .sc]), (5000640, 59, [.sc, .sc, .sc, .sc]), (5000768, 59, [.sc, .sc, .sc, .sc]), (5000896, 3, [.sc]), (5000897, 34, [.sc, .sc, .sc, .sc, .slc 5000910 [], .sc, .sc, .sc])], [(5003072, false, 2), (5000268, false, 1), (5000332, false, 1), (5000590, true, 1), (5000910, true, 1)], []⟩
def l2.c : Cod uni (Int × Int × Int × Int × Int × Int × Int × Int × Int × Int × Int × Int × Int × Int × Int × Int × Int × Int × Int × Int × Int × Int × Int × Int × Int × Int × Bool × Int × Int × Int × Bool × Int × Int × Int × Int × Int × Int × Int × Int × Int × Int × Int × (List S58) × (List Int) × (List Int) × (List Int) × (List Int)) := (codC (iInt .i64) (codC (iInt .i64) (codC (iInt .i64) (codC (iInt .i64) (codC (iInt .i64) (codC (iInt .i64) (codC (iInt .i64) (codC (iInt .i64) (codC (iInt .i64) (codC (iInt .i64) (codC (iInt .i64) (codC (iInt .i64) (codC (iInt .i64) (codC (iInt .i64) (codC (iInt .i64) (codC (iInt .i64) (codC (iInt .i64) (codC (iInt .i64) (codC (iInt .i64) (codC (iInt .i64) (codC (iInt .i64) (codC (iInt .i64) (codC (iInt .i64) (codC (iInt .i64) (codC (iInt .i64) (codC (iInt .i64) (codC iBool (codC (iInt .i64) (codC (iInt .i64) (codC (iInt .i64) (codC iBool (codC (iInt .i64) (codC (iInt .i64) (codC (iInt .i64) (codC (iInt .i64) (codC (iInt .i64) (codC (iInt .i64) (codC (iInt .i64) (codC (iInt .i64) (codC (iInt .i64) (codC (iInt .i64) (codC (iInt .i64) (codC (iRow 2) (codC (iRow 1) (codC (iRow 1) (codC (iRow 1) (cod1 (iRow 1))))))))))))))))))))))))))))))))))))))))))))))))
def l2.xs : List (AExit × Ann) := [(.ret, ⟨[(8, .box 5000512 0)], [(5000512, 34, [.sc, .sc, .sc, .sc, .slc 5000526 [], .sc, .sc, .sc])], [(5000526, true, 1)], []⟩), ((.exit 2), ⟨[(2, .sc), (4, .box 5000256 0), (5, .box 5000320 0), (8, .box 5000512 0), (9, .box 5000576 0), (10, .box 5000640 0), (12, .box 5000768 0), (48, .slc 5003072 []), (49, .sc), (50, .sc)], [(5000256, 25, [.sc, .sc, .slc 5000268 []]), (5000320, 25, [.sc, .sc, .slc 5000332 []]), (5000512, 34, [.sc, .sc, .sc, .sc, .nil, .sc, .sc, .sc]), (5000576, 34, [.sc, .sc, .sc, .sc, .slc 5000590 [], .sc, .sc, .sc]), (5000640, 59, [.sc, .sc, .sc, .sc]), (5000768, 59, [.sc, .sc, .sc, .sc])], [(5003072, false, 2), (5000268, false, 1), (5000332, false, 1), (5000590, true, 1)], []⟩)]
def l2.y : Coy uni ((Int × Int × Int × Int × Int × Int × Int × (List Int)) ⊕ (Int × Int × Int × Int × Int × Int × Int × Int × Int × Int × Int × Int × Int × Int × Int × Int × Int × Int × Int × Int × Int × Bool × Int × Int × Int × Bool × Int × Int × Int × (List S58) × (List Int) × (List Int) × (List Int))) := (coyS (codC (iInt .i64) (codC (iInt .i64) (codC (iInt .i64) (codC (iInt .i64) (codC (iInt .i64) (codC (iInt .i64) (codC (iInt .i64) (cod1 (iRow 1))))))))) (coy1 (codC (iInt .i64) (codC (iInt .i64) (codC (iInt .i64) (codC (iInt .i64) (codC (iInt .i64) (codC (iInt .i64) (codC (iInt .i64) (codC (iInt .i64) (codC (iInt .i64) (codC (iInt .i64) (codC (iInt .i64) (codC (iInt .i64) (codC (iInt .i64) (codC (iInt .i64) (codC (iInt .i64) (codC (iInt .i64) (codC (iInt .i64) (codC (iInt .i64) (codC (iInt .i64) (codC (iInt .i64) (codC (iInt .i64) (codC iBool (codC (iInt .i64) (codC (iInt .i64) (codC (iInt .i64) (codC iBool (codC (iInt .i64) (codC (iInt .i64) (codC (iInt .i64) (codC (iRow 2) (codC (iRow 1) (codC (iRow 1) (cod1 (iRow 1))))))))))))))))))))))))))))))))))))
noncomputable def l2.b : Int × Int × Int × Int × Int × Int × Int × Int × Int × Int × Int × Int × Int × Int × Int × Int × Int × Int × Int × Int × Int × Int × Int × Int × Int × Int × Bool × Int × Int × Int × Bool × Int × Int × Int × Int × Int × Int × Int × Int × Int × Int × Int × (List S58) × (List Int) × (List Int) × (List Int) × (List Int) → Option ((Int × Int × Int × Int × Int × Int × Int × Int × Int × Int × Int × Int × Int × Int × Int × Int × Int × Int × Int × Int × Int × Int × Int × Int × Int × Int × Bool × Int × Int × Int × Bool × Int × Int × Int × Int × Int × Int × Int × Int × Int × Int × Int × (List S58) × (List Int) × (List Int) × (List Int) × (List Int)) ⊕ ((Int × Int × Int × Int × Int × Int × Int × (List Int)) ⊕ (Int × Int × Int × Int × Int × Int × Int × Int × Int × Int × Int × Int × Int × Int × Int × Int × Int × Int × Int × Int × Int × Bool × Int × Int × Int × Bool × Int × Int × Int × (List S58) × (List Int) × (List Int) × (List Int))))
  | (v2, v15, v16, v17, v18, v19, v49, v50, b256_0, b256_1, b320_0, b320_1, b512_0, b512_1, b512_2, b512_3, b512_5, b512_6, b512_7, b576_0, b576_1, b576_2, b576_3, b576_5, b576_6, b576_7, b640_0, b640_1, b640_2, b640_3, b768_0, b768_1, b768_2, b768_3, b896_0, b897_0, b897_1, b897_2, b897_3, b897_5, b897_6, b897_7, r3072, r268, r332, r590, r910) =>
  cond (decide (v19 ≤ (if (1 > v18) then 1 else v18))) (
   (F31.F ((b256_0, (b256_1, r268)), (v2, ((Go.IntKind.wrap (Go.IntKind.i64 ) (b640_1 + (Go.IntKind.wrap (Go.IntKind.i64 ) (v15 * v19)))), (Go.IntKind.wrap (Go.IntKind.i64 ) (b640_2 + (Go.IntKind.wrap (Go.IntKind.i64 ) (v16 * v19)))))))).bind fun y31 =>
   (l4 (v2, v15, v16, v17, v18, v19, (Go.IntKind.wrap (Go.IntKind.i64 ) (b640_3 + (Go.IntKind.wrap (Go.IntKind.i64 ) (v17 * v19)))), false, v49, v50, ((List.length y31) : Int), 0, b256_0, b256_1, b320_0, b320_1, b512_0, b512_1, b512_2, b512_3, b512_5, b512_6, b512_7, b576_0, b576_1, b576_2, b576_3, b576_5, b576_6, b576_7, b640_0, b640_1, b640_2, b640_3, b768_0, b768_1, b768_2, b768_3, b896_0, b897_0, b897_1, b897_2, b897_3, b897_5, b897_6, b897_7, y31, r3072, r268, r332, r590, r910)).bind fun q => match q with
   | (.inl yl4) =>
    some (.inr (.inl (yl4.1, yl4.2.1, yl4.2.2.1, yl4.2.2.2.1, yl4.2.2.2.2.1, yl4.2.2.2.2.2.1, yl4.2.2.2.2.2.2.1, yl4.2.2.2.2.2.2.2)))
   | (.inr yl4) =>
    cond (yl4.2.2.2.2.2.2.2.1 && yl4.2.2.2.2.2.2.2.2.2.2.2.2.2.2.2.2.2.2.2.2.2.2.2.2.2.2.2.2.2.2.2.2.1) (
     (F36.F (17, (yl4.2.2.2.2.2.2.2.2.2.2.2.2.2.2.2.2.2.2.2.2.2.2.2.2.2.2.2.2.2.2.2.2.2.2.2.2.1, (yl4.2.2.2.2.2.2.2.2.2.2.2.2.2.2.2.2.2.2.2.2.2.2.2.2.2.2.2.2.2.2.2.2.2.2.2.2.2.1, (yl4.2.2.2.2.2.2.2.2.2.2.2.2.2.2.2.2.2.2.2.2.2.2.2.2.2.2.2.2.2.2.2.2.2.2.2.2.2.2.1, (yl4.2.2.2.2.2.2.2.2.2.2.2.2.2.2.2.2.2.2.2.2.2.2.2.2.2.2.2.2.2.2.2.2.2.2.2.2.2.2.2.1, (yl4.2.2.2.2.2.2.2.2.2.2.2.2.2.2.2.2.2.2.2.2.2.2.2.2.2.2.2.2.2.2.2.2.2.2.2.2.2.2.2.2.1, (yl4.2.2.2.2.2.2.2.2.2.2.2.2.2.2.2.2.2.2.2.2.2.2.2.2.2.2.2.2.2.2.2.2.2.2.2.2.2.2.2.2.2.2.2.2.2.2.2.2.2, (yl4.2.2.2.2.2.2.2.2.2.2.2.2.2.2.2.2.2.2.2.2.2.2.2.2.2.2.2.2.2.2.2.2.2.2.2.2.2.2.2.2.2.1, (yl4.2.2.2.2.2.2.2.2.2.2.2.2.2.2.2.2.2.2.2.2.2.2.2.2.2.2.2.2.2.2.2.2.2.2.2.2.2.2.2.2.2.2.1, yl4.2.2.2.2.2.2.2.2.2.2.2.2.2.2.2.2.2.2.2.2.2.2.2.2.2.2.2.2.2.2.2.2.2.2.2.2.2.2.2.2.2.2.2.1)))))))))).bind fun y36 =>
     some (.inr (.inl (y36.1.1, y36.1.2.1, y36.1.2.2.1, y36.1.2.2.2.1, y36.1.2.2.2.2.1, y36.1.2.2.2.2.2.1, y36.1.2.2.2.2.2.2, yl4.2.2.2.2.2.2.2.2.2.2.2.2.2.2.2.2.2.2.2.2.2.2.2.2.2.2.2.2.2.2.2.2.2.2.2.2.2.2.2.2.2.2.2.2.2.2.2.2.2)))) (
     (l6 (yl4.1, yl4.2.1, yl4.2.2.1, yl4.2.2.2.1, yl4.2.2.2.2.1, yl4.2.2.2.2.2.1, yl4.2.2.2.2.2.2.1, yl4.2.2.2.2.2.2.2.1, yl4.2.2.2.2.2.2.2.2.1, yl4.2.2.2.2.2.2.2.2.2.1, ((List.length yl4.2.2.2.2.2.2.2.2.2.2.2.2.2.2.2.2.2.2.2.2.2.2.2.2.2.2.2.2.2.2.2.2.2.2.2.2.2.2.2.2.2.2.2.2.1) : Int), 0, yl4.2.2.2.2.2.2.2.2.2.2.1, yl4.2.2.2.2.2.2.2.2.2.2.2.1, yl4.2.2.2.2.2.2.2.2.2.2.2.2.1, yl4.2.2.2.2.2.2.2.2.2.2.2.2.2.1, yl4.2.2.2.2.2.2.2.2.2.2.2.2.2.2.1, yl4.2.2.2.2.2.2.2.2.2.2.2.2.2.2.2.1, yl4.2.2.2.2.2.2.2.2.2.2.2.2.2.2.2.2.1, yl4.2.2.2.2.2.2.2.2.2.2.2.2.2.2.2.2.2.1, yl4.2.2.2.2.2.2.2.2.2.2.2.2.2.2.2.2.2.2.1, yl4.2.2.2.2.2.2.2.2.2.2.2.2.2.2.2.2.2.2.2.1, yl4.2.2.2.2.2.2.2.2.2.2.2.2.2.2.2.2.2.2.2.2.1, yl4.2.2.2.2.2.2.2.2.2.2.2.2.2.2.2.2.2.2.2.2.2.1, yl4.2.2.2.2.2.2.2.2.2.2.2.2.2.2.2.2.2.2.2.2.2.2.1, yl4.2.2.2.2.2.2.2.2.2.2.2.2.2.2.2.2.2.2.2.2.2.2.2.1, yl4.2.2.2.2.2.2.2.2.2.2.2.2.2.2.2.2.2.2.2.2.2.2.2.2.1, yl4.2.2.2.2.2.2.2.2.2.2.2.2.2.2.2.2.2.2.2.2.2.2.2.2.2.1, yl4.2.2.2.2.2.2.2.2.2.2.2.2.2.2.2.2.2.2.2.2.2.2.2.2.2.2.1, yl4.2.2.2.2.2.2.2.2.2.2.2.2.2.2.2.2.2.2.2.2.2.2.2.2.2.2.2.1, yl4.2.2.2.2.2.2.2.2.2.2.2.2.2.2.2.2.2.2.2.2.2.2.2.2.2.2.2.2.1, yl4.2.2.2.2.2.2.2.2.2.2.2.2.2.2.2.2.2.2.2.2.2.2.2.2.2.2.2.2.2.1, yl4.2.2.2.2.2.2.2.2.2.2.2.2.2.2.2.2.2.2.2.2.2.2.2.2.2.2.2.2.2.2.1, yl4.2.2.2.2.2.2.2.2.2.2.2.2.2.2.2.2.2.2.2.2.2.2.2.2.2.2.2.2.2.2.2.1, yl4.2.2.2.2.2.2.2.2.2.2.2.2.2.2.2.2.2.2.2.2.2.2.2.2.2.2.2.2.2.2.2.2.1, yl4.2.2.2.2.2.2.2.2.2.2.2.2.2.2.2.2.2.2.2.2.2.2.2.2.2.2.2.2.2.2.2.2.2.1, yl4.2.2.2.2.2.2.2.2.2.2.2.2.2.2.2.2.2.2.2.2.2.2.2.2.2.2.2.2.2.2.2.2.2.2.1, yl4.2.2.2.2.2.2.2.2.2.2.2.2.2.2.2.2.2.2.2.2.2.2.2.2.2.2.2.2.2.2.2.2.2.2.2.1, yl4.2.2.2.2.2.2.2.2.2.2.2.2.2.2.2.2.2.2.2.2.2.2.2.2.2.2.2.2.2.2.2.2.2.2.2.2.1, yl4.2.2.2.2.2.2.2.2.2.2.2.2.2.2.2.2.2.2.2.2.2.2.2.2.2.2.2.2.2.2.2.2.2.2.2.2.2.1, yl4.2.2.2.2.2.2.2.2.2.2.2.2.2.2.2.2.2.2.2.2.2.2.2.2.2.2.2.2.2.2.2.2.2.2.2.2.2.2.1, yl4.2.2.2.2.2.2.2.2.2.2.2.2.2.2.2.2.2.2.2.2.2.2.2.2.2.2.2.2.2.2.2.2.2.2.2.2.2.2.2.1, yl4.2.2.2.2.2.2.2.2.2.2.2.2.2.2.2.2.2.2.2.2.2.2.2.2.2.2.2.2.2.2.2.2.2.2.2.2.2.2.2.2.1, yl4.2.2.2.2.2.2.2.2.2.2.2.2.2.2.2.2.2.2.2.2.2.2.2.2.2.2.2.2.2.2.2.2.2.2.2.2.2.2.2.2.2.1, yl4.2.2.2.2.2.2.2.2.2.2.2.2.2.2.2.2.2.2.2.2.2.2.2.2.2.2.2.2.2.2.2.2.2.2.2.2.2.2.2.2.2.2.1, yl4.2.2.2.2.2.2.2.2.2.2.2.2.2.2.2.2.2.2.2.2.2.2.2.2.2.2.2.2.2.2.2.2.2.2.2.2.2.2.2.2.2.2.2.1, yl4.2.2.2.2.2.2.2.2.2.2.2.2.2.2.2.2.2.2.2.2.2.2.2.2.2.2.2.2.2.2.2.2.2.2.2.2.2.2.2.2.2.2.2.2.2.1, yl4.2.2.2.2.2.2.2.2.2.2.2.2.2.2.2.2.2.2.2.2.2.2.2.2.2.2.2.2.2.2.2.2.2.2.2.2.2.2.2.2.2.2.2.2.1, yl4.2.2.2.2.2.2.2.2.2.2.2.2.2.2.2.2.2.2.2.2.2.2.2.2.2.2.2.2.2.2.2.2.2.2.2.2.2.2.2.2.2.2.2.2.2.2.1, yl4.2.2.2.2.2.2.2.2.2.2.2.2.2.2.2.2.2.2.2.2.2.2.2.2.2.2.2.2.2.2.2.2.2.2.2.2.2.2.2.2.2.2.2.2.2.2.2.1, yl4.2.2.2.2.2.2.2.2.2.2.2.2.2.2.2.2.2.2.2.2.2.2.2.2.2.2.2.2.2.2.2.2.2.2.2.2.2.2.2.2.2.2.2.2.2.2.2.2.1, yl4.2.2.2.2.2.2.2.2.2.2.2.2.2.2.2.2.2.2.2.2.2.2.2.2.2.2.2.2.2.2.2.2.2.2.2.2.2.2.2.2.2.2.2.2.2.2.2.2.2)).bind fun yl6 =>
     let x0 := (Go.IntKind.wrap (Go.IntKind.i64 ) (yl6.2.2.2.2.2.1 + 1))
     cond ((!yl6.2.2.2.2.2.2.1) && (!yl6.2.2.2.2.2.2.2.2.2.2.2.2.2.2.2.2.2.2.2.2.2.2.2.2.2.2.2.2.2.2.2.1)) (
      some (.inl (yl6.1, yl6.2.1, yl6.2.2.1, yl6.2.2.2.1, yl6.2.2.2.2.1, x0, yl6.2.2.2.2.2.2.2.1, yl6.2.2.2.2.2.2.2.2.1, yl6.2.2.2.2.2.2.2.2.2.1, yl6.2.2.2.2.2.2.2.2.2.2.1, yl6.2.2.2.2.2.2.2.2.2.2.2.1, yl6.2.2.2.2.2.2.2.2.2.2.2.2.1, yl6.2.2.2.2.2.2.2.2.2.2.2.2.2.1, yl6.2.2.2.2.2.2.2.2.2.2.2.2.2.2.1, yl6.2.2.2.2.2.2.2.2.2.2.2.2.2.2.2.1, yl6.2.2.2.2.2.2.2.2.2.2.2.2.2.2.2.2.1, yl6.2.2.2.2.2.2.2.2.2.2.2.2.2.2.2.2.2.1, yl6.2.2.2.2.2.2.2.2.2.2.2.2.2.2.2.2.2.2.1, yl6.2.2.2.2.2.2.2.2.2.2.2.2.2.2.2.2.2.2.2.1, yl6.2.2.2.2.2.2.2.2.2.2.2.2.2.2.2.2.2.2.2.2.1, yl6.2.2.2.2.2.2.2.2.2.2.2.2.2.2.2.2.2.2.2.2.2.1, yl6.2.2.2.2.2.2.2.2.2.2.2.2.2.2.2.2.2.2.2.2.2.2.1, yl6.2.2.2.2.2.2.2.2.2.2.2.2.2.2.2.2.2.2.2.2.2.2.2.1, yl6.2.2.2.2.2.2.2.2.2.2.2.2.2.2.2.2.2.2.2.2.2.2.2.2.1, (Go.IntKind.wrap (Go.IntKind.i64 ) (yl6.2.2.2.2.2.2.2.2.2.2.2.2.2.2.2.2.2.2.2.2.2.2.2.2.2.1 + 1)), yl6.2.2.2.2.2.2.2.2.2.2.2.2.2.2.2.2.2.2.2.2.2.2.2.2.2.2.1, yl6.2.2.2.2.2.2.2.2.2.2.2.2.2.2.2.2.2.2.2.2.2.2.2.2.2.2.2.1, yl6.2.2.2.2.2.2.2.2.2.2.2.2.2.2.2.2.2.2.2.2.2.2.2.2.2.2.2.2.1, yl6.2.2.2.2.2.2.2.2.2.2.2.2.2.2.2.2.2.2.2.2.2.2.2.2.2.2.2.2.2.1, yl6.2.2.2.2.2.2.2.2.2.2.2.2.2.2.2.2.2.2.2.2.2.2.2.2.2.2.2.2.2.2.1, yl6.2.2.2.2.2.2.2.2.2.2.2.2.2.2.2.2.2.2.2.2.2.2.2.2.2.2.2.2.2.2.2.1, yl6.2.2.2.2.2.2.2.2.2.2.2.2.2.2.2.2.2.2.2.2.2.2.2.2.2.2.2.2.2.2.2.2.1, yl6.2.2.2.2.2.2.2.2.2.2.2.2.2.2.2.2.2.2.2.2.2.2.2.2.2.2.2.2.2.2.2.2.2.1, yl6.2.2.2.2.2.2.2.2.2.2.2.2.2.2.2.2.2.2.2.2.2.2.2.2.2.2.2.2.2.2.2.2.2.2.1, yl6.2.2.2.2.2.2.2.2.2.2.2.2.2.2.2.2.2.2.2.2.2.2.2.2.2.2.2.2.2.2.2.2.2.2.2.1, yl6.2.2.2.2.2.2.2.2.2.2.2.2.2.2.2.2.2.2.2.2.2.2.2.2.2.2.2.2.2.2.2.2.2.2.2.2.1, yl6.2.2.2.2.2.2.2.2.2.2.2.2.2.2.2.2.2.2.2.2.2.2.2.2.2.2.2.2.2.2.2.2.2.2.2.2.2.1, yl6.2.2.2.2.2.2.2.2.2.2.2.2.2.2.2.2.2.2.2.2.2.2.2.2.2.2.2.2.2.2.2.2.2.2.2.2.2.2.1, yl6.2.2.2.2.2.2.2.2.2.2.2.2.2.2.2.2.2.2.2.2.2.2.2.2.2.2.2.2.2.2.2.2.2.2.2.2.2.2.2.1, yl6.2.2.2.2.2.2.2.2.2.2.2.2.2.2.2.2.2.2.2.2.2.2.2.2.2.2.2.2.2.2.2.2.2.2.2.2.2.2.2.2.1, yl6.2.2.2.2.2.2.2.2.2.2.2.2.2.2.2.2.2.2.2.2.2.2.2.2.2.2.2.2.2.2.2.2.2.2.2.2.2.2.2.2.2.1, yl6.2.2.2.2.2.2.2.2.2.2.2.2.2.2.2.2.2.2.2.2.2.2.2.2.2.2.2.2.2.2.2.2.2.2.2.2.2.2.2.2.2.2.1, yl6.2.2.2.2.2.2.2.2.2.2.2.2.2.2.2.2.2.2.2.2.2.2.2.2.2.2.2.2.2.2.2.2.2.2.2.2.2.2.2.2.2.2.2.1, yl6.2.2.2.2.2.2.2.2.2.2.2.2.2.2.2.2.2.2.2.2.2.2.2.2.2.2.2.2.2.2.2.2.2.2.2.2.2.2.2.2.2.2.2.2.1, yl6.2.2.2.2.2.2.2.2.2.2.2.2.2.2.2.2.2.2.2.2.2.2.2.2.2.2.2.2.2.2.2.2.2.2.2.2.2.2.2.2.2.2.2.2.2.1, yl6.2.2.2.2.2.2.2.2.2.2.2.2.2.2.2.2.2.2.2.2.2.2.2.2.2.2.2.2.2.2.2.2.2.2.2.2.2.2.2.2.2.2.2.2.2.2.1, yl6.2.2.2.2.2.2.2.2.2.2.2.2.2.2.2.2.2.2.2.2.2.2.2.2.2.2.2.2.2.2.2.2.2.2.2.2.2.2.2.2.2.2.2.2.2.2.2))) (
      some (.inl (yl6.1, yl6.2.1, yl6.2.2.1, yl6.2.2.2.1, yl6.2.2.2.2.1, x0, yl6.2.2.2.2.2.2.2.1, yl6.2.2.2.2.2.2.2.2.1, yl6.2.2.2.2.2.2.2.2.2.1, yl6.2.2.2.2.2.2.2.2.2.2.1, yl6.2.2.2.2.2.2.2.2.2.2.2.1, yl6.2.2.2.2.2.2.2.2.2.2.2.2.1, yl6.2.2.2.2.2.2.2.2.2.2.2.2.2.1, yl6.2.2.2.2.2.2.2.2.2.2.2.2.2.2.1, yl6.2.2.2.2.2.2.2.2.2.2.2.2.2.2.2.1, yl6.2.2.2.2.2.2.2.2.2.2.2.2.2.2.2.2.1, yl6.2.2.2.2.2.2.2.2.2.2.2.2.2.2.2.2.2.1, yl6.2.2.2.2.2.2.2.2.2.2.2.2.2.2.2.2.2.2.1, yl6.2.2.2.2.2.2.2.2.2.2.2.2.2.2.2.2.2.2.2.1, yl6.2.2.2.2.2.2.2.2.2.2.2.2.2.2.2.2.2.2.2.2.1, yl6.2.2.2.2.2.2.2.2.2.2.2.2.2.2.2.2.2.2.2.2.2.1, yl6.2.2.2.2.2.2.2.2.2.2.2.2.2.2.2.2.2.2.2.2.2.2.1, yl6.2.2.2.2.2.2.2.2.2.2.2.2.2.2.2.2.2.2.2.2.2.2.2.1, yl6.2.2.2.2.2.2.2.2.2.2.2.2.2.2.2.2.2.2.2.2.2.2.2.2.1, yl6.2.2.2.2.2.2.2.2.2.2.2.2.2.2.2.2.2.2.2.2.2.2.2.2.2.1, yl6.2.2.2.2.2.2.2.2.2.2.2.2.2.2.2.2.2.2.2.2.2.2.2.2.2.2.1, yl6.2.2.2.2.2.2.2.2.2.2.2.2.2.2.2.2.2.2.2.2.2.2.2.2.2.2.2.1, yl6.2.2.2.2.2.2.2.2.2.2.2.2.2.2.2.2.2.2.2.2.2.2.2.2.2.2.2.2.1, yl6.2.2.2.2.2.2.2.2.2.2.2.2.2.2.2.2.2.2.2.2.2.2.2.2.2.2.2.2.2.1, yl6.2.2.2.2.2.2.2.2.2.2.2.2.2.2.2.2.2.2.2.2.2.2.2.2.2.2.2.2.2.2.1, yl6.2.2.2.2.2.2.2.2.2.2.2.2.2.2.2.2.2.2.2.2.2.2.2.2.2.2.2.2.2.2.2.1, yl6.2.2.2.2.2.2.2.2.2.2.2.2.2.2.2.2.2.2.2.2.2.2.2.2.2.2.2.2.2.2.2.2.1, yl6.2.2.2.2.2.2.2.2.2.2.2.2.2.2.2.2.2.2.2.2.2.2.2.2.2.2.2.2.2.2.2.2.2.1, yl6.2.2.2.2.2.2.2.2.2.2.2.2.2.2.2.2.2.2.2.2.2.2.2.2.2.2.2.2.2.2.2.2.2.2.1, yl6.2.2.2.2.2.2.2.2.2.2.2.2.2.2.2.2.2.2.2.2.2.2.2.2.2.2.2.2.2.2.2.2.2.2.2.1, yl6.2.2.2.2.2.2.2.2.2.2.2.2.2.2.2.2.2.2.2.2.2.2.2.2.2.2.2.2.2.2.2.2.2.2.2.2.1, yl6.2.2.2.2.2.2.2.2.2.2.2.2.2.2.2.2.2.2.2.2.2.2.2.2.2.2.2.2.2.2.2.2.2.2.2.2.2.1, yl6.2.2.2.2.2.2.2.2.2.2.2.2.2.2.2.2.2.2.2.2.2.2.2.2.2.2.2.2.2.2.2.2.2.2.2.2.2.2.1, yl6.2.2.2.2.2.2.2.2.2.2.2.2.2.2.2.2.2.2.2.2.2.2.2.2.2.2.2.2.2.2.2.2.2.2.2.2.2.2.2.1, yl6.2.2.2.2.2.2.2.2.2.2.2.2.2.2.2.2.2.2.2.2.2.2.2.2.2.2.2.2.2.2.2.2.2.2.2.2.2.2.2.2.1, yl6.2.2.2.2.2.2.2.2.2.2.2.2.2.2.2.2.2.2.2.2.2.2.2.2.2.2.2.2.2.2.2.2.2.2.2.2.2.2.2.2.2.1, yl6.2.2.2.2.2.2.2.2.2.2.2.2.2.2.2.2.2.2.2.2.2.2.2.2.2.2.2.2.2.2.2.2.2.2.2.2.2.2.2.2.2.2.1, yl6.2.2.2.2.2.2.2.2.2.2.2.2.2.2.2.2.2.2.2.2.2.2.2.2.2.2.2.2.2.2.2.2.2.2.2.2.2.2.2.2.2.2.2.1, yl6.2.2.2.2.2.2.2.2.2.2.2.2.2.2.2.2.2.2.2.2.2.2.2.2.2.2.2.2.2.2.2.2.2.2.2.2.2.2.2.2.2.2.2.2.1, yl6.2.2.2.2.2.2.2.2.2.2.2.2.2.2.2.2.2.2.2.2.2.2.2.2.2.2.2.2.2.2.2.2.2.2.2.2.2.2.2.2.2.2.2.2.2.1, yl6.2.2.2.2.2.2.2.2.2.2.2.2.2.2.2.2.2.2.2.2.2.2.2.2.2.2.2.2.2.2.2.2.2.2.2.2.2.2.2.2.2.2.2.2.2.2.1, yl6.2.2.2.2.2.2.2.2.2.2.2.2.2.2.2.2.2.2.2.2.2.2.2.2.2.2.2.2.2.2.2.2.2.2.2.2.2.2.2.2.2.2.2.2.2.2.2))))) (
   some (.inr (.inr (v2, v49, v50, b256_0, b256_1, b320_0, b320_1, b512_0, b512_1, b512_2, b512_3, b512_5, b512_6, b512_7, b576_0, b576_1, b576_2, b576_3, b576_5, b576_6, b576_7, b640_0, b640_1, b640_2, b640_3, b768_0, b768_1, b768_2, b768_3, r3072, r268, r332, r590))))
noncomputable def l2 (x : Int × Int × Int × Int × Int × Int × Int × Int × Int × Int × Int × Int × Int × Int × Int × Int × Int × Int × Int × Int × Int × Int × Int × Int × Int × Int × Bool × Int × Int × Int × Bool × Int × Int × Int × Int × Int × Int × Int × Int × Int × Int × Int × (List S58) × (List Int) × (List Int) × (List Int) × (List Int)) : Option ((Int × Int × Int × Int × Int × Int × Int × (List Int)) ⊕ (Int × Int × Int × Int × Int × Int × Int × Int × Int × Int × Int × Int × Int × Int × Int × Int × Int × Int × Int × Int × Int × Bool × Int × Int × Int × Bool × Int × Int × Int × (List S58) × (List Int) × (List Int) × (List Int))) := lim l2.b x
theorem l2.eq : ∀ x, l2.b x = roundX (mkE tab es 254 [(4, some (loopO 4 (cutOf l4.A l4.c) (cutsOf l4.xs l4.y) l4)), (6, some (loopO 6 (cutOf l6.A l6.c) (cutsOf l6.xs l6.y) l6))] []) (loopAt 2 code) (cutOf l2.A l2.c) (cutsOf l2.xs l2.y) x := fun x => by kernel_rfl
theorem l2.owed {R : Type} : owed (mkE (R := R) tab es 254 [(4, some (loopO 4 (cutOf l4.A l4.c) (cutsOf l4.xs l4.y) l4)), (6, some (loopO 6 (cutOf l6.A l6.c) (cutsOf l6.xs l6.y) l6))] []) (loopAt 2 code) = [((.block 4 (.loop (loopAt 4 code))), (loopO (R := _) 4 (cutOf l4.A l4.c) (cutsOf l4.xs l4.y) l4)), ((.block 6 (.loop (loopAt 6 code))), (loopO (R := _) 6 (cutOf l6.A l6.c) (cutsOf l6.xs l6.y) l6))] := by kernel_rfl
theorem l2.ok (w0 : World) (M : Own) (h : Pinned M []) {R : Type} : SoundO prog w0 M 254 (.block 2 (.loop (loopAt 2 code))) (loopO (R := R) 2 (cutOf l2.A l2.c) (cutsOf l2.xs l2.y) l2) :=
  loop_ok tabOk uniOk mixed l2.eq (h.sub rfl) (h.sub rfl) fun x hx => by rw [l2.owed] at hx; rcases List.mem_cons.1 hx with rfl | hx; exact l4.ok w0 M h; rcases List.mem_cons.1 hx with rfl | hx; exact l6.ok w0 M h; exact absurd hx List.not_mem_nil

def l0.A : Ann := ⟨[(2, .sc), (4, .box 5000256 0), (5, .box 5000320 0), (8, .box 5000512 0), (9, .box 5000576 0), (10, .box 5000640 0), (48, .slc 5003072 []), (49, .sc), (50, .sc)], [(5000256, 25, [.sc, .sc, .slc 5000268 []]), (5000320, 25, [.sc, .sc, .slc 5000332 []]), (5000512, 34, [.sc, .sc, .sc, .sc, .nil, .sc, .sc, .sc]), (5000576, 34, [.sc, .sc, .sc, .sc, .slc 5000590 [], .sc, .sc, .sc]), (5000640, 59, [.sc, .sc, .sc, .sc])], [(5003072, false, 2), (5000268, false, 1), (5000332, false, 1), (5000590, true, 1)], []⟩
def l0.c : Cod uni (Int × Int × Int × Int × Int × Int × Int × Int × Int × Int × Int × Int × Int × Int × Int × Int × Int × Int × Int × Int × Int × Bool × Int × Int × Int × (List S58) × (List Int) × (List Int) × (List Int)) := (codC (iInt .i64) (codC (iInt .i64) (codC (iInt .i64) (codC (iInt .i64) (codC (iInt .i64) (codC (iInt .i64) (codC (iInt .i64) (codC (iInt .i64) (codC (iInt .i64) (codC (iInt .i64) (codC (iInt .i64) (codC (iInt .i64) (codC (iInt .i64) (codC (iInt .i64) (codC (iInt .i64) (codC (iInt .i64) (codC (iInt .i64) (codC (iInt .i64) (codC (iInt .i64) (codC (iInt .i64) (codC (iInt .i64) (codC iBool (codC (iInt .i64) (codC (iInt .i64) (codC (iInt .i64) (codC (iRow 2) (codC (iRow 1) (codC (iRow 1) (cod1 (iRow 1))))))))))))))))))))))))))))))
def l0.xs : List (AExit × Ann) := [(.ret, ⟨[(8, .box 5000512 0)], [(5000512, 34, [.sc, .sc, .sc, .sc, .slc 5000526 [], .sc, .sc, .sc])], [(5000526, true, 1)], []⟩), ((.exit 0), ⟨[(8, .box 5000512 0), (9, .box 5000576 0)], [(5000512, 34, [.sc, .sc, .sc, .sc, .nil, .sc, .sc, .sc]), (5000576, 34, [.sc, .sc, .sc, .sc, .slc 5000590 [], .sc, .sc, .sc])], [(5000590, true, 1)], []⟩)]
def l0.y : Coy uni ((Int × Int × Int × Int × Int × Int × Int × (List Int)) ⊕ (Int × Int × Int × Int × Int × Int × Int × Int × Int × Int × Int × Int × Int × Int × (List Int))) := (coyS (codC (iInt .i64) (codC (iInt .i64) (codC (iInt .i64) (codC (iInt .i64) (codC (iInt .i64) (codC (iInt .i64) (codC (iInt .i64) (cod1 (iRow 1))))))))) (coy1 (codC (iInt .i64) (codC (iInt .i64) (codC (iInt .i64) (codC (iInt .i64) (codC (iInt .i64) (codC (iInt .i64) (codC (iInt .i64) (codC (iInt .i64) (codC (iInt .i64) (codC (iInt .i64) (codC (iInt .i64) (codC (iInt .i64) (codC (iInt .i64) (codC (iInt .i64) (cod1 (iRow 1))))))))))))))))))
noncomputable def l0.b : Int × Int × Int × Int × Int × Int × Int × Int × Int × Int × Int × Int × Int × Int × Int × Int × Int × Int × Int × Int × Int × Bool × Int × Int × Int × (List S58) × (List Int) × (List Int) × (List Int) → Option ((Int × Int × Int × Int × Int × Int × Int × Int × Int × Int × Int × Int × Int × Int × Int × Int × Int × Int × Int × Int × Int × Bool × Int × Int × Int × (List S58) × (List Int) × (List Int) × (List Int)) ⊕ ((Int × Int × Int × Int × Int × Int × Int × (List Int)) ⊕ (Int × Int × Int × Int × Int × Int × Int × Int × Int × Int × Int × Int × Int × Int × (List Int))))
  | (v2, v49, v50, b256_0, b256_1, b320_0, b320_1, b512_0, b512_1, b512_2, b512_3, b512_5, b512_6, b512_7, b576_0, b576_1, b576_2, b576_3, b576_5, b576_6, b576_7, b640_0, b640_1, b640_2, b640_3, r3072, r268, r332, r590) =>
  cond (decide (v50 < v49)) (
   cond ((decide (0 ≤ v50)) && (decide (v50 < ((List.length r3072) : Int)))) (
    (F35.F (b576_2, (b576_3, r590))).bind fun y35 =>
    let x3 := (List.getD r3072 (Int.toNat v50) z58)
    cond ((((((decide (x3.f1 < 0)) || (decide (x3.f1 ≥ b256_0))) || (decide (x3.f2 < 0))) || (decide (x3.f2 ≥ b256_1))) || (decide (x3.f3 < 0))) || (decide (x3.f3 > 24))) (
     (F36.F (5, (v50, (b576_0, (b576_1, (y35.1, (y35.2.1, (y35.2.2, (b576_5, (b576_6, b576_7)))))))))).bind fun y36 =>
     some (.inr (.inl (y36.1.1, y36.1.2.1, y36.1.2.2.1, y36.1.2.2.2.1, y36.1.2.2.2.2.1, y36.1.2.2.2.2.2.1, y36.1.2.2.2.2.2.2, y35.2.2)))) (
     let x0 := (Go.IntKind.wrap (Go.IntKind.i64 ) (x3.f1 - b640_1))
     (F37.F x0).bind fun y37 =>
     let x1 := (Go.IntKind.wrap (Go.IntKind.i64 ) (x3.f2 - b640_2))
     (F37.F x1).bind fun y37x2 =>
     let x2 := (Go.IntKind.wrap (Go.IntKind.i64 ) (x3.f3 - b640_3))
     (F37.F x2).bind fun y37x3 =>
     (F38.F x0).bind fun y38 =>
     (F38.F x1).bind fun y38x2 =>
     (F38.F x2).bind fun y38x3 =>
     (F38.F y37).bind fun y38x4 =>
     (F38.F y37x2).bind fun y38x5 =>
     (F38.F y37x3).bind fun y38x6 =>
     cond (decide ((Go.IntKind.wrap (Go.IntKind.i64 ) ((Go.IntKind.wrap (Go.IntKind.i64 ) (y38x4 + y38x5)) + y38x6)) > 1)) (
      (F36.F (13, (v50, (b576_0, (b576_1, (y35.1, (y35.2.1, (y35.2.2, (b576_5, (b576_6, b576_7)))))))))).bind fun y36 =>
      some (.inr (.inl (y36.1.1, y36.1.2.1, y36.1.2.2.1, y36.1.2.2.2.1, y36.1.2.2.2.2.1, y36.1.2.2.2.2.2.1, y36.1.2.2.2.2.2.2, y35.2.2)))) (
      (l2 (v2, y37, y37x2, y37x3, (Go.IntKind.wrap (Go.IntKind.i64 ) ((Go.IntKind.wrap (Go.IntKind.i64 ) (y38 + y38x2)) + y38x3)), 1, v49, v50, b256_0, b256_1, b320_0, b320_1, b512_0, b512_1, b512_2, b512_3, b512_5, b512_6, b512_7, b576_0, b576_1, b576_2, b576_3, b576_5, b576_6, b576_7, b640_0, b640_1, b640_2, b640_3, x3.f0, x3.f1, x3.f2, x3.f3, v50, b576_0, b576_1, y35.1, y35.2.1, b576_5, b576_6, b576_7, r3072, r268, r332, r590, y35.2.2)).bind fun q => match q with
      | (.inl yl2) =>
       some (.inr (.inl (yl2.1, yl2.2.1, yl2.2.2.1, yl2.2.2.2.1, yl2.2.2.2.2.1, yl2.2.2.2.2.2.1, yl2.2.2.2.2.2.2.1, yl2.2.2.2.2.2.2.2)))
      | (.inr yl2) =>
       some (.inl (yl2.1, yl2.2.1, (Go.IntKind.wrap (Go.IntKind.i64 ) (yl2.2.2.1 + 1)), yl2.2.2.2.1, yl2.2.2.2.2.1, yl2.2.2.2.2.2.1, yl2.2.2.2.2.2.2.1, yl2.2.2.2.2.2.2.2.1, yl2.2.2.2.2.2.2.2.2.1, yl2.2.2.2.2.2.2.2.2.2.1, yl2.2.2.2.2.2.2.2.2.2.2.1, yl2.2.2.2.2.2.2.2.2.2.2.2.1, yl2.2.2.2.2.2.2.2.2.2.2.2.2.1, yl2.2.2.2.2.2.2.2.2.2.2.2.2.2.1, yl2.2.2.2.2.2.2.2.2.2.2.2.2.2.2.1, yl2.2.2.2.2.2.2.2.2.2.2.2.2.2.2.2.1, yl2.2.2.2.2.2.2.2.2.2.2.2.2.2.2.2.2.1, yl2.2.2.2.2.2.2.2.2.2.2.2.2.2.2.2.2.2.1, yl2.2.2.2.2.2.2.2.2.2.2.2.2.2.2.2.2.2.2.1, yl2.2.2.2.2.2.2.2.2.2.2.2.2.2.2.2.2.2.2.2.1, yl2.2.2.2.2.2.2.2.2.2.2.2.2.2.2.2.2.2.2.2.2.1, yl2.2.2.2.2.2.2.2.2.2.2.2.2.2.2.2.2.2.2.2.2.2.2.2.2.2.1, yl2.2.2.2.2.2.2.2.2.2.2.2.2.2.2.2.2.2.2.2.2.2.2.2.2.2.2.1, yl2.2.2.2.2.2.2.2.2.2.2.2.2.2.2.2.2.2.2.2.2.2.2.2.2.2.2.2.1, yl2.2.2.2.2.2.2.2.2.2.2.2.2.2.2.2.2.2.2.2.2.2.2.2.2.2.2.2.2.1, yl2.2.2.2.2.2.2.2.2.2.2.2.2.2.2.2.2.2.2.2.2.2.2.2.2.2.2.2.2.2.1, yl2.2.2.2.2.2.2.2.2.2.2.2.2.2.2.2.2.2.2.2.2.2.2.2.2.2.2.2.2.2.2.1, yl2.2.2.2.2.2.2.2.2.2.2.2.2.2.2.2.2.2.2.2.2.2.2.2.2.2.2.2.2.2.2.2.1, yl2.2.2.2.2.2.2.2.2.2.2.2.2.2.2.2.2.2.2.2.2.2.2.2.2.2.2.2.2.2.2.2.2))))) none) (
   some (.inr (.inr (b512_0, b512_1, b512_2, b512_3, b512_5, b512_6, b512_7, b576_0, b576_1, b576_2, b576_3, b576_5, b576_6, b576_7, r590))))
noncomputable def l0 (x : Int × Int × Int × Int × Int × Int × Int × Int × Int × Int × Int × Int × Int × Int × Int × Int × Int × Int × Int × Int × Int × Bool × Int × Int × Int × (List S58) × (List Int) × (List Int) × (List Int)) : Option ((Int × Int × Int × Int × Int × Int × Int × (List Int)) ⊕ (Int × Int × Int × Int × Int × Int × Int × Int × Int × Int × Int × Int × Int × Int × (List Int))) := lim l0.b x
theorem l0.eq : ∀ x, l0.b x = roundX (mkE tab es 254 [(2, some (loopO 2 (cutOf l2.A l2.c) (cutsOf l2.xs l2.y) l2))] []) (loopAt 0 code) (cutOf l0.A l0.c) (cutsOf l0.xs l0.y) x := fun x => by kernel_rfl
theorem l0.owed {R : Type} : owed (mkE (R := R) tab es 254 [(2, some (loopO 2 (cutOf l2.A l2.c) (cutsOf l2.xs l2.y) l2))] []) (loopAt 0 code) = [((.block 2 (.loop (loopAt 2 code))), (loopO (R := _) 2 (cutOf l2.A l2.c) (cutsOf l2.xs l2.y) l2))] := by kernel_rfl
theorem l0.ok (w0 : World) (M : Own) (h : Pinned M []) {R : Type} : SoundO prog w0 M 254 (.block 0 (.loop (loopAt 0 code))) (loopO (R := R) 0 (cutOf l0.A l0.c) (cutsOf l0.xs l0.y) l0) :=
  loop_ok tabOk uniOk mixed l0.eq (h.sub rfl) (h.sub rfl) fun x hx => by rw [l0.owed] at hx; rcases List.mem_cons.1 hx with rfl | hx; exact l2.ok w0 M h; exact absurd hx List.not_mem_nil

noncomputable def F : ((Int × Int × (List Int)) × (Int × Int × (List Int)) × Int × (List S58)) → Option ((Int × Int × Int × Int × (List Int) × Int × Int × Int))
  | ((p0_0, p0_1, p0_2), (p1_0, p1_1, p1_2), p2, p3) =>
  let x0 := ((List.length p3) : Int)
  cond (decide (x0 > 4096)) (
   some (2, (0, (0, (0, (([] : List Int), (0, (0, 0)))))))) (
   (F28.F ((p0_0, (p0_1, p0_2)), ((p1_0, (p1_1, p1_2)), p2))).bind fun y28 =>
   cond (!y28) (
    some (1, (0, (0, (0, (([] : List Int), (0, (0, 0)))))))) (
    cond (decide (x0 > 2000)) (
     some (10, (0, (0, (0, (([] : List Int), (0, (0, 0)))))))) (
     (F35.F (p0_0, (p0_1, p0_2))).bind fun y35 =>
     (l0 (p2, x0, 0, p0_0, p0_1, p1_0, p1_1, 0, 0, 0, 0, 0, 0, 0, 0, 0, y35.1, y35.2.1, 0, 0, 0, false, 0, 0, 24, p3, p0_2, p1_2, y35.2.2)).bind fun q => match q with
     | (.inl yl0) =>
      some (yl0.1, (yl0.2.1, (yl0.2.2.1, (yl0.2.2.2.1, (yl0.2.2.2.2.2.2.2, (yl0.2.2.2.2.1, (yl0.2.2.2.2.2.1, yl0.2.2.2.2.2.2.1)))))))
     | (.inr yl0) =>
      some (yl0.2.2.2.2.2.2.2.1, (yl0.2.2.2.2.2.2.2.2.1, (yl0.2.2.2.2.2.2.2.2.2.1, (yl0.2.2.2.2.2.2.2.2.2.2.1, (yl0.2.2.2.2.2.2.2.2.2.2.2.2.2.2, (yl0.2.2.2.2.2.2.2.2.2.2.2.1, (yl0.2.2.2.2.2.2.2.2.2.2.2.2.1, yl0.2.2.2.2.2.2.2.2.2.2.2.2.2.1))))))))))
theorem F.eq : ∀ x, F x = runF (mkE tab es 254 [(0, some (loopO 0 (cutOf l0.A l0.c) (cutsOf l0.xs l0.y) l0))] []) code [.agg [.sc, .sc, .row 1 0], .agg [.sc, .sc, .row 1 0], .sc, .row 2 0] [.agg [.sc, .sc, .sc, .sc, .row 1, .sc, .sc, .sc]] [.cell 8 34] (Coz.dec cr) (cp.enc x) := fun x => by kernel_rfl
theorem F.owed : owed (mkE (R := (Int × Int × Int × Int × (List Int) × Int × Int × Int)) tab es 254 [(0, some (loopO 0 (cutOf l0.A l0.c) (cutsOf l0.xs l0.y) l0))] []) code = [((.block 0 (.loop (loopAt 0 code))), (loopO (R := _) 0 (cutOf l0.A l0.c) (cutsOf l0.xs l0.y) l0))] := by kernel_rfl
theorem con : ∀ x y, F x = some y → Con prog 10 [.agg [.sc, .sc, .row 1 0], .agg [.sc, .sc, .row 1 0], .sc, .row 2 0] [.agg [.sc, .sc, .sc, .sc, .row 1, .sc, .sc, .sc]] (cp.enc x) (cr.enc y).1 (cr.enc y).2 :=
  func_ok (c := code) (n := 254) (pf := [.agg [.sc, .sc, .row 1 0], .agg [.sc, .sc, .row 1 0], .sc, .row 2 0]) (res := [.cell 8 34]) tabOk uniOk mixed get (by kernel_rfl) (by kernel_rfl) (by kernel_rfl) (by decide) F.eq fun w0 M h x hx => by rw [F.owed] at hx; rcases List.mem_cons.1 hx with rfl | hx; exact l0.ok w0 M h; exact absurd hx List.not_mem_nil
noncomputable def ent : Ent prog uni := Ent.of 10 [.agg [.sc, .sc, .row 1 0], .agg [.sc, .sc, .row 1 0], .sc, .row 2 0] [.agg [.sc, .sc, .sc, .sc, .row 1, .sc, .sc, .sc]] cp cr F con fun args w => enters_of get (by kernel_rfl) rfl args w
end Go.Proofs.Ytnaieiillgncjaa.AX.F10

/- The function 46 of the program in the small machine. No conditions. -/
namespace Go.Proofs.Ytnaieiillgncjaa.AX.F46
open Go Go.Proofs.Try
noncomputable def code : Code := bodyOf f46
abbrev Y : Type := Bool
def cp : Cod uni ((List Int) × (List Int)) := (codC (iRow 1) (cod1 (iRow 1)))
def cr : Coz uni Bool := (cozR (cod1 iBool) (codD (codD cod0)))
noncomputable def es : List (Ent prog uni) := []
theorem get : prog.funcs[46]? = some f46 := by kernel_rfl

def l0.A : Ann := ⟨[(0, .slc 5000000 []), (1, .slc 5000064 []), (5, .sc)], [], [(5000000, false, 1), (5000064, false, 1)], []⟩
def l0.c : Cod uni (Int × (List Int) × (List Int)) := (codC (iInt .i64) (codC (iRow 1) (cod1 (iRow 1))))
def l0.xs : List (AExit × Ann) := [(.ret, ⟨[(4, .sc)], [], [], []⟩), ((.exit 0), ⟨[], [], [], []⟩)]
def l0.y : Coy uni (Bool ⊕ Unit) := (coyS (cod1 iBool) (coy1 cod0))
noncomputable def l0.b : Int × (List Int) × (List Int) → Option ((Int × (List Int) × (List Int)) ⊕ (Bool ⊕ Unit))
  | (v5, r0, r64) =>
  let x0 := (decide (v5 < ((List.length r0) : Int)))
  cond x0 (
   cond ((decide (0 ≤ v5)) && x0) (
    cond ((decide (0 ≤ v5)) && (decide (v5 < ((List.length r64) : Int)))) (
     cond ((List.getD r0 (Int.toNat v5) 0) != (List.getD r64 (Int.toNat v5) 0)) (
      some (.inr (.inl false))) (
      some (.inl ((Go.IntKind.wrap (Go.IntKind.i64 ) (v5 + 1)), r0, r64)))) none) none) (
   some (.inr (.inr ())))
noncomputable def l0 (x : Int × (List Int) × (List Int)) : Option (Bool ⊕ Unit) := lim l0.b x
theorem l0.eq : ∀ x, l0.b x = roundX (mkE tab es 26 [] []) (loopAt 0 code) (cutOf l0.A l0.c) (cutsOf l0.xs l0.y) x := fun x => by kernel_rfl
theorem l0.owed {R : Type} : owed (mkE (R := R) tab es 26 [] []) (loopAt 0 code) = [] := by kernel_rfl
theorem l0.ok (w0 : World) (M : Own) (h : Pinned M []) {R : Type} : SoundO prog w0 M 26 (.block 0 (.loop (loopAt 0 code))) (loopO (R := R) 0 (cutOf l0.A l0.c) (cutsOf l0.xs l0.y) l0) :=
  loop_ok tabOk uniOk mixed l0.eq (h.sub rfl) (h.sub rfl) fun x hx => by rw [l0.owed] at hx; exact absurd hx List.not_mem_nil

noncomputable def F : ((List Int) × (List Int)) → Option (Bool)
  | (p0, p1) =>
  cond (((List.length p0) : Int) != ((List.length p1) : Int)) (
   some false) (
   (l0 (0, p0, p1)).bind fun q => match q with
   | (.inl yl0) =>
    some yl0
   | (.inr yl0) =>
    some true)
theorem F.eq : ∀ x, F x = runF (mkE tab es 26 [(0, some (loopO 0 (cutOf l0.A l0.c) (cutsOf l0.xs l0.y) l0))] []) code [.row 1 0, .row 1 0] [.sc] [.tmp 4] (Coz.dec cr) (cp.enc x) := fun x => by kernel_rfl
theorem F.owed : owed (mkE (R := Bool) tab es 26 [(0, some (loopO 0 (cutOf l0.A l0.c) (cutsOf l0.xs l0.y) l0))] []) code = [((.block 0 (.loop (loopAt 0 code))), (loopO (R := _) 0 (cutOf l0.A l0.c) (cutsOf l0.xs l0.y) l0))] := by kernel_rfl
theorem con : ∀ x y, F x = some y → Con prog 46 [.row 1 0, .row 1 0] [.sc] (cp.enc x) (cr.enc y).1 (cr.enc y).2 :=
  func_ok (c := code) (n := 26) (pf := [.row 1 0, .row 1 0]) (res := [.tmp 4]) tabOk uniOk mixed get (by kernel_rfl) (by kernel_rfl) (by kernel_rfl) (by decide) F.eq fun w0 M h x hx => by rw [F.owed] at hx; rcases List.mem_cons.1 hx with rfl | hx; exact l0.ok w0 M h; exact absurd hx List.not_mem_nil
noncomputable def ent : Ent prog uni := Ent.of 46 [.row 1 0, .row 1 0] [.sc] cp cr F con fun args w => enters_of get (by kernel_rfl) rfl args w
end Go.Proofs.Ytnaieiillgncjaa.AX.F46

/- The function 19 of the program in the small machine. No conditions. -/
namespace Go.Proofs.Ytnaieiillgncjaa.AX.F19
open Go Go.Proofs.Try
noncomputable def code : Code := bodyOf f19
abbrev Y : Type := Bool
def cp : Cod uni ((Int × Int × (List Int)) × (Int × Int × (List Int))) := (codC (iAgg (codC (iInt .i64) (codC (iInt .i64) (cod1 (iRow 1))))) (cod1 (iAgg (codC (iInt .i64) (codC (iInt .i64) (cod1 (iRow 1)))))))
def cr : Coz uni Bool := (cozR (cod1 iBool) (codD (codD cod0)))
noncomputable def es : List (Ent prog uni) := [F46.ent]
theorem get : prog.funcs[19]? = some f19 := by kernel_rfl

noncomputable def F : ((Int × Int × (List Int)) × (Int × Int × (List Int))) → Option (Bool)
  | ((p0_0, p0_1, p0_2), (p1_0, p1_1, p1_2)) =>
  cond (p0_0 != p1_0) (
   some false) (
   cond (p0_1 != p1_1) (
    some false) (
    (F46.F (p0_2, p1_2)).bind fun y46 =>
    cond (!y46) (
     some false) (
     some true)))
theorem F.eq : ∀ x, F x = runF (mkE tab es 21 [] []) code [.agg [.sc, .sc, .row 1 0], .agg [.sc, .sc, .row 1 0]] [.sc] [.tmp 4] (Coz.dec cr) (cp.enc x) := fun x => by kernel_rfl
theorem F.owed : owed (mkE (R := Bool) tab es 21 [] []) code = [] := by kernel_rfl
theorem con : ∀ x y, F x = some y → Con prog 19 [.agg [.sc, .sc, .row 1 0], .agg [.sc, .sc, .row 1 0]] [.sc] (cp.enc x) (cr.enc y).1 (cr.enc y).2 :=
  func_ok (c := code) (n := 21) (pf := [.agg [.sc, .sc, .row 1 0], .agg [.sc, .sc, .row 1 0]]) (res := [.tmp 4]) tabOk uniOk mixed get (by kernel_rfl) (by kernel_rfl) (by kernel_rfl) (by decide) F.eq fun w0 M h x hx => by rw [F.owed] at hx; exact absurd hx List.not_mem_nil
noncomputable def ent : Ent prog uni := Ent.of 19 [.agg [.sc, .sc, .row 1 0], .agg [.sc, .sc, .row 1 0]] [.sc] cp cr F con fun args w => enters_of get (by kernel_rfl) rfl args w
end Go.Proofs.Ytnaieiillgncjaa.AX.F19

/- The function 18 of the program in the small machine. No conditions. -/
namespace Go.Proofs.Ytnaieiillgncjaa.AX.F18
open Go Go.Proofs.Try
noncomputable def code : Code := bodyOf f18
abbrev Y : Type := Bool
def cp : Cod uni ((Int × Int × Int × Int × (List Int) × Int × Int × Int) × (Int × Int × Int × Int × (List Int) × Int × Int × Int)) := (codC (iAgg (codC (iInt .i64) (codC (iInt .i64) (codC (iInt .i64) (codC (iInt .i64) (codC (iRow 1) (codC (iInt .i64) (codC (iInt .i64) (cod1 (iInt .i64)))))))))) (cod1 (iAgg (codC (iInt .i64) (codC (iInt .i64) (codC (iInt .i64) (codC (iInt .i64) (codC (iRow 1) (codC (iInt .i64) (codC (iInt .i64) (cod1 (iInt .i64))))))))))))
def cr : Coz uni Bool := (cozR (cod1 iBool) (codD (codD cod0)))
noncomputable def es : List (Ent prog uni) := [F19.ent]
theorem get : prog.funcs[18]? = some f18 := by kernel_rfl

noncomputable def F : ((Int × Int × Int × Int × (List Int) × Int × Int × Int) × (Int × Int × Int × Int × (List Int) × Int × Int × Int)) → Option (Bool)
  | ((p0_0, p0_1, p0_2, p0_3, p0_4, p0_5, p0_6, p0_7), (p1_0, p1_1, p1_2, p1_3, p1_4, p1_5, p1_6, p1_7)) =>
  cond (p0_0 != p1_0) (
   some false) (
   cond (p0_1 != p1_1) (
    some false) (
    (F19.F ((p0_2, (p0_3, p0_4)), (p1_2, (p1_3, p1_4)))).bind fun y19 =>
    cond (!y19) (
     some false) (
     cond (p0_5 != p1_5) (
      some false) (
      cond (p0_6 != p1_6) (
       some false) (
       cond (p0_7 != p1_7) (
        some false) (
        some true))))))
theorem F.eq : ∀ x, F x = runF (mkE tab es 36 [] []) code [.agg [.sc, .sc, .sc, .sc, .row 1 0, .sc, .sc, .sc], .agg [.sc, .sc, .sc, .sc, .row 1 0, .sc, .sc, .sc]] [.sc] [.tmp 4] (Coz.dec cr) (cp.enc x) := fun x => by kernel_rfl
theorem F.owed : owed (mkE (R := Bool) tab es 36 [] []) code = [] := by kernel_rfl
theorem con : ∀ x y, F x = some y → Con prog 18 [.agg [.sc, .sc, .sc, .sc, .row 1 0, .sc, .sc, .sc], .agg [.sc, .sc, .sc, .sc, .row 1 0, .sc, .sc, .sc]] [.sc] (cp.enc x) (cr.enc y).1 (cr.enc y).2 :=
  func_ok (c := code) (n := 36) (pf := [.agg [.sc, .sc, .sc, .sc, .row 1 0, .sc, .sc, .sc], .agg [.sc, .sc, .sc, .sc, .row 1 0, .sc, .sc, .sc]]) (res := [.tmp 4]) tabOk uniOk mixed get (by kernel_rfl) (by kernel_rfl) (by kernel_rfl) (by decide) F.eq fun w0 M h x hx => by rw [F.owed] at hx; exact absurd hx List.not_mem_nil
noncomputable def ent : Ent prog uni := Ent.of 18 [.agg [.sc, .sc, .sc, .sc, .row 1 0, .sc, .sc, .sc], .agg [.sc, .sc, .sc, .sc, .row 1 0, .sc, .sc, .sc]] [.sc] cp cr F con fun args w => enters_of get (by kernel_rfl) rfl args w
end Go.Proofs.Ytnaieiillgncjaa.AX.F18

/- The function 47 of the program in the small machine. No conditions. -/
namespace Go.Proofs.Ytnaieiillgncjaa.AX.F47
open Go Go.Proofs.Try
noncomputable def code : Code := bodyOf f47
abbrev Y : Type := Bool
def cp : Cod uni ((Bool × Int × Int × Int) × (Bool × Int × Int × Int)) := (codC (iAgg (codC iBool (codC (iInt .i64) (codC (iInt .i64) (cod1 (iInt .i64)))))) (cod1 (iAgg (codC iBool (codC (iInt .i64) (codC (iInt .i64) (cod1 (iInt .i64))))))))
def cr : Coz uni Bool := (cozR (cod1 iBool) (codD (codD cod0)))
noncomputable def es : List (Ent prog uni) := []
theorem get : prog.funcs[47]? = some f47 := by kernel_rfl

noncomputable def F : ((Bool × Int × Int × Int) × (Bool × Int × Int × Int)) → Option (Bool)
  | ((p0_0, p0_1, p0_2, p0_3), (p1_0, p1_1, p1_2, p1_3)) =>
  cond (!(p0_0 == p1_0)) (
   some false) (
   cond (p0_1 != p1_1) (
    some false) (
    cond (p0_2 != p1_2) (
     some false) (
     cond (p0_3 != p1_3) (
      some false) (
      some true))))
theorem F.eq : ∀ x, F x = runF (mkE tab es 25 [] []) code [.agg [.sc, .sc, .sc, .sc], .agg [.sc, .sc, .sc, .sc]] [.sc] [.tmp 4] (Coz.dec cr) (cp.enc x) := fun x => by kernel_rfl
theorem F.owed : owed (mkE (R := Bool) tab es 25 [] []) code = [] := by kernel_rfl
theorem con : ∀ x y, F x = some y → Con prog 47 [.agg [.sc, .sc, .sc, .sc], .agg [.sc, .sc, .sc, .sc]] [.sc] (cp.enc x) (cr.enc y).1 (cr.enc y).2 :=
  func_ok (c := code) (n := 25) (pf := [.agg [.sc, .sc, .sc, .sc], .agg [.sc, .sc, .sc, .sc]]) (res := [.tmp 4]) tabOk uniOk mixed get (by kernel_rfl) (by kernel_rfl) (by kernel_rfl) (by decide) F.eq fun w0 M h x hx => by rw [F.owed] at hx; exact absurd hx List.not_mem_nil
noncomputable def ent : Ent prog uni := Ent.of 47 [.agg [.sc, .sc, .sc, .sc], .agg [.sc, .sc, .sc, .sc]] [.sc] cp cr F con fun args w => enters_of get (by kernel_rfl) rfl args w
end Go.Proofs.Ytnaieiillgncjaa.AX.F47

/- The function 20 of the program in the small machine. No conditions. -/
namespace Go.Proofs.Ytnaieiillgncjaa.AX.F20
open Go Go.Proofs.Try
noncomputable def code : Code := bodyOf f20
abbrev Y : Type := Bool
def cp : Cod uni ((List S58) × (List S58)) := (codC (iRow 2) (cod1 (iRow 2)))
def cr : Coz uni Bool := (cozR (cod1 iBool) (codD (codD cod0)))
noncomputable def es : List (Ent prog uni) := [F47.ent]
theorem get : prog.funcs[20]? = some f20 := by kernel_rfl

def l0.A : Ann := ⟨[(0, .slc 5000000 []), (1, .slc 5000064 []), (5, .sc)], [], [(5000000, false, 2), (5000064, false, 2)], []⟩
def l0.c : Cod uni (Int × (List S58) × (List S58)) := (codC (iInt .i64) (codC (iRow 2) (cod1 (iRow 2))))
def l0.xs : List (AExit × Ann) := [(.ret, ⟨[(4, .sc)], [], [], []⟩), ((.exit 0), ⟨[], [], [], []⟩)]
def l0.y : Coy uni (Bool ⊕ Unit) := (coyS (cod1 iBool) (coy1 cod0))
noncomputable def l0.b : Int × (List S58) × (List S58) → Option ((Int × (List S58) × (List S58)) ⊕ (Bool ⊕ Unit))
  | (v5, r0, r64) =>
  let x0 := (decide (v5 < ((List.length r0) : Int)))
  cond x0 (
   cond ((decide (0 ≤ v5)) && x0) (
    cond ((decide (0 ≤ v5)) && (decide (v5 < ((List.length r64) : Int)))) (
     let x1 := (List.getD r64 (Int.toNat v5) z58)
     let x2 := (List.getD r0 (Int.toNat v5) z58)
     (F47.F ((x2.f0, (x2.f1, (x2.f2, x2.f3))), (x1.f0, (x1.f1, (x1.f2, x1.f3))))).bind fun y47 =>
     cond (!y47) (
      some (.inr (.inl false))) (
      some (.inl ((Go.IntKind.wrap (Go.IntKind.i64 ) (v5 + 1)), r0, r64)))) none) none) (
   some (.inr (.inr ())))
noncomputable def l0 (x : Int × (List S58) × (List S58)) : Option (Bool ⊕ Unit) := lim l0.b x
theorem l0.eq : ∀ x, l0.b x = roundX (mkE tab es 27 [] []) (loopAt 0 code) (cutOf l0.A l0.c) (cutsOf l0.xs l0.y) x := fun x => by kernel_rfl
theorem l0.owed {R : Type} : owed (mkE (R := R) tab es 27 [] []) (loopAt 0 code) = [] := by kernel_rfl
theorem l0.ok (w0 : World) (M : Own) (h : Pinned M []) {R : Type} : SoundO prog w0 M 27 (.block 0 (.loop (loopAt 0 code))) (loopO (R := R) 0 (cutOf l0.A l0.c) (cutsOf l0.xs l0.y) l0) :=
  loop_ok tabOk uniOk mixed l0.eq (h.sub rfl) (h.sub rfl) fun x hx => by rw [l0.owed] at hx; exact absurd hx List.not_mem_nil

noncomputable def F : ((List S58) × (List S58)) → Option (Bool)
  | (p0, p1) =>
  cond (((List.length p0) : Int) != ((List.length p1) : Int)) (
   some false) (
   (l0 (0, p0, p1)).bind fun q => match q with
   | (.inl yl0) =>
    some yl0
   | (.inr yl0) =>
    some true)
theorem F.eq : ∀ x, F x = runF (mkE tab es 27 [(0, some (loopO 0 (cutOf l0.A l0.c) (cutsOf l0.xs l0.y) l0))] []) code [.row 2 0, .row 2 0] [.sc] [.tmp 4] (Coz.dec cr) (cp.enc x) := fun x => by kernel_rfl
theorem F.owed : owed (mkE (R := Bool) tab es 27 [(0, some (loopO 0 (cutOf l0.A l0.c) (cutsOf l0.xs l0.y) l0))] []) code = [((.block 0 (.loop (loopAt 0 code))), (loopO (R := _) 0 (cutOf l0.A l0.c) (cutsOf l0.xs l0.y) l0))] := by kernel_rfl
theorem con : ∀ x y, F x = some y → Con prog 20 [.row 2 0, .row 2 0] [.sc] (cp.enc x) (cr.enc y).1 (cr.enc y).2 :=
  func_ok (c := code) (n := 27) (pf := [.row 2 0, .row 2 0]) (res := [.tmp 4]) tabOk uniOk mixed get (by kernel_rfl) (by kernel_rfl) (by kernel_rfl) (by decide) F.eq fun w0 M h x hx => by rw [F.owed] at hx; rcases List.mem_cons.1 hx with rfl | hx; exact l0.ok w0 M h; exact absurd hx List.not_mem_nil
noncomputable def ent : Ent prog uni := Ent.of 20 [.row 2 0, .row 2 0] [.sc] cp cr F con fun args w => enters_of get (by kernel_rfl) rfl args w
end Go.Proofs.Ytnaieiillgncjaa.AX.F20

/- The function 48 of the program in the small machine. No conditions. -/
namespace Go.Proofs.Ytnaieiillgncjaa.AX.F48
open Go Go.Proofs.Try
noncomputable def code : Code := bodyOf f48
abbrev Y : Type := (Int × ((List Int) × Unit))
def cp : Cod uni ((List Int) × Int) := (codC (iRow 1) (cod1 (iInt .i64)))
def cr : Coz uni (Int × ((List Int) × Unit)) := (cozRM (cod1 (iInt .i64)) (codC (iRow 1) (codD cod0)))
noncomputable def es : List (Ent prog uni) := []
theorem get : prog.funcs[48]? = some f48 := by kernel_rfl

def l0.A : Ann := ⟨[(0, .slc 4194304 []), (1, .sc), (5, .sc)], [], [(4194304, true, 1)], [4194304]⟩
def l0.c : Cod uni (Int × Int × (List Int)) := (codC (iInt .i64) (codC (iInt .i64) (cod1 (iRow 1))))
def l0.xs : List (AExit × Ann) := [((.exit 0), ⟨[(0, .slc 4194304 []), (1, .sc)], [], [(4194304, true, 1)], [4194304]⟩)]
def l0.y : Coy uni ((Int × (List Int))) := (coy1 (codC (iInt .i64) (cod1 (iRow 1))))
noncomputable def l0.b : Int × Int × (List Int) → Option ((Int × Int × (List Int)) ⊕ ((Int × (List Int))))
  | (v1, v5, r94304) =>
  let x0 := (decide (v5 < ((List.length r94304) : Int)))
  cond x0 (
   cond ((decide (0 ≤ v5)) && x0) (
    some (.inl ((Go.IntKind.wrap (Go.IntKind.i64 ) (v1 + 1)), (Go.IntKind.wrap (Go.IntKind.i64 ) (v5 + 1)), (List.set r94304 (Int.toNat v5) v1)))) none) (
   some (.inr (v1, r94304)))
noncomputable def l0 (x : Int × Int × (List Int)) : Option ((Int × (List Int))) := lim l0.b x
theorem l0.eq : ∀ x, l0.b x = roundX (mkE tab es 19 [] []) (loopAt 0 code) (cutOf l0.A l0.c) (cutsOf l0.xs l0.y) x := fun x => by kernel_rfl
theorem l0.owed {R : Type} : owed (mkE (R := R) tab es 19 [] []) (loopAt 0 code) = [] := by kernel_rfl
theorem l0.ok (w0 : World) (M : Own) (h : Pinned M [4194304]) {R : Type} : SoundO prog w0 M 19 (.block 0 (.loop (loopAt 0 code))) (loopO (R := R) 0 (cutOf l0.A l0.c) (cutsOf l0.xs l0.y) l0) :=
  loop_ok tabOk uniOk mixed l0.eq (h.sub rfl) (h.sub rfl) fun x hx => by rw [l0.owed] at hx; exact absurd hx List.not_mem_nil

noncomputable def F : ((List Int) × Int) → Option ((Int × ((List Int) × Unit)))
  | (p0, p1) =>
  (l0 (p1, 0, p0)).bind fun yl0 =>
  some (yl0.1, (yl0.2, ()))
theorem F.eq : ∀ x, F x = runF (mkE tab es 19 [(0, some (loopO 0 (cutOf l0.A l0.c) (cutsOf l0.xs l0.y) l0))] []) code [.row 1 1, .sc] [.sc] [.tmp 4] (Coz.dec cr) (cp.enc x) := fun x => by kernel_rfl
theorem F.owed : owed (mkE (R := (Int × ((List Int) × Unit))) tab es 19 [(0, some (loopO 0 (cutOf l0.A l0.c) (cutsOf l0.xs l0.y) l0))] []) code = [((.block 0 (.loop (loopAt 0 code))), (loopO (R := _) 0 (cutOf l0.A l0.c) (cutsOf l0.xs l0.y) l0))] := by kernel_rfl
theorem con : ∀ x y, F x = some y → Con prog 48 [.row 1 1, .sc] [.sc] (cp.enc x) (cr.enc y).1 (cr.enc y).2 :=
  func_ok (c := code) (n := 19) (pf := [.row 1 1, .sc]) (res := [.tmp 4]) tabOk uniOk mixed get (by kernel_rfl) (by kernel_rfl) (by kernel_rfl) (by decide) F.eq fun w0 M h x hx => by rw [F.owed] at hx; rcases List.mem_cons.1 hx with rfl | hx; exact l0.ok w0 M h; exact absurd hx List.not_mem_nil
noncomputable def ent : Ent prog uni := Ent.of 48 [.row 1 1, .sc] [.sc] cp cr F con fun args w => enters_of get (by kernel_rfl) rfl args w
end Go.Proofs.Ytnaieiillgncjaa.AX.F48

/- The function 21 of the program in the small machine. No conditions. -/
namespace Go.Proofs.Ytnaieiillgncjaa.AX.F21
open Go Go.Proofs.Try
noncomputable def code : Code := bodyOf f21
abbrev Y : Type := (Int × ((List Int) × Unit))
def cp : Cod uni ((Int × Int × (List Int)) × Int) := (codC (iAgg (codC (iInt .i64) (codC (iInt .i64) (cod1 (iRow 1))))) (cod1 (iInt .i64)))
def cr : Coz uni (Int × ((List Int) × Unit)) := (cozRM (cod1 (iInt .i64)) (codC (iAgg (codD (codD (cod1 (iRow 1))))) (codD cod0)))
noncomputable def es : List (Ent prog uni) := [F48.ent]
theorem get : prog.funcs[21]? = some f21 := by kernel_rfl

noncomputable def F : ((Int × Int × (List Int)) × Int) → Option ((Int × ((List Int) × Unit)))
  | ((p0_0, p0_1, p0_2), p1) =>
  (F48.F (p0_2, p1)).bind fun y48 =>
  some (y48.1, (y48.2.1, ()))
theorem F.eq : ∀ x, F x = runF (mkE tab es 10 [] []) code [.agg [.sc, .sc, .row 1 1], .sc] [.sc] [.tmp 4] (Coz.dec cr) (cp.enc x) := fun x => by kernel_rfl
theorem F.owed : owed (mkE (R := (Int × ((List Int) × Unit))) tab es 10 [] []) code = [] := by kernel_rfl
theorem con : ∀ x y, F x = some y → Con prog 21 [.agg [.sc, .sc, .row 1 1], .sc] [.sc] (cp.enc x) (cr.enc y).1 (cr.enc y).2 :=
  func_ok (c := code) (n := 10) (pf := [.agg [.sc, .sc, .row 1 1], .sc]) (res := [.tmp 4]) tabOk uniOk mixed get (by kernel_rfl) (by kernel_rfl) (by kernel_rfl) (by decide) F.eq fun w0 M h x hx => by rw [F.owed] at hx; exact absurd hx List.not_mem_nil
noncomputable def ent : Ent prog uni := Ent.of 21 [.agg [.sc, .sc, .row 1 1], .sc] [.sc] cp cr F con fun args w => enters_of get (by kernel_rfl) rfl args w
end Go.Proofs.Ytnaieiillgncjaa.AX.F21

/- The function 22 of the program in the small machine. No conditions. -/
namespace Go.Proofs.Ytnaieiillgncjaa.AX.F22
open Go Go.Proofs.Try
noncomputable def code : Code := bodyOf f22
abbrev Y : Type := (Int × ((List S58) × Unit))
def cp : Cod uni ((List S58) × Int) := (codC (iRow 2) (cod1 (iInt .i64)))
def cr : Coz uni (Int × ((List S58) × Unit)) := (cozRM (cod1 (iInt .i64)) (codC (iRow 2) (codD cod0)))
noncomputable def es : List (Ent prog uni) := []
theorem get : prog.funcs[22]? = some f22 := by kernel_rfl

def l0.A : Ann := ⟨[(0, .slc 4194304 []), (1, .sc), (5, .sc)], [], [(4194304, true, 2)], [4194304]⟩
def l0.c : Cod uni (Int × Int × (List S58)) := (codC (iInt .i64) (codC (iInt .i64) (cod1 (iRow 2))))
def l0.xs : List (AExit × Ann) := [((.exit 0), ⟨[(0, .slc 4194304 []), (1, .sc)], [], [(4194304, true, 2)], [4194304]⟩)]
def l0.y : Coy uni ((Int × (List S58))) := (coy1 (codC (iInt .i64) (cod1 (iRow 2))))
noncomputable def l0.b : Int × Int × (List S58) → Option ((Int × Int × (List S58)) ⊕ ((Int × (List S58))))
  | (v1, v5, r94304) =>
  let x8 := (decide (v5 < ((List.length r94304) : Int)))
  cond x8 (
   cond ((decide (0 ≤ v5)) && x8) (
    let x10 := (List.getD r94304 (Int.toNat v5) z58)
    let x5 := (List.set r94304 (Int.toNat v5) (⟨((Int.tmod v1 3) == 0), x10.f1, x10.f2, x10.f3⟩ : S58))
    cond ((decide (0 ≤ v5)) && (decide (v5 < ((List.length x5) : Int)))) (
     let x4 := (List.getD x5 (Int.toNat v5) z58)
     let x9 := (Go.IntKind.wrap (Go.IntKind.i64 ) (v1 + 1))
     let x3 := (List.set x5 (Int.toNat v5) (⟨x4.f0, x9, x4.f2, x4.f3⟩ : S58))
     cond ((decide (0 ≤ v5)) && (decide (v5 < ((List.length x3) : Int)))) (
      let x2 := (List.getD x3 (Int.toNat v5) z58)
      let x7 := (Go.IntKind.wrap (Go.IntKind.i64 ) (x9 + 1))
      let x1 := (List.set x3 (Int.toNat v5) (⟨x2.f0, x2.f1, x7, x2.f3⟩ : S58))
      cond ((decide (0 ≤ v5)) && (decide (v5 < ((List.length x1) : Int)))) (
       let x0 := (List.getD x1 (Int.toNat v5) z58)
       let x6 := (Go.IntKind.wrap (Go.IntKind.i64 ) (x7 + 1))
       some (.inl ((Go.IntKind.wrap (Go.IntKind.i64 ) (x6 + 1)), (Go.IntKind.wrap (Go.IntKind.i64 ) (v5 + 1)), (List.set x1 (Int.toNat v5) (⟨x0.f0, x0.f1, x0.f2, x6⟩ : S58))))) none) none) none) none) (
   some (.inr (v1, r94304)))
noncomputable def l0 (x : Int × Int × (List S58)) : Option ((Int × (List S58))) := lim l0.b x
theorem l0.eq : ∀ x, l0.b x = roundX (mkE tab es 43 [] []) (loopAt 0 code) (cutOf l0.A l0.c) (cutsOf l0.xs l0.y) x := fun x => by kernel_rfl
theorem l0.owed {R : Type} : owed (mkE (R := R) tab es 43 [] []) (loopAt 0 code) = [] := by kernel_rfl
theorem l0.ok (w0 : World) (M : Own) (h : Pinned M [4194304]) {R : Type} : SoundO prog w0 M 43 (.block 0 (.loop (loopAt 0 code))) (loopO (R := R) 0 (cutOf l0.A l0.c) (cutsOf l0.xs l0.y) l0) :=
  loop_ok tabOk uniOk mixed l0.eq (h.sub rfl) (h.sub rfl) fun x hx => by rw [l0.owed] at hx; exact absurd hx List.not_mem_nil

noncomputable def F : ((List S58) × Int) → Option ((Int × ((List S58) × Unit)))
  | (p0, p1) =>
  (l0 (p1, 0, p0)).bind fun yl0 =>
  some (yl0.1, (yl0.2, ()))
theorem F.eq : ∀ x, F x = runF (mkE tab es 43 [(0, some (loopO 0 (cutOf l0.A l0.c) (cutsOf l0.xs l0.y) l0))] []) code [.row 2 1, .sc] [.sc] [.tmp 4] (Coz.dec cr) (cp.enc x) := fun x => by kernel_rfl
theorem F.owed : owed (mkE (R := (Int × ((List S58) × Unit))) tab es 43 [(0, some (loopO 0 (cutOf l0.A l0.c) (cutsOf l0.xs l0.y) l0))] []) code = [((.block 0 (.loop (loopAt 0 code))), (loopO (R := _) 0 (cutOf l0.A l0.c) (cutsOf l0.xs l0.y) l0))] := by kernel_rfl
theorem con : ∀ x y, F x = some y → Con prog 22 [.row 2 1, .sc] [.sc] (cp.enc x) (cr.enc y).1 (cr.enc y).2 :=
  func_ok (c := code) (n := 43) (pf := [.row 2 1, .sc]) (res := [.tmp 4]) tabOk uniOk mixed get (by kernel_rfl) (by kernel_rfl) (by kernel_rfl) (by decide) F.eq fun w0 M h x hx => by rw [F.owed] at hx; rcases List.mem_cons.1 hx with rfl | hx; exact l0.ok w0 M h; exact absurd hx List.not_mem_nil
noncomputable def ent : Ent prog uni := Ent.of 22 [.row 2 1, .sc] [.sc] cp cr F con fun args w => enters_of get (by kernel_rfl) rfl args w
end Go.Proofs.Ytnaieiillgncjaa.AX.F22

/- The function 23 of the program in the small machine. No conditions. -/
namespace Go.Proofs.Ytnaieiillgncjaa.AX.F23
open Go Go.Proofs.Try
noncomputable def code : Code := bodyOf f23
abbrev Y : Type := (Int × (((List Int) × Unit) × Unit))
def cp : Cod uni ((Int × Int × Int × Int × (List Int) × Int × Int × Int) × Int) := (codC (iAgg (codC (iInt .i64) (codC (iInt .i64) (codC (iInt .i64) (codC (iInt .i64) (codC (iRow 1) (codC (iInt .i64) (codC (iInt .i64) (cod1 (iInt .i64)))))))))) (cod1 (iInt .i64)))
def cr : Coz uni (Int × (((List Int) × Unit) × Unit)) := (cozRM (cod1 (iInt .i64)) (codC (iAgg (codD (codD (codD (codD (codC (iRow 1) (codD (codD (codD cod0))))))))) (codD cod0)))
noncomputable def es : List (Ent prog uni) := [F21.ent]
theorem get : prog.funcs[23]? = some f23 := by kernel_rfl

noncomputable def F : ((Int × Int × Int × Int × (List Int) × Int × Int × Int) × Int) → Option ((Int × (((List Int) × Unit) × Unit)))
  | ((p0_0, p0_1, p0_2, p0_3, p0_4, p0_5, p0_6, p0_7), p1) =>
  (F21.F ((p0_2, (p0_3, p0_4)), p1)).bind fun y21 =>
  some (y21.1, ((y21.2.1, ()), ()))
theorem F.eq : ∀ x, F x = runF (mkE tab es 10 [] []) code [.agg [.sc, .sc, .sc, .sc, .row 1 1, .sc, .sc, .sc], .sc] [.sc] [.tmp 4] (Coz.dec cr) (cp.enc x) := fun x => by kernel_rfl
theorem F.owed : owed (mkE (R := (Int × (((List Int) × Unit) × Unit))) tab es 10 [] []) code = [] := by kernel_rfl
theorem con : ∀ x y, F x = some y → Con prog 23 [.agg [.sc, .sc, .sc, .sc, .row 1 1, .sc, .sc, .sc], .sc] [.sc] (cp.enc x) (cr.enc y).1 (cr.enc y).2 :=
  func_ok (c := code) (n := 10) (pf := [.agg [.sc, .sc, .sc, .sc, .row 1 1, .sc, .sc, .sc], .sc]) (res := [.tmp 4]) tabOk uniOk mixed get (by kernel_rfl) (by kernel_rfl) (by kernel_rfl) (by decide) F.eq fun w0 M h x hx => by rw [F.owed] at hx; exact absurd hx List.not_mem_nil
noncomputable def ent : Ent prog uni := Ent.of 23 [.agg [.sc, .sc, .sc, .sc, .row 1 1, .sc, .sc, .sc], .sc] [.sc] cp cr F con fun args w => enters_of get (by kernel_rfl) rfl args w
end Go.Proofs.Ytnaieiillgncjaa.AX.F23

/- The function 61 of the program in the small machine. No conditions. -/
namespace Go.Proofs.Ytnaieiillgncjaa.AX.F61
open Go Go.Proofs.Try
noncomputable def code : Code := bodyOf f61
abbrev Y : Type := Int
def cp : Cod uni ((List Int) × Int) := (codC (iRow 1) (cod1 (iInt .i64)))
def cr : Coz uni Int := (cozR (cod1 (iInt .i64)) (codD (codD cod0)))
noncomputable def es : List (Ent prog uni) := []
theorem get : prog.funcs[61]? = some f61 := by kernel_rfl

def l0.A : Ann := ⟨[(0, .slc 5000000 []), (1, .sc), (5, .sc)], [], [(5000000, false, 1)], []⟩
def l0.c : Cod uni (Int × Int × (List Int)) := (codC (iInt .i64) (codC (iInt .i64) (cod1 (iRow 1))))
def l0.xs : List (AExit × Ann) := [(.ret, ⟨[(4, .sc)], [], [], []⟩), ((.exit 0), ⟨[(1, .sc)], [], [], []⟩)]
def l0.y : Coy uni (Int ⊕ Int) := (coyS (cod1 (iInt .i64)) (coy1 (cod1 (iInt .i64))))
noncomputable def l0.b : Int × Int × (List Int) → Option ((Int × Int × (List Int)) ⊕ (Int ⊕ Int))
  | (v1, v5, r0) =>
  let x0 := (decide (v5 < ((List.length r0) : Int)))
  cond x0 (
   cond ((decide (0 ≤ v5)) && x0) (
    cond ((List.getD r0 (Int.toNat v5) 0) != v1) (
     some (.inr (.inl (-1)))) (
     some (.inl ((Go.IntKind.wrap (Go.IntKind.i64 ) (v1 + 1)), (Go.IntKind.wrap (Go.IntKind.i64 ) (v5 + 1)), r0)))) none) (
   some (.inr (.inr v1)))
noncomputable def l0 (x : Int × Int × (List Int)) : Option (Int ⊕ Int) := lim l0.b x
theorem l0.eq : ∀ x, l0.b x = roundX (mkE tab es 21 [] []) (loopAt 0 code) (cutOf l0.A l0.c) (cutsOf l0.xs l0.y) x := fun x => by kernel_rfl
theorem l0.owed {R : Type} : owed (mkE (R := R) tab es 21 [] []) (loopAt 0 code) = [] := by kernel_rfl
theorem l0.ok (w0 : World) (M : Own) (h : Pinned M []) {R : Type} : SoundO prog w0 M 21 (.block 0 (.loop (loopAt 0 code))) (loopO (R := R) 0 (cutOf l0.A l0.c) (cutsOf l0.xs l0.y) l0) :=
  loop_ok tabOk uniOk mixed l0.eq (h.sub rfl) (h.sub rfl) fun x hx => by rw [l0.owed] at hx; exact absurd hx List.not_mem_nil

noncomputable def F : ((List Int) × Int) → Option (Int)
  | (p0, p1) =>
  (l0 (p1, 0, p0)).bind fun q => match q with
  | (.inl yl0) =>
   some yl0
  | (.inr yl0) =>
   some yl0
theorem F.eq : ∀ x, F x = runF (mkE tab es 21 [(0, some (loopO 0 (cutOf l0.A l0.c) (cutsOf l0.xs l0.y) l0))] []) code [.row 1 0, .sc] [.sc] [.tmp 4] (Coz.dec cr) (cp.enc x) := fun x => by kernel_rfl
theorem F.owed : owed (mkE (R := Int) tab es 21 [(0, some (loopO 0 (cutOf l0.A l0.c) (cutsOf l0.xs l0.y) l0))] []) code = [((.block 0 (.loop (loopAt 0 code))), (loopO (R := _) 0 (cutOf l0.A l0.c) (cutsOf l0.xs l0.y) l0))] := by kernel_rfl
theorem con : ∀ x y, F x = some y → Con prog 61 [.row 1 0, .sc] [.sc] (cp.enc x) (cr.enc y).1 (cr.enc y).2 :=
  func_ok (c := code) (n := 21) (pf := [.row 1 0, .sc]) (res := [.tmp 4]) tabOk uniOk mixed get (by kernel_rfl) (by kernel_rfl) (by kernel_rfl) (by decide) F.eq fun w0 M h x hx => by rw [F.owed] at hx; rcases List.mem_cons.1 hx with rfl | hx; exact l0.ok w0 M h; exact absurd hx List.not_mem_nil
noncomputable def ent : Ent prog uni := Ent.of 61 [.row 1 0, .sc] [.sc] cp cr F con fun args w => enters_of get (by kernel_rfl) rfl args w
end Go.Proofs.Ytnaieiillgncjaa.AX.F61

/- The function 49 of the program in the small machine. No conditions. -/
namespace Go.Proofs.Ytnaieiillgncjaa.AX.F49
open Go Go.Proofs.Try
noncomputable def code : Code := bodyOf f49
abbrev Y : Type := Int
def cp : Cod uni ((Int × Int × (List Int)) × Int) := (codC (iAgg (codC (iInt .i64) (codC (iInt .i64) (cod1 (iRow 1))))) (cod1 (iInt .i64)))
def cr : Coz uni Int := (cozR (cod1 (iInt .i64)) (codD (codD cod0)))
noncomputable def es : List (Ent prog uni) := [F61.ent]
theorem get : prog.funcs[49]? = some f49 := by kernel_rfl

noncomputable def F : ((Int × Int × (List Int)) × Int) → Option (Int)
  | ((p0_0, p0_1, p0_2), p1) =>
  (F61.F (p0_2, p1)).bind fun y61 =>
  cond (decide (y61 < 0)) (
   some (-1)) (
   some y61)
theorem F.eq : ∀ x, F x = runF (mkE tab es 12 [] []) code [.agg [.sc, .sc, .row 1 0], .sc] [.sc] [.tmp 4] (Coz.dec cr) (cp.enc x) := fun x => by kernel_rfl
theorem F.owed : owed (mkE (R := Int) tab es 12 [] []) code = [] := by kernel_rfl
theorem con : ∀ x y, F x = some y → Con prog 49 [.agg [.sc, .sc, .row 1 0], .sc] [.sc] (cp.enc x) (cr.enc y).1 (cr.enc y).2 :=
  func_ok (c := code) (n := 12) (pf := [.agg [.sc, .sc, .row 1 0], .sc]) (res := [.tmp 4]) tabOk uniOk mixed get (by kernel_rfl) (by kernel_rfl) (by kernel_rfl) (by decide) F.eq fun w0 M h x hx => by rw [F.owed] at hx; exact absurd hx List.not_mem_nil
noncomputable def ent : Ent prog uni := Ent.of 49 [.agg [.sc, .sc, .row 1 0], .sc] [.sc] cp cr F con fun args w => enters_of get (by kernel_rfl) rfl args w
end Go.Proofs.Ytnaieiillgncjaa.AX.F49

/- The function 24 of the program in the small machine. No conditions. -/
namespace Go.Proofs.Ytnaieiillgncjaa.AX.F24
open Go Go.Proofs.Try
noncomputable def code : Code := bodyOf f24
abbrev Y : Type := Int
def cp : Cod uni ((Int × Int × Int × Int × (List Int) × Int × Int × Int) × Int) := (codC (iAgg (codC (iInt .i64) (codC (iInt .i64) (codC (iInt .i64) (codC (iInt .i64) (codC (iRow 1) (codC (iInt .i64) (codC (iInt .i64) (cod1 (iInt .i64)))))))))) (cod1 (iInt .i64)))
def cr : Coz uni Int := (cozR (cod1 (iInt .i64)) (codD (codD cod0)))
noncomputable def es : List (Ent prog uni) := [F49.ent]
theorem get : prog.funcs[24]? = some f24 := by kernel_rfl

noncomputable def F : ((Int × Int × Int × Int × (List Int) × Int × Int × Int) × Int) → Option (Int)
  | ((p0_0, p0_1, p0_2, p0_3, p0_4, p0_5, p0_6, p0_7), p1) =>
  (F49.F ((p0_2, (p0_3, p0_4)), p1)).bind fun y49 =>
  cond (decide (y49 < 0)) (
   some (-1)) (
   some y49)
theorem F.eq : ∀ x, F x = runF (mkE tab es 12 [] []) code [.agg [.sc, .sc, .sc, .sc, .row 1 0, .sc, .sc, .sc], .sc] [.sc] [.tmp 4] (Coz.dec cr) (cp.enc x) := fun x => by kernel_rfl
theorem F.owed : owed (mkE (R := Int) tab es 12 [] []) code = [] := by kernel_rfl
theorem con : ∀ x y, F x = some y → Con prog 24 [.agg [.sc, .sc, .sc, .sc, .row 1 0, .sc, .sc, .sc], .sc] [.sc] (cp.enc x) (cr.enc y).1 (cr.enc y).2 :=
  func_ok (c := code) (n := 12) (pf := [.agg [.sc, .sc, .sc, .sc, .row 1 0, .sc, .sc, .sc], .sc]) (res := [.tmp 4]) tabOk uniOk mixed get (by kernel_rfl) (by kernel_rfl) (by kernel_rfl) (by decide) F.eq fun w0 M h x hx => by rw [F.owed] at hx; exact absurd hx List.not_mem_nil
noncomputable def ent : Ent prog uni := Ent.of 24 [.agg [.sc, .sc, .sc, .sc, .row 1 0, .sc, .sc, .sc], .sc] [.sc] cp cr F con fun args w => enters_of get (by kernel_rfl) rfl args w
end Go.Proofs.Ytnaieiillgncjaa.AX.F24

/- The function 4 of the program in the small machine. No conditions. -/
namespace Go.Proofs.Ytnaieiillgncjaa.AX.F4
open Go Go.Proofs.Try
noncomputable def code : Code := bodyOf f4
abbrev Y : Type := Bool
def cp : Cod uni ((Int × Int × (List Int)) × (Int × Int × (List Int)) × Int × (List S58)) := (codC (iAgg (codC (iInt .i64) (codC (iInt .i64) (cod1 (iRow 1))))) (codC (iAgg (codC (iInt .i64) (codC (iInt .i64) (cod1 (iRow 1))))) (codC (iInt .i64) (cod1 (iRow 3)))))
def cr : Coz uni Bool := (cozR (cod1 iBool) (codD (codD (codD (codD cod0)))))
noncomputable def es : List (Ent prog uni) := [F13.ent, F14.ent, F16.ent, F17.ent, F15.ent, F10.ent, F18.ent, F19.ent, F20.ent, F21.ent, F22.ent, F23.ent, F24.ent]
theorem get : prog.funcs[4]? = some f4 := by kernel_rfl

noncomputable def F : ((Int × Int × (List Int)) × (Int × Int × (List Int)) × Int × (List S58)) → Option (Bool)
  | ((p0_0, p0_1, p0_2), (p1_0, p1_1, p1_2), p2, p3) =>
  (F13.F ((p0_0, (p0_1, p0_2)), 1048576)).bind fun y13 =>
  cond (decide (y13 < 0)) (
   some true) (
   (F13.F ((p1_0, (p1_1, p1_2)), y13)).bind fun y13x2 =>
   cond (decide (y13x2 < 0)) (
    some true) (
    (F14.F (p3, y13x2)).bind fun y14 =>
    cond (decide (y14 < 0)) (
     some true) (
     let x3 := (F16.F (p0_0, (p0_1, p0_2)))
     x3.bind fun y16 =>
     let x4 := (F16.F (p1_0, (p1_1, p1_2)))
     x4.bind fun y16x2 =>
     (F17.F p3).bind fun y17 =>
     (F15.F ((y16.1, (y16.2.1, y16.2.2)), ((y16x2.1, (y16x2.2.1, y16x2.2.2)), (p2, y17)))).bind fun y15 =>
     x3.bind fun y16x3 =>
     x4.bind fun y16x4 =>
     (F17.F p3).bind fun y17x2 =>
     (F10.F ((y16x3.1, (y16x3.2.1, y16x3.2.2)), ((y16x4.1, (y16x4.2.1, y16x4.2.2)), (p2, y17x2)))).bind fun y10 =>
     let x0 := (F18.F ((y10.1, (y10.2.1, (y10.2.2.1, (y10.2.2.2.1, (y10.2.2.2.2.1, (y10.2.2.2.2.2.1, (y10.2.2.2.2.2.2.1, y10.2.2.2.2.2.2.2))))))), (y15.1, (y15.2.1, (y15.2.2.1, (y15.2.2.2.1, (y15.2.2.2.2.1, (y15.2.2.2.2.2.1, (y15.2.2.2.2.2.2.1, y15.2.2.2.2.2.2.2)))))))))
     x0.bind fun y18 =>
     cond (!y18) (
      some false) (
      x3.bind fun y16x5 =>
      (F19.F ((y16x3.1, (y16x3.2.1, y16x3.2.2)), (y16x5.1, (y16x5.2.1, y16x5.2.2)))).bind fun y19 =>
      cond (!y19) (
       some false) (
       x4.bind fun y16x6 =>
       (F19.F ((y16x4.1, (y16x4.2.1, y16x4.2.2)), (y16x6.1, (y16x6.2.1, y16x6.2.2)))).bind fun y19x2 =>
       cond (!y19x2) (
        some false) (
        (F17.F p3).bind fun y17x3 =>
        (F20.F (y17x2, y17x3)).bind fun y20 =>
        cond (!y20) (
         some false) (
         (F21.F ((y16x3.1, (y16x3.2.1, y16x3.2.2)), 1)).bind fun y21 =>
         (F21.F ((y16x4.1, (y16x4.2.1, y16x4.2.2)), y21.1)).bind fun y21x2 =>
         (F22.F (y17x2, y21x2.1)).bind fun y22 =>
         let x1 := (F23.F ((y10.1, (y10.2.1, (y10.2.2.1, (y10.2.2.2.1, (y10.2.2.2.2.1, (y10.2.2.2.2.2.1, (y10.2.2.2.2.2.2.1, y10.2.2.2.2.2.2.2))))))), 1))
         cond (!(decide (y22.1 < 0))) (
          x0.bind fun y18x2 =>
          cond ((decide (y22.1 < 0)) || (!y18x2)) (
           some false) (
           x1.bind fun y23 =>
           let x2 := (F24.F ((y10.1, (y10.2.1, (y10.2.2.1, (y10.2.2.2.1, (y23.2.1.1, (y10.2.2.2.2.2.1, (y10.2.2.2.2.2.2.1, y10.2.2.2.2.2.2.2))))))), 1))
           x2.bind fun y24 =>
           cond (decide (y24 < 0)) (
            some false) (
            cond (y24 != y23.1) (
             some false) (
             x3.bind fun y16x7 =>
             x4.bind fun y16x8 =>
             (F17.F p3).bind fun y17x4 =>
             (F10.F ((y16x7.1, (y16x7.2.1, y16x7.2.2)), ((y16x8.1, (y16x8.2.1, y16x8.2.2)), (p2, y17x4)))).bind fun y10x2 =>
             (F18.F ((y10x2.1, (y10x2.2.1, (y10x2.2.2.1, (y10x2.2.2.2.1, (y10x2.2.2.2.2.1, (y10x2.2.2.2.2.2.1, (y10x2.2.2.2.2.2.2.1, y10x2.2.2.2.2.2.2.2))))))), (y15.1, (y15.2.1, (y15.2.2.1, (y15.2.2.2.1, (y15.2.2.2.2.1, (y15.2.2.2.2.2.1, (y15.2.2.2.2.2.2.1, y15.2.2.2.2.2.2.2))))))))).bind fun y18x3 =>
             cond (!y18x3) (
              some false) (
              x2.bind fun y24x2 =>
              cond (decide (y24x2 < 0)) (
               some false) (
               cond (y24x2 != y23.1) (
                some false) (
                some true))))))) (
          cond ((decide (y22.1 < 0)) || true) (
           some false) (
           x1.bind fun y23 =>
           let x2 := (F24.F ((y10.1, (y10.2.1, (y10.2.2.1, (y10.2.2.2.1, (y23.2.1.1, (y10.2.2.2.2.2.1, (y10.2.2.2.2.2.2.1, y10.2.2.2.2.2.2.2))))))), 1))
           x2.bind fun y24 =>
           cond (decide (y24 < 0)) (
            some false) (
            cond (y24 != y23.1) (
             some false) (
             x3.bind fun y16x7 =>
             x4.bind fun y16x8 =>
             (F17.F p3).bind fun y17x4 =>
             (F10.F ((y16x7.1, (y16x7.2.1, y16x7.2.2)), ((y16x8.1, (y16x8.2.1, y16x8.2.2)), (p2, y17x4)))).bind fun y10x2 =>
             (F18.F ((y10x2.1, (y10x2.2.1, (y10x2.2.2.1, (y10x2.2.2.2.1, (y10x2.2.2.2.2.1, (y10x2.2.2.2.2.2.1, (y10x2.2.2.2.2.2.2.1, y10x2.2.2.2.2.2.2.2))))))), (y15.1, (y15.2.1, (y15.2.2.1, (y15.2.2.2.1, (y15.2.2.2.2.1, (y15.2.2.2.2.2.1, (y15.2.2.2.2.2.2.1, y15.2.2.2.2.2.2.2))))))))).bind fun y18x2 =>
             cond (!y18x2) (
              some false) (
              x2.bind fun y24x2 =>
              cond (decide (y24x2 < 0)) (
               some false) (
               cond (y24x2 != y23.1) (
                some false) (
                some true))))))))))))))
theorem F.eq : ∀ x, F x = runF (mkE tab es 120 [] []) code [.agg [.sc, .sc, .row 1 0], .agg [.sc, .sc, .row 1 0], .sc, .row 3 0] [.sc] [.tmp 8] (Coz.dec cr) (cp.enc x) := fun x => by kernel_rfl
theorem F.owed : owed (mkE (R := Bool) tab es 120 [] []) code = [] := by kernel_rfl
theorem con : ∀ x y, F x = some y → Con prog 4 [.agg [.sc, .sc, .row 1 0], .agg [.sc, .sc, .row 1 0], .sc, .row 3 0] [.sc] (cp.enc x) (cr.enc y).1 (cr.enc y).2 :=
  func_ok (c := code) (n := 120) (pf := [.agg [.sc, .sc, .row 1 0], .agg [.sc, .sc, .row 1 0], .sc, .row 3 0]) (res := [.tmp 8]) tabOk uniOk mixed get (by kernel_rfl) (by kernel_rfl) (by kernel_rfl) (by decide) F.eq fun w0 M h x hx => by rw [F.owed] at hx; exact absurd hx List.not_mem_nil
noncomputable def ent : Ent prog uni := Ent.of 4 [.agg [.sc, .sc, .row 1 0], .agg [.sc, .sc, .row 1 0], .sc, .row 3 0] [.sc] cp cr F con fun args w => enters_of get (by kernel_rfl) rfl args w
end Go.Proofs.Ytnaieiillgncjaa.AX.F4

/- Small facts for plain laws. No conditions. -/
namespace Go.Proofs.Ytnaieiillgncjaa.AX
open Go

theorem w64 {x : Int} (h0 : -9223372036854775808 ≤ x) (h1 : x < 9223372036854775808) : IntKind.wrap .i64 x = x := by
  unfold IntKind.wrap
  simp [IntKind.signed, IntKind.bits]
  omega

/- Not by rfl: a proof by simp then names each step, and the kernel need not find them. -/
theorem bS {α β : Type} {x : α} {f : α → Option β} : (some x).bind f = f x := by simp
theorem bN {α β : Type} {f : α → Option β} : (none : Option α).bind f = none := by simp
theorem cT {α : Type} {a b : α} : cond true a b = a := by simp
theorem cF {α : Type} {a b : α} : cond false a b = b := by simp

theorem dT {p : Prop} [Decidable p] (h : p) : decide p = true := decide_eq_true h
theorem dF {p : Prop} [Decidable p] (h : ¬ p) : decide p = false := decide_eq_false h

section
variable {α : Type} [BEq α] [LawfulBEq α] {a b : α}
theorem qT (h : a = b) : (a == b) = true := by simp [h]
theorem qF (h : ¬ a = b) : (a == b) = false := by simpa using h
theorem nT (h : ¬ a = b) : (a != b) = true := by simp [bne, qF h]
theorem nF (h : a = b) : (a != b) = false := by simp [bne, h]
end

theorem lim_in {X Y : Type} {f : X → Option (X ⊕ Y)} {x x' : X} (h : f x = some (.inl x')) : lim f x = lim f x' := by rw [lim_step, h]; rfl
theorem lim_out {X Y : Type} {f : X → Option (X ⊕ Y)} {x : X} {y : Y} (h : f x = some (.inr y)) : lim f x = some y := by rw [lim_step, h]; rfl

/-- So many rounds, told one by one. -/
theorem lim_to {X Y : Type} {f : X → Option (X ⊕ Y)} (s : Nat → X) : ∀ (n : Nat), (∀ i, i < n → f (s i) = some (.inl (s (i + 1)))) → lim f (s 0) = lim f (s n)
  | 0, _ => rfl
  | n + 1, h => by rw [lim_to s n fun i hi => h i (by omega), lim_in (h n (by omega))]
theorem lim_run {X Y : Type} {f : X → Option (X ⊕ Y)} (s : Nat → X) (n : Nat) {y : Y} (h : ∀ i, i < n → f (s i) = some (.inl (s (i + 1)))) (hn : f (s n) = some (.inr y)) : lim f (s 0) = some y := by
  rw [lim_to s n h, lim_out hn]

/-- A row looked through, until one falls. -/
theorem lim_scan {X Y α : Type} {f : X → Option (X ⊕ Y)} (s : Nat → X) (l : List α) (d : α) (p : α → Bool) {y z : Y} (h : ∀ i, i < l.length → f (s i) = some (if p (l.getD i d) then .inl (s (i + 1)) else .inr y)) (hn : f (s l.length) = some (.inr z)) :
    lim f (s 0) = some (if l.all p then z else y) := by
  have main : ∀ (n i : Nat), l.length - i ≤ n → i ≤ l.length → lim f (s i) = some (if (l.drop i).all p then z else y) := by
    intro n
    induction n with
    | zero =>
      intro i hi hi2
      have : i = l.length := by omega
      subst this
      rw [lim_out hn]; simp
    | succ n ih =>
      intro i hi hi2
      by_cases e : i = l.length
      · subst e; rw [lim_out hn]; simp
      · have hlt : i < l.length := by omega
        have hd : l.drop i = l.getD i d :: l.drop (i + 1) := by simp [List.getD, hlt]
        rw [hd, List.all_cons]
        cases hp : p (l.getD i d) with
        | true => rw [lim_in (x' := s (i + 1)) (by rw [h i hlt, hp]; rfl), ih (i + 1) (by omega) (by omega)]; simp
        | false => rw [lim_out (y := y) (by rw [h i hlt, hp]; rfl)]; simp
  simpa using main l.length 0 (by omega) (by omega)

/-- A row gone through, with something carried along. -/
theorem lim_fold {X Y α A : Type} {f : X → Option (X ⊕ Y)} (s : Nat → A → X) (l : List α) (d : α) (g : A → α → A) (I : A → Prop) {z : A → Y} (a0 : A) (h0 : I a0) (hI : ∀ a i, i < l.length → I a → I (g a (l.getD i d))) (h : ∀ i a, i < l.length → I a → f (s i a) = some (.inl (s (i + 1) (g a (l.getD i d))))) (hn : ∀ a, I a → f (s l.length a) = some (.inr (z a))) :
    lim f (s 0 a0) = some (z (l.foldl g a0)) := by
  have main : ∀ (n i : Nat) (a : A), l.length - i ≤ n → i ≤ l.length → I a → lim f (s i a) = some (z ((l.drop i).foldl g a)) := by
    intro n
    induction n with
    | zero =>
      intro i a hi hi2 ha
      have : i = l.length := by omega
      subst this
      rw [lim_out (hn a ha)]; simp
    | succ n ih =>
      intro i a hi hi2 ha
      by_cases e : i = l.length
      · subst e; rw [lim_out (hn a ha)]; simp
      · have hlt : i < l.length := by omega
        have hd : l.drop i = l.getD i d :: l.drop (i + 1) := by simp [List.getD, hlt]
        rw [hd, List.foldl_cons, lim_in (h i a hlt ha), ih (i + 1) _ (by omega) (by omega) (hI a i hlt ha)]
  simpa using main l.length 0 a0 (by omega) (by omega) h0

/-- .. with a way out. -/
def goL {α A Y : Type} (g : A → α → A ⊕ Y) : List α → A → A ⊕ Y
  | [], a => .inl a
  | x :: r, a => match g a x with
    | .inl a' => goL g r a'
    | .inr y => .inr y
theorem lim_go {X Y α A B : Type} {f : X → Option (X ⊕ Y)} (s : Nat → A → X) (l : List α) (d : α) (g : A → α → A ⊕ B) (I : A → Prop) {z : A → Y} {o : B → Y} (a0 : A) (h0 : I a0) (hI : ∀ a i a', i < l.length → I a → g a (l.getD i d) = .inl a' → I a')
    (h : ∀ i a, i < l.length → I a → f (s i a) = some (match g a (l.getD i d) with | .inl a' => .inl (s (i + 1) a') | .inr y => .inr (o y))) (hn : ∀ a, I a → f (s l.length a) = some (.inr (z a))) :
    lim f (s 0 a0) = some (Sum.elim z o (goL g l a0)) := by
  have main : ∀ (n i : Nat) (a : A), l.length - i ≤ n → i ≤ l.length → I a → lim f (s i a) = some (Sum.elim z o (goL g (l.drop i) a)) := by
    intro n
    induction n with
    | zero =>
      intro i a hi hi2 ha
      have : i = l.length := by omega
      subst this
      rw [lim_out (hn a ha)]; simp [goL]
    | succ n ih =>
      intro i a hi hi2 ha
      by_cases e : i = l.length
      · subst e; rw [lim_out (hn a ha)]; simp [goL]
      · have hlt : i < l.length := by omega
        have hd : l.drop i = l.getD i d :: l.drop (i + 1) := by simp [List.getD, hlt]
        have hf := h i a hlt ha
        rw [hd, goL]
        cases hg : g a (l.getD i d) with
        | inl a' => rw [hg] at hf; rw [lim_in hf, ih (i + 1) a' (by omega) (by omega) (hI a i a' hlt ha hg)]
        | inr y => rw [hg] at hf; rw [lim_out hf]; rfl
  simpa using main l.length 0 a0 (by omega) (by omega) h0

theorem getD_lt {α : Type} {l : List α} {i : Nat} {d : α} (h : i < l.length) : l.getD i d = l[i] := by simp [List.getD, h]

theorem set_self {α : Type} {l : List α} {i : Nat} {d : α} : l.set i (l.getD i d) = l := by
  by_cases h : i < l.length
  · rw [getD_lt h, List.set_getElem_self]
  · rw [List.set_eq_of_length_le (by omega)]

theorem getD_set {α : Type} {l : List α} {i : Nat} {d x : α} (h : i < l.length) : (l.set i x).getD i d = x := by simp [List.getD, h]

theorem set_app {α : Type} {p r : List α} {x y : α} {i : Nat} (h : i = p.length) : (p ++ x :: r).set i y = p ++ y :: r := by subst h; simp

theorem drop_cons {α : Type} {l : List α} {i : Nat} (h : i < l.length) : l.drop i = l[i] :: l.drop (i + 1) := by simp

section
variable {A B E : Type}

/-- A row laid anew, as far as i. -/
def upTo (c : A → B) (z : B) (l : List A) (i : Nat) : List B := (l.take i).map c ++ List.replicate (l.length - i) z
theorem upTo_zero {c : A → B} {z : B} {l : List A} : upTo c z l 0 = List.replicate l.length z := by simp [upTo]
theorem upTo_all {c : A → B} {z : B} {l : List A} : upTo c z l l.length = l.map c := by simp [upTo]
theorem upTo_len {c : A → B} {z : B} {l : List A} {i : Nat} (h : i ≤ l.length) : (upTo c z l i).length = l.length := by simp [upTo]; omega
theorem upTo_set {c : A → B} {z : B} {l : List A} {i : Nat} {d : A} (h : i < l.length) : (upTo c z l i).set i (c (l.getD i d)) = upTo c z l (i + 1) := by
  unfold upTo
  rw [show l.length - i = (l.length - (i + 1)) + 1 by omega, List.replicate_succ, set_app (by simp; omega), getD_lt h, ← List.take_append_getElem h, List.map_append, List.append_assoc]
  rfl

/-- Each element turned, with a number that counts on. -/
def mkL (g : Int → E → E) (c : E → Int) : Int → List E → List E
  | _, [] => []
  | k, x :: r => g k x :: mkL g c (k + c x) r
def mkK (c : E → Int) : Int → List E → Int
  | k, [] => k
  | k, x :: r => mkK c (k + c x) r
theorem mkL_len {g : Int → E → E} {c : E → Int} : ∀ {k : Int} {l : List E}, (mkL g c k l).length = l.length
  | _, [] => rfl
  | _, _ :: _ => by simp [mkL, mkL_len]
theorem mkL_app {g : Int → E → E} {c : E → Int} : ∀ {k : Int} {l r : List E}, mkL g c k (l ++ r) = mkL g c k l ++ mkL g c (mkK c k l) r
  | _, [], _ => rfl
  | k, x :: l, r => by simp [mkL, mkK, mkL_app]
theorem mkK_app {c : E → Int} : ∀ {k : Int} {l r : List E}, mkK c k (l ++ r) = mkK c (mkK c k l) r
  | _, [], _ => rfl
  | k, x :: l, r => by simp [mkK, mkK_app]
theorem mkK_take {c : E → Int} {k : Int} {l : List E} {i : Nat} {d : E} (h : i < l.length) : mkK c k (l.take (i + 1)) = mkK c k (l.take i) + c (l.getD i d) := by
  rw [← List.take_append_getElem h, mkK_app, getD_lt h]; rfl
theorem mkK_const {n : Int} : ∀ {k : Int} {l : List E}, mkK (fun _ => n) k l = k + n * l.length
  | k, [] => by simp [mkK]
  | k, x :: l => by
    simp only [mkK, mkK_const, List.length_cons]
    rw [show ((l.length + 1 : Nat) : Int) = (l.length : Int) + 1 from rfl, Int.mul_add, Int.mul_one]; omega
theorem mkK_le {c : E → Int} (hc : ∀ x, 0 ≤ c x) : ∀ {k : Int} {l : List E}, k ≤ mkK c k l
  | k, [] => Int.le_refl _
  | k, x :: l => by
    have := mkK_le hc (k := k + c x) (l := l)
    have := hc x
    simp only [mkK]; omega
def mkAt (g : Int → E → E) (c : E → Int) (k : Int) (l : List E) (i : Nat) : List E := mkL g c k (l.take i) ++ l.drop i
theorem mkAt_zero {g : Int → E → E} {c : E → Int} {k : Int} {l : List E} : mkAt g c k l 0 = l := by simp [mkAt, mkL]
theorem mkAt_all {g : Int → E → E} {c : E → Int} {k : Int} {l : List E} : mkAt g c k l l.length = mkL g c k l := by simp [mkAt]
theorem mkAt_len {g : Int → E → E} {c : E → Int} {k : Int} {l : List E} {i : Nat} : (mkAt g c k l i).length = l.length := by simp [mkAt, mkL_len]; omega
theorem mkAt_get {g : Int → E → E} {c : E → Int} {k : Int} {l : List E} {i : Nat} {d : E} (h : i < l.length) : (mkAt g c k l i).getD i d = l.getD i d := by
  unfold mkAt
  have : (mkL g c k (l.take i)).length = i := by rw [mkL_len]; simp; omega
  rw [getD_lt (by simp [this]; omega), getD_lt h, List.getElem_append_right (by omega)]
  simp [this]
theorem mkAt_set {g : Int → E → E} {c : E → Int} {k : Int} {l : List E} {i : Nat} {d : E} (h : i < l.length) : (mkAt g c k l i).set i (g (mkK c k (l.take i)) (l.getD i d)) = mkAt g c k l (i + 1) := by
  unfold mkAt
  rw [drop_cons h, set_app (by rw [mkL_len]; simp; omega), getD_lt h, ← List.take_append_getElem h, mkL_app, List.append_assoc]
  rfl
theorem mkL_get {g : Int → E → E} {c : E → Int} : ∀ {k : Int} {l : List E} {i : Nat} {d : E}, i < l.length → (mkL g c k l).getD i d = g (mkK c k (l.take i)) (l.getD i d)
  | k, x :: l, 0, d, _ => by simp [mkL, mkK]
  | k, x :: l, i + 1, d, h => by
    have := mkL_get (g := g) (c := c) (k := k + c x) (l := l) (i := i) (d := d) (by simpa using h)
    simpa [mkL, mkK, List.getD] using this
end


/-- Two rows compared, element by element. -/
theorem eq_rows {E : Type} {p q : List E} (d : E) (hl : p.length = q.length) : p = q ∨ ∃ i, i < p.length ∧ (∀ j, j < i → p.getD j d = q.getD j d) ∧ p.getD i d ≠ q.getD i d := by
  induction p generalizing q with
  | nil => cases q with
    | nil => exact .inl rfl
    | cons _ _ => simp at hl
  | cons x p ih =>
    cases q with
    | nil => simp at hl
    | cons y q =>
      by_cases h : x = y
      · subst h
        rcases ih (by simpa using hl) with h | ⟨i, h1, h2, h3⟩
        · exact .inl (by rw [h])
        · refine .inr ⟨i + 1, by simpa using h1, fun j hj => ?_, by simpa using h3⟩
          cases j with
          | zero => rfl
          | succ j => simpa using h2 j (by omega)
      · exact .inr ⟨0, by simp, fun j hj => by omega, by simpa using h⟩

end Go.Proofs.Ytnaieiillgncjaa.AX

/- Fields and tools, plainly. No conditions. -/
namespace Go.Proofs.Ytnaieiillgncjaa.AX
open Go

def topOk (x : Int) : Bool := !((decide (x < 0)) || (decide (x > 24)))
/-- A field is right. -/
def fok (W H : Int) (t : List Int) : Bool :=
  !(((((decide (W < 1)) || (decide (W > 24))) || (decide (H < 1))) || (decide (H > 24))) || ((t.length : Int) != Go.IntKind.wrap .i64 (W * H))) && t.all topOk

theorem mul24 {W H : Int} (h1 : 1 ≤ W) (h2 : W ≤ 24) (h3 : 1 ≤ H) (h4 : H ≤ 24) : 1 ≤ W * H ∧ W * H ≤ 576 ∧ Go.IntKind.wrap .i64 (W * H) = W * H := by
  have a : 1 * 1 ≤ W * H := Int.mul_le_mul h1 h3 (by omega) (by omega)
  have b : W * H ≤ 24 * 24 := Int.mul_le_mul h2 h4 (by omega) (by omega)
  exact ⟨by omega, by omega, w64 (by omega) (by omega)⟩

theorem fok_sizes {W H : Int} {t : List Int} (h : (((((decide (W < 1)) || (decide (W > 24))) || (decide (H < 1))) || (decide (H > 24))) || ((t.length : Int) != Go.IntKind.wrap .i64 (W * H))) = false) : 1 ≤ W ∧ W ≤ 24 ∧ 1 ≤ H ∧ H ≤ 24 ∧ (t.length : Int) = W * H ∧ t.length ≤ 576 := by
  simp only [Bool.or_eq_false_iff, decide_eq_false_iff_not, bne_eq_false_iff_eq] at h
  obtain ⟨⟨⟨⟨h1, h2⟩, h3⟩, h4⟩, h5⟩ := h
  obtain ⟨a, b, c⟩ := mul24 (W := W) (H := H) (by omega) (by omega) (by omega) (by omega)
  rw [c] at h5
  exact ⟨by omega, by omega, by omega, by omega, h5, by omega⟩

theorem F39.l0_ok (t : List Int) (h : t.length ≤ 5000) : F39.l0 ((t.length : Int), 0, t) = some (if t.all topOk then .inr () else .inl false) :=
  lim_scan (f := F39.l0.b) (fun i => ((t.length : Int), (i : Int), t)) t 0 topOk (y := .inl false) (z := .inr ()) (fun i hi => by
    cases hp : topOk (t.getD i 0) with
    | true =>
      have hp' : ((decide (t.getD i 0 < 0)) || (decide (t.getD i 0 > 24))) = false := by simpa [topOk] using hp
      simp (disch := omega) only [F39.l0.b, dT, dF, w64, Bool.and_self, cT, cF, Int.toNat_natCast, hp', if_true]; rfl
    | false =>
      have hp' : ((decide (t.getD i 0 < 0)) || (decide (t.getD i 0 > 24))) = true := Bool.not_eq_false' .. |>.mp hp
      simp (disch := omega) only [F39.l0.b, dT, dF, w64, Bool.and_self, cT, cF, Int.toNat_natCast, hp']; rfl)
    (by simp (disch := omega) only [F39.l0.b, dT, dF, cF])

theorem F39.ok (W H : Int) (t : List Int) : F39.F (W, H, t) = some (fok W H t) := by
  cases hb : (((((decide (W < 1)) || (decide (W > 24))) || (decide (H < 1))) || (decide (H > 24))) || ((t.length : Int) != Go.IntKind.wrap .i64 (W * H))) with
  | true => simp only [F39.F, fok, hb, cT, Bool.not_true, Bool.false_and]
  | false =>
    have hs := fok_sizes hb
    simp only [F39.F, fok, hb, cF, Bool.not_false, Bool.true_and, F39.l0_ok t (by omega), bS]
    cases t.all topOk <;> rfl

theorem F54.l0_ok (W H : Int) (t : List Int) (h : t.length ≤ 5000) : F54.l0 (0, W, H, t) = some (if t.all topOk then .inr () else .inl false) :=
  lim_scan (f := F54.l0.b) (fun i => ((i : Int), W, H, t)) t 0 topOk (y := .inl false) (z := .inr ()) (fun i hi => by
    have d1 : decide ((i : Int) < (t.length : Int)) = true := dT (by omega)
    have d2 : decide ((0 : Int) ≤ (i : Int)) = true := dT (by omega)
    cases hp : topOk (t.getD i 0) with
    | true =>
      have hp' : ((decide (t.getD i 0 < 0)) || (decide (t.getD i 0 > 24))) = false := by simpa [topOk] using hp
      simp (disch := omega) only [F54.l0.b, d1, d2, w64, Bool.and_self, Bool.or_true, cT, cF, Int.toNat_natCast, hp', if_true]; rfl
    | false =>
      have hp' : ((decide (t.getD i 0 < 0)) || (decide (t.getD i 0 > 24))) = true := Bool.not_eq_false' .. |>.mp hp
      simp (disch := omega) only [F54.l0.b, d1, d2, w64, Bool.and_self, Bool.or_true, cT, cF, Int.toNat_natCast, hp']; rfl)
    (by simp (disch := omega) only [F54.l0.b, dT, dF, cF])

theorem F54.ok (W H : Int) (t : List Int) : F54.F (W, H, t) = some (fok W H t) := by
  cases hb : (((((decide (W < 1)) || (decide (W > 24))) || (decide (H < 1))) || (decide (H > 24))) || ((t.length : Int) != Go.IntKind.wrap .i64 (W * H))) with
  | true => simp only [F54.F, fok, hb, cT, Bool.not_true, Bool.false_and]
  | false =>
    have hs := fok_sizes hb
    simp only [F54.F, fok, hb, cF, Bool.not_false, Bool.true_and, F54.l0_ok W H t (by omega), bS]
    cases t.all topOk <;> rfl

end Go.Proofs.Ytnaieiillgncjaa.AX

/- The controller, plainly: what the program answers. No conditions. -/
import Derived.Test.YtpingihfadihfaaRows
import Derived.WalkKit
import Derived.ProofKit
import Derived.OpenShut
import Derived.ShutString
import Derived.ChangeOld
import Derived.Below
import Derived.SizedLaws
import Derived.Test.YtpingihfadihfaaRAc
set_option linter.unusedVariables false
set_option linter.unusedSimpArgs false
set_option linter.unusedSectionVars false
namespace Go.Proofs.Ytpingihfadihfaa.AX
open Go

def capOf (most : Int) (w : Wy) : Int := if (hd w).f1 = true then most else Int.tdiv (most + 1) 2
def allW (most g : Int) : List Wy → List (S38 × S59)
  | [] => []
  | w :: r => runW w (capOf most w) g (sumH w.1).toNat 0 0 ++ allW most g r

theorem capOf_ok {most : Int} {w : Wy} (h1 : 1 ≤ most) (h2 : most ≤ 1000) : 1 ≤ capOf most w ∧ capOf most w ≤ 1000 := by
  unfold capOf
  split
  · omega
  · rw [Int.tdiv_eq_ediv_of_nonneg (by omega)]; omega

theorem tik_zero {W : Wy} {a : S50} (h : SameP W.2 a) (ps : Int) : (tik W 0 ps).f0 = 20 * a.f1 ∧ (tik W 0 ps).f1 = 20 * a.f2 ∧ (tik W 0 ps).f2 = 20 * a.f3 := by
  unfold tik
  simp [h.1, h.2.1, h.2.2]
theorem tik_end {r0 : List S50} {W : Wy} {a : S50} (h : Ends r0 W a) (ps : Int) : (tik W (sumH W.1) ps).f0 = 20 * a.f1 ∧ (tik W (sumH W.1) ps).f1 = 20 * a.f2 ∧ (tik W (sumH W.1) ps).f2 = 20 * a.f3 := by
  obtain ⟨⟨h1, h2, h3⟩, _⟩ := h
  exact ⟨h1.symm, h2.symm, h3.symm⟩

theorem F25.t38_ok {v1 g cap v216 v217 : Int} {k : Int} {W : Wy} {q0 : List S50} {wl : List (List S76)} {a e : S50} {ps : Int} {tk : List S59} {hs : List S38} (hW : Good W) (ha : SameP W.2 a) (he : Ends q0 W e) (hk : wl.getD (Int.toNat k) [] = W.1) (hg : 1 ≤ g) (hg2 : g ≤ 1000) (hc : 1 ≤ cap) (hc2 : cap ≤ 1000) (ht : tk.length ≤ 20000) (hh : hs.length = tk.length) {r0 : List S50} :
    (tk.length + (runW W cap g (sumH W.1).toNat 0 0).length ≤ 20000 → ∃ q, F25.t38 (v1, g, k, cap, v216, v217, 20 * a.f1, 20 * a.f2, 20 * a.f3, ps, r0, wl, tk, hs) =
      some (.inl (v1, g, v216, v217, 20 * e.f1, 20 * e.f2, 20 * e.f3, q, r0, wl, tk ++ (runW W cap g (sumH W.1).toNat 0 0).map (·.2), hs ++ (runW W cap g (sumH W.1).toNat 0 0).map (·.1)))) ∧
    (¬ tk.length + (runW W cap g (sumH W.1).toNat 0 0).length ≤ 20000 → F25.t38 (v1, g, k, cap, v216, v217, 20 * a.f1, 20 * a.f2, 20 * a.f3, ps, r0, wl, tk, hs) = some (.inr 18)) := by
  have hs0 := sumH_nn hW.pos
  have hsum := hW.sum
  obtain ⟨z1, z2, z3⟩ := tik_zero ha ps
  have e6 := F25.l6_ok v1 g k cap v216 v217 (20 * a.f1) (20 * a.f2) (20 * a.f3) ps r0 wl tk hs hk hW.len2 W.1 [] 0 rfl hW.pos (by omega) (by omega)
  have e6' : F25.l6 (v1, g, k, cap, 0, v216, v217, k, (W.1.length : Int), 0, 20 * a.f1, 20 * a.f2, 20 * a.f3, ps, r0, wl, tk, hs) = some (v1, g, k, cap, sumH W.1, v216, v217, 20 * a.f1, 20 * a.f2, 20 * a.f3, ps, r0, wl, tk, hs) := by
    have := e6; rw [Int.zero_add] at this; exact this
  obtain ⟨r1, r2⟩ := F25.l8_ok (v1 := v1) (v216 := v216) (v217 := v217) (r0 := r0) hW hk hg hg2 hc hc2 (sumH W.1).toNat 0 0 ps tk hs (by omega) (by omega) (by omega) (by omega) hs0 ht hh
  rw [Int.sub_zero, z1, z2, z3] at r1 r2
  refine ⟨fun h => ?_, fun h => ?_⟩
  · obtain ⟨q, r1⟩ := r1 h
    obtain ⟨y1, y2, y3⟩ := tik_end he q
    rw [y1, y2, y3] at r1
    refine ⟨q, ?_⟩
    simp only [F25.t38, hk, e6', bS, r1]
  · simp only [F25.t38, hk, e6', bS, r2 h]

theorem F25.l4_ok {most g : Int} {q0 r0 : List S50} (hg : 1 ≤ g) (hg2 : g ≤ 1000) (hm : 1 ≤ most) (hm2 : most ≤ 1000) {wl : List Wy} (hwl : wl.length ≤ 2000) : ∀ (r pre : List Wy) (a e : S50) (ps : Int) (tk : List S59) (hs : List S38), wl = pre ++ r → Chain q0 a r e → (∀ w ∈ r, Good w) → tk.length ≤ 20000 → hs.length = tk.length →
    F25.l4 (most, g, (wl.length : Int), (pre.length : Int), 20 * a.f1, 20 * a.f2, 20 * a.f3, ps, r0, wl.map (·.1), tk, hs) =
      some (if tk.length + (allW most g r).length ≤ 20000 then .inr (r0, tk ++ (allW most g r).map (·.2), hs ++ (allW most g r).map (·.1)) else .inl 18)
  | [], pre, a, e, ps, tk, hs, h, hc, hgd, ht, hh => by
    subst h
    unfold F25.l4
    rw [lim_out (y := .inr (r0, tk, hs))]
    · simp [allW, ht]
    · simp (disch := omega) only [F25.l4.b, List.append_nil, dF, cF]
  | W :: r, pre, a, e, ps, tk, hs, h, hc, hgd, ht, hh => by
    obtain ⟨ha, c, hE, hc⟩ := hc
    have hW := hgd W (by simp)
    have hl : wl.length = pre.length + r.length + 1 := by rw [h]; simp; omega
    have hml : (wl.map (fun w : Wy => w.1)).length = wl.length := List.length_map _
    have hk : (wl.map (fun w : Wy => w.1)).getD (Int.toNat (pre.length : Int)) [] = W.1 := by
      rw [Int.toNat_natCast, h, map_getD (f := fun w : Wy => w.1) (d := ([], z50)) (by simp), at_app rfl]
    have hlen := hW.len
    obtain ⟨cc1, cc2⟩ := capOf_ok (w := W) hm hm2
    obtain ⟨t1, t2⟩ := F25.t38_ok (v1 := most) (v216 := (wl.length : Int)) (v217 := (pre.length : Int)) (ps := ps) (tk := tk) (hs := hs) (r0 := r0) hW ha hE hk hg hg2 cc1 cc2 ht hh
    have w1 : IntKind.wrap .i64 (most + 1) = most + 1 := w64 (by omega) (by omega)
    have w2 : IntKind.wrap .i64 (Int.tdiv (most + 1) 2) = Int.tdiv (most + 1) 2 := by rw [Int.tdiv_eq_ediv_of_nonneg (by omega)]; exact w64 (by omega) (by omega)
    have w3 : IntKind.wrap .i64 ((pre.length : Int) + 1) = ((pre ++ [W]).length : Int) := by rw [w64 (by omega) (by omega)]; simp
    have d1 : decide ((pre.length : Int) < (wl.length : Int)) = true := dT (by omega)
    have d2 : decide ((0 : Int) ≤ (pre.length : Int)) = true := dT (by omega)
    have d3 : decide ((0 : Int) < (W.1.length : Int)) = true := dT (by omega)
    have g4 : W.1.getD 0 z76 = hd W := rfl
    have hrl : (allW most g (W :: r)).length = (runW W (capOf most W) g (sumH W.1).toNat 0 0).length + (allW most g r).length := by simp [allW]
    by_cases h18 : tk.length + (runW W (capOf most W) g (sumH W.1).toNat 0 0).length ≤ 20000
    · obtain ⟨q, t1⟩ := t1 h18
      have ih := F25.l4_ok (q0 := q0) (r0 := r0) hg hg2 hm hm2 hwl r (pre ++ [W]) c e q (tk ++ (runW W (capOf most W) g (sumH W.1).toNat 0 0).map (·.2)) (hs ++ (runW W (capOf most W) g (sumH W.1).toNat 0 0).map (·.1)) (by simpa using h) hc (fun w hw => hgd w (by simp [hw])) (by simp; omega) (by simp; omega)
      unfold F25.l4 at ih ⊢
      rw [lim_in (x' := (most, g, (wl.length : Int), ((pre ++ [W]).length : Int), 20 * c.f1, 20 * c.f2, 20 * c.f3, q, r0, wl.map (·.1), tk ++ (runW W (capOf most W) g (sumH W.1).toNat 0 0).map (·.2), hs ++ (runW W (capOf most W) g (sumH W.1).toNat 0 0).map (·.1)))]
      · rw [ih, hrl]
        simp only [List.length_append, List.length_map, allW, List.map_append, List.append_assoc, Nat.add_assoc]
      · simp only [F25.l4.b, d1, d2, hml, Bool.and_self, cT, hk, d3, Nat.le_refl, decide_true, Bool.true_and, Int.toNat_zero, g4, w1, w2]
        unfold capOf at t1 ⊢
        cases hf : (hd W).f1 with
        | true =>
          rw [hf] at t1
          simp only [if_true] at t1
          simp only [Bool.not_true, cF, t1, bS, w3, if_true]
        | false =>
          rw [hf] at t1
          simp only [Bool.false_eq_true, if_false] at t1
          simp only [Bool.not_false, cT, t1, bS, w3, Bool.false_eq_true, if_false]
    · have t2 := t2 h18
      unfold F25.l4
      rw [lim_out (y := .inl 18)]
      · rw [if_neg (by omega)]
      · simp only [F25.l4.b, d1, d2, hml, Bool.and_self, cT, hk, d3, Nat.le_refl, decide_true, Bool.true_and, Int.toNat_zero, g4, w1, w2]
        unfold capOf at t2
        cases hf : (hd W).f1 with
        | true =>
          rw [hf] at t2
          simp only [if_true] at t2
          simp only [Bool.not_true, cF, t2, bS]
        | false =>
          rw [hf] at t2
          simp only [Bool.false_eq_true, if_false] at t2
          simp only [Bool.not_false, cT, t2, bS]

/-- All there is to tell of moves that are right: ticks, with how things stand ahead of each. -/
def steps (ms : List S50) (most g : Int) : List (S38 × S59) := allW most g (bld ms 0 z50 [])

theorem InG_z : InG z50 := by unfold InG z50; simp
theorem bldz {ms : List S50} (h : ms.length ≤ 2000) (hi : ∀ m ∈ ms, InG m) (hk : chk z50 ms = true) : (∀ w ∈ bld ms 0 z50 [], Good w) ∧ (∃ e, Chain ms z50 (bld ms 0 z50 []) e) ∧ (bld ms 0 z50 []).length ≤ 2000 := by
  obtain ⟨h1, h2⟩ := bld_ok (r0 := ms) ms [] z50 z50 [] rfl h InG_z hi ⟨rfl, rfl, rfl⟩ hk (by simp) ⟨rfl, rfl, rfl⟩
  obtain ⟨_, _, h3⟩ := F31.l0_ok ms [] z50 z50 [] h InG_z hi rfl rfl rfl hk (by simp) (by simp)
  exact ⟨fun w hw => good_of h (h1 w hw), h2, Nat.le_trans h3 h⟩

/-- What the controller answers: a code, ticks and how things stand. -/
def ctl (ms : List S50) (most g : Int) : (List S59 × List S38) × Int :=
  if cde ms most g = 0 then (if (steps ms most g).length ≤ 20000 then (((steps ms most g).map (·.2), (steps ms most g).map (·.1) ++ [⟨(ms.length : Int), 0, 0⟩]), 0) else (([], []), 18)) else (([], []), cde ms most g)

theorem cde_zero {ms : List S50} {most g : Int} (h : cde ms most g = 0) : ms.length ≤ 2000 ∧ 1 ≤ most ∧ most ≤ 1000 ∧ 1 ≤ g ∧ g ≤ most ∧ (∀ m ∈ ms, InG m) ∧ chk z50 ms = true := by
  unfold cde at h
  by_cases h1 : ms.length > 4096
  · rw [if_pos h1] at h; omega
  · rw [if_neg h1] at h
    by_cases h2 : most < 1 ∨ most > 1000 ∨ g < 1 ∨ g > most
    · rw [if_pos h2] at h; omega
    · rw [if_neg h2] at h
      by_cases h3 : ms.length > 2000
      · rw [if_pos h3] at h; omega
      · rw [if_neg h3] at h
        cases h4 : ms.all inG with
        | false => rw [h4] at h; simp at h
        | true =>
          rw [h4] at h
          cases h5 : chk z50 ms with
          | false => rw [h5] at h; simp at h
          | true =>
            refine ⟨by omega, by omega, by omega, by omega, by omega, fun m hm => ?_, rfl⟩
            exact inG_iff.1 (List.all_eq_true.1 h4 m hm)

theorem F25.l0_ok (v1 v2 : Int) : ∀ (r pre : List S50), (pre ++ r).length ≤ 5000 → F25.l0 (v1, v2, ((pre ++ r).length : Int), (pre.length : Int), pre ++ r) = some (if r.all inG then .inr (v1, v2, pre ++ r) else .inl 1)
  | [], pre, h => by
    unfold F25.l0
    rw [lim_out (y := .inr (v1, v2, pre ++ []))]
    · simp
    · simp (disch := omega) only [F25.l0.b, List.append_nil, dF, cF]
  | m :: r, pre, h => by
    have hl : (pre ++ m :: r).length = pre.length + r.length + 1 := by simp; omega
    have hg : (pre ++ m :: r).getD pre.length z50 = m := at_app rfl
    have d1 : decide ((pre.length : Int) < ((pre ++ m :: r).length : Int)) = true := dT (by omega)
    have d2 : decide ((0 : Int) ≤ (pre.length : Int)) = true := dT (by omega)
    have w3 : IntKind.wrap .i64 ((pre.length : Int) + 1) = ((pre ++ [m]).length : Int) := by rw [w64 (by omega) (by omega)]; simp
    unfold F25.l0
    cases hm : inG m with
    | true =>
      have ih := F25.l0_ok v1 v2 r (pre ++ [m]) (by simpa using h)
      unfold F25.l0 at ih
      simp only [List.append_assoc, List.singleton_append] at ih
      rw [lim_in (x' := (v1, v2, ((pre ++ m :: r).length : Int), ((pre ++ [m]).length : Int), pre ++ m :: r))]
      · rw [ih]
        simp only [List.all_cons, hm, Bool.true_and]
      · have := inG_iff.1 hm
        obtain ⟨a1, a2, a3, a4, a5, a6⟩ := this
        simp (disch := omega) only [F25.l0.b, hg, d1, d2, dF, Bool.and_self, cT, cF, Int.toNat_natCast, Bool.or_self, w3]
    | false =>
      rw [lim_out (y := .inl 1)]
      · simp [hm]
      · unfold inG at hm
        simp only [Bool.not_eq_false'] at hm
        simp only [F25.l0.b, hg, d1, d2, Bool.and_self, cT, Int.toNat_natCast, hm]

theorem F25.ok (ms : List S50) (most g : Int) : F25.F (ms, most, g) = some (ctl ms most g) := by
  unfold ctl
  by_cases h1 : ms.length > 4096
  · have : cde ms most g = 2 := by unfold cde; rw [if_pos h1]
    rw [this]
    simp (disch := omega) only [F25.F, dT, cT]
    rfl
  · by_cases h2 : most < 1 ∨ most > 1000 ∨ g < 1 ∨ g > most
    · have : cde ms most g = 1 := by unfold cde; rw [if_neg h1, if_pos h2]
      rw [this]
      have : ((((decide (most < 1)) || (decide (most > 1000))) || (decide (g < 1))) || (decide (g > most))) = true := by simpa [or_assoc] using h2
      have d : decide ((ms.length : Int) > 4096) = false := dF (by omega)
      simp only [F25.F, d, cF, this, cT]
      rfl
    · by_cases h3 : ms.length > 2000
      · have : cde ms most g = 10 := by unfold cde; rw [if_neg h1, if_neg h2, if_pos h3]
        rw [this]
        simp (disch := omega) only [F25.F, dF, dT, cF, Bool.or_self, cT]
        rfl
      · have e1 := F25.l0_ok most g ms [] (by simp; omega)
        simp only [List.nil_append, List.length_nil] at e1
        have e1' : F25.l0 (most, g, (ms.length : Int), 0, ms) = _ := e1
        have d1 : decide ((ms.length : Int) > 4096) = false := dF (by omega)
        have d2 : decide (most < 1) = false := dF (by omega)
        have d3 : decide (most > 1000) = false := dF (by omega)
        have d4 : decide (g < 1) = false := dF (by omega)
        have d5 : decide (g > most) = false := dF (by omega)
        have d6 : decide ((ms.length : Int) > 2000) = false := dF (by omega)
        simp only [F25.F, d1, d2, d3, d4, d5, d6, cF, Bool.or_self, e1', bS]
        have hcde : cde ms most g = if ms.all inG then (if chk z50 ms then 0 else 13) else 1 := by unfold cde; rw [if_neg h1, if_neg h2, if_neg h3]
        cases h4 : ms.all inG with
        | false => rw [hcde, h4]; rfl
        | true =>
          simp only [if_true]
          have hi : ∀ m ∈ ms, InG m := fun m hm => inG_iff.1 (List.all_eq_true.1 h4 m hm)
          have e2 := F25.l2_ok most g ms [] z50 z50 [] (by simp; omega) InG_z hi rfl rfl rfl (by simp) (by simp)
          simp only [List.nil_append, List.length_nil, List.map_nil] at e2
          have e2' : F25.l2 (most, g, (ms.length : Int), 0, false, 0, 0, 0, ms, []) = _ := e2
          rw [e2']
          cases h5 : chk z50 ms with
          | false => rw [hcde, h4, h5]; rfl
          | true =>
            obtain ⟨b1, ⟨e, b2⟩, b3⟩ := bldz (by omega) hi h5
            have e4 := F25.l4_ok (q0 := ms) (r0 := ms) (most := most) (g := g) (by omega) (by omega) (by omega) (by omega) b3 (bld ms 0 z50 []) [] z50 e 0 [] [] rfl b2 b1 (by simp) (by simp)
            have e4' : F25.l4 (most, g, ((bld ms 0 z50 []).length : Int), 0, 0, 0, 0, 0, ms, (bld ms 0 z50 []).map (·.1), [], []) = _ := e4
            have hz : cde ms most g = 0 := by rw [hcde, h4, h5]; rfl
            rw [if_pos hz]
            have hml : ((bld ms 0 z50 []).map (fun w : Wy => w.1)).length = (bld ms 0 z50 []).length := List.length_map _
            have eb : bld ms ((0 : Nat) : Int) z50 [] = bld ms 0 z50 [] := rfl
            simp only [if_true, bS, eb, hml, e4', List.length_nil, Nat.zero_add, List.nil_append]
            unfold steps
            by_cases h6 : (allW most g (bld ms 0 z50 [])).length ≤ 20000
            · rw [if_pos h6, if_pos h6]
              have : decide (((allW most g (bld ms 0 z50 [])).map (fun x => x.1)).length + [(⟨(ms.length : Int), 0, 0⟩ : S38)].length ≤ 274877906944) = true := dT (by simp only [List.length_map, List.length_singleton]; omega)
              simp only [this, cT]
            · rw [if_neg h6, if_neg h6]

end Go.Proofs.Ytpingihfadihfaa.AX

/- The controller, plainly: what the reference answers. No conditions. -/
namespace Go.Proofs.Ytpingihfadihfaa.AX
open Go

theorem F32.l0_ok {r0 : List S50} {e : S50} (hn : r0.length ≤ 2000) {W : List S76} (hWn : W.length ≤ 2000) (sp x1 x2 x5 x6 x7 x8 : Int) (x3 x4 : Bool) : ∀ (r pre : List S76) (p : S50) (d : Int), W = pre ++ r → InG p → Lnk r0 p r e → 0 ≤ d → d ≤ 100000000 → d < sumH r →
    F32.l0 (d, sp, (pre.length : Int), x1, x2, x3, x4, x5, x6, x7, x8, 0, 0, 0, p.f0, p.f1, p.f2, p.f3, r0, W.map (·.f0)) = some (.inl ((hldAt r d sp).f0, (hldAt r d sp).f1, (hldAt r d sp).f2))
  | [], pre, p, d, h, hp, hl, h1, h2, h3 => by simp [sumH] at h3; omega
  | s :: r, pre, p, d, h, hp, hl, h1, h2, h3 => by
    obtain ⟨m, k1, k2, k3, k4, k5, k6⟩ := hl
    have hlen : W.length = pre.length + r.length + 1 := by rw [h]; simp; omega
    have hml : (W.map (·.f0)).length = W.length := List.length_map _
    have hg : (W.map (·.f0)).getD pre.length 0 = s.f0 := by rw [h, map_getD (f := fun s : S76 => s.f0) (d := z76) (by simp), at_app rfl]
    have km := k4
    obtain ⟨p1, p2, p3, p4, p5, p6⟩ := hp
    obtain ⟨m1, m2, m3, m4, m5, m6⟩ := k4
    have b1 := ab_le (n := m.f1 - p.f1) (by omega) (by omega)
    have b2 := ab_le (n := m.f2 - p.f2) (by omega) (by omega)
    have b3 := ab_le (n := m.f3 - p.f3) (by omega) (by omega)
    have w1 : IntKind.wrap .i64 (m.f1 - p.f1) = m.f1 - p.f1 := w64 (by omega) (by omega)
    have w2 : IntKind.wrap .i64 (m.f2 - p.f2) = m.f2 - p.f2 := w64 (by omega) (by omega)
    have w3 : IntKind.wrap .i64 (m.f3 - p.f3) = m.f3 - p.f3 := w64 (by omega) (by omega)
    have w6 : IntKind.wrap .i64 (ab (m.f1 - p.f1) + ab (m.f2 - p.f2)) = ab (m.f1 - p.f1) + ab (m.f2 - p.f2) := w64 (by omega) (by omega)
    have w7 : IntKind.wrap .i64 (ab (m.f1 - p.f1) + ab (m.f2 - p.f2) + ab (m.f3 - p.f3)) = ab (m.f1 - p.f1) + ab (m.f2 - p.f2) + ab (m.f3 - p.f3) := w64 (by omega) (by omega)
    have w8 : IntKind.wrap .i64 (20 * (ab (m.f1 - p.f1) + ab (m.f2 - p.f2) + ab (m.f3 - p.f3))) = s.f5 := by rw [w64 (by omega) (by omega), k5]
    have f1 := F44.ok (n := m.f1 - p.f1) (by omega) (by omega)
    have f2 := F44.ok (n := m.f2 - p.f2) (by omega) (by omega)
    have f3 := F44.ok (n := m.f3 - p.f3) (by omega) (by omega)
    have d1 : decide ((pre.length : Int) < (W.length : Int)) = true := dT (by omega)
    have d2 : decide ((0 : Int) ≤ (pre.length : Int)) = true := dT (by omega)
    have d3 : decide ((0 : Int) ≤ s.f0) = true := dT k1
    have d4 : decide (s.f0 < (r0.length : Int)) = true := dT (by omega)
    have w9 : IntKind.wrap .i64 ((pre.length : Int) + 1) = ((pre ++ [s]).length : Int) := by rw [w64 (by omega) (by omega)]; simp
    have h5 : 0 ≤ s.f5 := by omega
    have w10 : IntKind.wrap .i64 (d - s.f5) = d - s.f5 := w64 (by omega) (by omega)
    simp only [sumH] at h3
    unfold F32.l0
    by_cases hlt : d < s.f5
    · have d5 : decide (d < s.f5) = true := dT hlt
      rw [lim_out (y := .inl (s.f0, d, sp))]
      · simp only [hldAt, if_pos hlt]
      · simp only [F32.l0.b, hml, d1, d2, d3, d4, Bool.and_self, cT, Int.toNat_natCast, hg, k3, f1, f2, f3, w1, w2, w3, w6, w7, w8, bS, d5]
    · have d5 : decide (d < s.f5) = false := dF hlt
      have ih := F32.l0_ok hn hWn sp x1 x2 x5 x6 x7 x8 x3 x4 r (pre ++ [s]) m (d - s.f5) (by simpa using h) km k6 (by omega) (by omega) (by omega)
      unfold F32.l0 at ih
      rw [lim_in (x' := (d - s.f5, sp, ((pre ++ [s]).length : Int), x1, x2, x3, x4, x5, x6, x7, x8, 0, 0, 0, m.f0, m.f1, m.f2, m.f3, r0, W.map (·.f0)))]
      · rw [ih]; simp only [hldAt, if_neg hlt]
      · simp only [F32.l0.b, hml, d1, d2, d3, d4, Bool.and_self, cT, cF, Int.toNat_natCast, hg, k3, f1, f2, f3, w1, w2, w3, w6, w7, w8, bS, d5, w9, w10]

theorem F32.ok {r0 : List S50} {W : Wy} {e : S50} (hn : r0.length ≤ 2000) (hW : Good W) (he : Ends r0 W e) {d sp : Int} (h1 : 0 ≤ d) (h2 : d < sumH W.1) :
    F32.F (r0, ((toW W).f0, (toW W).f1, (toW W).f2, (toW W).f3, (toW W).f4, (toW W).f5, (toW W).f6, (toW W).f7, (toW W).f8), d, sp) = some ((hldAt W.1 d sp).f0, (hldAt W.1 d sp).f1, (hldAt W.1 d sp).f2) := by
  have := F32.l0_ok hn hW.len2 sp (ax (hd W)) (dr (hd W)) W.2.f1 W.2.f2 W.2.f3 (sumH W.1) (hd W).f1 W.2.f0 W.1 [] W.2 d rfl hW.frm he.2 h1 (by have := hW.sum; omega) h2
  have this' : F32.l0 (d, sp, 0, ax (hd W), dr (hd W), (hd W).f1, W.2.f0, W.2.f1, W.2.f2, W.2.f3, sumH W.1, 0, 0, 0, W.2.f0, W.2.f1, W.2.f2, W.2.f3, r0, W.1.map (·.f0)) = _ := this
  unfold toW
  simp only [F32.F, this', bS]

theorem F34.ok {W : Wy} (hW : Good W) {d sp : Int} (h1 : 0 ≤ d) (h2 : d ≤ 20000000) :
    F34.F (((toW W).f0, (toW W).f1, (toW W).f2, (toW W).f3, (toW W).f4, (toW W).f5, (toW W).f6, (toW W).f7, (toW W).f8), d) = some ((tik W d sp).f0, (tik W d sp).f1, (tik W d sp).f2, 0) := by
  obtain ⟨g1, g2, g3, g4, g5, g6⟩ := hW.frm
  have hdir := hW.dir
  unfold toW tik ax dr
  have w1 : IntKind.wrap .i64 (W.2.f1 * 20) = 20 * W.2.f1 := by rw [w64 (by omega) (by omega)]; omega
  have w2 : IntKind.wrap .i64 (W.2.f2 * 20) = 20 * W.2.f2 := by rw [w64 (by omega) (by omega)]; omega
  have w3 : IntKind.wrap .i64 (W.2.f3 * 20) = 20 * W.2.f3 := by rw [w64 (by omega) (by omega)]; omega
  unfold dirOk at hdir
  generalize hd W = s at *
  rcases hdir with ⟨k1, k2, k3⟩ | ⟨k1, k2, k3⟩ | ⟨k1, k2, k3⟩
  · have hne : ¬ s.f2 = 0 := by omega
    have b := mul_dir (x := s.f2) (v := d) (by omega) h1
    have w4 : IntKind.wrap .i64 (s.f2 * d) = d * s.f2 := by rw [Int.mul_comm]; exact w64 (by omega) (by omega)
    have w5 : IntKind.wrap .i64 (20 * W.2.f1 + d * s.f2) = 20 * W.2.f1 + d * s.f2 := w64 (by omega) (by omega)
    have q : ((1 : Int) == 1) = true := rfl
    simp only [F34.F, if_neg hne, q, cT, w1, w2, w3, w4, w5, k2, k3, Int.mul_zero, Int.add_zero]
  · have hne : ¬ s.f3 = 0 := by omega
    have b := mul_dir (x := s.f3) (v := d) (by omega) h1
    have w4 : IntKind.wrap .i64 (s.f3 * d) = d * s.f3 := by rw [Int.mul_comm]; exact w64 (by omega) (by omega)
    have w5 : IntKind.wrap .i64 (20 * W.2.f2 + d * s.f3) = 20 * W.2.f2 + d * s.f3 := w64 (by omega) (by omega)
    have q : ((2 : Int) == 1) = false := rfl
    have q2 : ((2 : Int) == 2) = true := rfl
    simp only [F34.F, if_pos k1, if_neg hne, q, q2, cT, cF, w1, w2, w3, w4, w5, k1, k3, if_true, Int.mul_zero, Int.add_zero]
  · have b := mul_dir (x := s.f4) (v := d) (by omega) h1
    have w4 : IntKind.wrap .i64 (s.f4 * d) = d * s.f4 := by rw [Int.mul_comm]; exact w64 (by omega) (by omega)
    have w5 : IntKind.wrap .i64 (20 * W.2.f3 + d * s.f4) = 20 * W.2.f3 + d * s.f4 := w64 (by omega) (by omega)
    have q : ((3 : Int) == 1) = false := rfl
    have q2 : ((3 : Int) == 2) = false := rfl
    simp only [F34.F, if_pos k1, if_pos k2, q, q2, cF, w1, w2, w3, w4, w5, k1, k2, if_true, Int.mul_zero, Int.add_zero]

theorem F23.l2_step {most g cap d sp v13 : Int} {k : Int} {W : Wy} {e : S50} {r0 : List S50} {wl : List S69} {tk : List S59} {hs : List S38} (hn : r0.length ≤ 2000) (hW : Good W) (he : Ends r0 W e) (hk : wl.getD (Int.toNat k) z69 = toW W) (hg : 1 ≤ g) (hg2 : g ≤ 1000) (hc : 1 ≤ cap) (hc2 : cap ≤ 1000) (hsp : 0 ≤ sp) (hsp2 : sp ≤ 1000)
    (hd0 : 0 ≤ d) (hd1 : d < sumH W.1) (ht : tk.length ≤ 20000) (hh : hs.length ≤ 20000) :
    F23.l2.b (most, g, v13, cap, d, sp, k, (toW W).f1, (toW W).f2, (toW W).f3, (toW W).f4, (toW W).f5, (toW W).f6, (toW W).f7, (toW W).f8, r0, wl, tk, hs) =
      if tk.length ≥ 20000 then some (.inr (.inl (18, [], []))) else
      some (.inl (most, g, v13, cap, d + nxt cap g (sumH W.1 - d) sp, nxt cap g (sumH W.1 - d) sp, k, (toW W).f1, (toW W).f2, (toW W).f3, (toW W).f4, (toW W).f5, (toW W).f6, (toW W).f7, (toW W).f8, r0, wl,
        tk ++ [tik W (d + nxt cap g (sumH W.1 - d) sp) (nxt cap g (sumH W.1 - d) sp)], hs ++ [hldAt W.1 d sp])) := by
  have hsum := hW.sum
  have n1 := nxt_ok (left := sumH W.1 - d) hg hg2 hc hc2 hsp hsp2 (by omega)
  have e32 := F32.ok (sp := sp) hn hW he hd0 hd1
  have e33 := F33.ok (left := sumH W.1 - d) hg hg2 hc hc2 hsp hsp2
  have e33' : F33.F (sp, cap, g, sumH W.1 - d) = some (nxt cap g (sumH W.1 - d) sp) := e33
  have e34 := F34.ok hW (d := d + nxt cap g (sumH W.1 - d) sp) (sp := nxt cap g (sumH W.1 - d) sp) (by omega) (by omega)
  have f8 : (toW W).f8 = sumH W.1 := rfl
  have g0 : decide (d < sumH W.1) = true := dT hd1
  have g1 : decide (hs.length + 1 ≤ 274877906944) = true := dT (by omega)
  have g5 : decide (tk.length + 1 ≤ 274877906944) = true := dT (by omega)
  have g6 : IntKind.wrap .i64 (sumH W.1 - d) = sumH W.1 - d := w64 (by omega) (by omega)
  have g7 : IntKind.wrap .i64 (d + nxt cap g (sumH W.1 - d) sp) = d + nxt cap g (sumH W.1 - d) sp := w64 (by omega) (by omega)
  have g8 : (⟨(hldAt W.1 d sp).f0, (hldAt W.1 d sp).f1, (hldAt W.1 d sp).f2⟩ : S38) = hldAt W.1 d sp := rfl
  have g9 : ∀ v, (⟨(tik W (d + v) v).f0, (tik W (d + v) v).f1, (tik W (d + v) v).f2, v⟩ : S59) = tik W (d + v) v := fun v => rfl
  rw [f8] at e32 e34 ⊢
  generalize hv : nxt cap g (sumH W.1 - d) sp = v at *
  simp only [F23.l2.b, g0, cT, hk, e32, bS, g1, g8, g6, e33', g7, e34, g9, g5, List.length_append, List.length_singleton]
  by_cases h18 : tk.length ≥ 20000
  · have : decide (((tk.length + 1 : Nat) : Int) > 20000) = true := dT (by omega)
    rw [if_pos h18, this, cT]
  · have : decide (((tk.length + 1 : Nat) : Int) > 20000) = false := dF (by omega)
    rw [if_neg h18, this, cF]

theorem F23.l2_ok {most g cap v13 : Int} {k : Int} {W : Wy} {e : S50} {r0 : List S50} {wl : List S69} (hn : r0.length ≤ 2000) (hW : Good W) (he : Ends r0 W e) (hk : wl.getD (Int.toNat k) z69 = toW W) (hg : 1 ≤ g) (hg2 : g ≤ 1000) (hc : 1 ≤ cap) (hc2 : cap ≤ 1000) : ∀ (n : Nat) (d sp : Int) (tk : List S59) (hs : List S38), sumH W.1 - d ≤ n → 0 ≤ sp → sp ≤ 1000 → 0 ≤ d → d ≤ sumH W.1 → tk.length ≤ 20000 → hs.length = tk.length →
    F23.l2 (most, g, v13, cap, d, sp, k, (toW W).f1, (toW W).f2, (toW W).f3, (toW W).f4, (toW W).f5, (toW W).f6, (toW W).f7, (toW W).f8, r0, wl, tk, hs) =
      some (if tk.length + (runW W cap g n d sp).length ≤ 20000 then .inr (most, g, v13, r0, wl, tk ++ (runW W cap g n d sp).map (·.2), hs ++ (runW W cap g n d sp).map (·.1)) else .inl (18, [], []))
  | n, d, sp, tk, hs, hnn, h1, h2, h3, h4, h5, h6 => by
    by_cases hlt : d < sumH W.1
    · cases n with
      | zero => omega
      | succ n =>
        have n1 := nxt_ok (left := sumH W.1 - d) hg hg2 hc hc2 h1 h2 (by omega)
        have hst := F23.l2_step (most := most) (v13 := v13) (tk := tk) (hs := hs) hn hW he hk hg hg2 hc hc2 h1 h2 h3 hlt h5 (by omega)
        have hrun : runW W cap g (n + 1) d sp = (hldAt W.1 d sp, tik W (d + nxt cap g (sumH W.1 - d) sp) (nxt cap g (sumH W.1 - d) sp)) :: runW W cap g n (d + nxt cap g (sumH W.1 - d) sp) (nxt cap g (sumH W.1 - d) sp) := by simp only [runW, if_pos hlt]
        unfold F23.l2
        by_cases h18 : tk.length ≥ 20000
        · rw [if_pos h18] at hst
          rw [lim_out hst, hrun, if_neg (by simp; omega)]
        · rw [if_neg h18] at hst
          rw [lim_in hst]
          generalize nxt cap g (sumH W.1 - d) sp = v at *
          have ih := F23.l2_ok (most := most) (v13 := v13) hn hW he hk hg hg2 hc hc2 n (d + v) v (tk ++ [tik W (d + v) v]) (hs ++ [hldAt W.1 d sp]) (by omega) (by omega) (by omega) (by omega) (by omega) (by simp; omega) (by simp; omega)
          unfold F23.l2 at ih
          rw [ih, hrun]
          simp only [List.length_append, List.length_singleton, List.append_assoc, List.singleton_append, List.length_cons, List.length_nil, Nat.zero_add, List.map_cons, Nat.add_assoc, Nat.add_comm 1]
    · have hrun : runW W cap g n d sp = [] := by
        cases n with
        | zero => rfl
        | succ n => simp only [runW, if_neg hlt]
      rw [hrun]
      unfold F23.l2
      rw [lim_out (y := .inr (most, g, v13, r0, wl, tk, hs))]
      · simp [h5]
      · have f8 : (toW W).f8 = sumH W.1 := rfl
        have g0 : decide (d < sumH W.1) = false := dF hlt
        simp only [F23.l2.b, f8, g0, cF]

theorem F23.l0_ok {most g : Int} {r0 : List S50} (hn : r0.length ≤ 2000) (hg : 1 ≤ g) (hg2 : g ≤ 1000) (hm : 1 ≤ most) (hm2 : most ≤ 1000) {wl : List Wy} (hwl : wl.length ≤ 2000) : ∀ (r pre : List Wy) (a e : S50) (tk : List S59) (hs : List S38), wl = pre ++ r → Chain r0 a r e → (∀ w ∈ r, Good w) → tk.length ≤ 20000 → hs.length = tk.length →
    F23.l0 (most, g, (pre.length : Int), r0, wl.map toW, tk, hs) =
      some (if tk.length + (allW most g r).length ≤ 20000 then .inr (r0, tk ++ (allW most g r).map (·.2), hs ++ (allW most g r).map (·.1)) else .inl (18, [], []))
  | [], pre, a, e, tk, hs, h, hc, hgd, ht, hh => by
    subst h
    unfold F23.l0
    rw [lim_out (y := .inr (r0, tk, hs))]
    · simp [allW, ht]
    · simp (disch := omega) only [F23.l0.b, List.append_nil, List.length_map, dF, cF]
  | W :: r, pre, a, e, tk, hs, h, hc, hgd, ht, hh => by
    obtain ⟨ha, c, hE, hc⟩ := hc
    have hW := hgd W (by simp)
    have hl : wl.length = pre.length + r.length + 1 := by rw [h]; simp; omega
    have hml : (wl.map toW).length = wl.length := List.length_map _
    have hk : (wl.map toW).getD pre.length z69 = toW W := by
      rw [h, map_getD (f := toW) (d := ([], z50)) (by simp), at_app rfl]
    have hk2 : (wl.map toW).getD (Int.toNat (pre.length : Int)) z69 = toW W := by rw [Int.toNat_natCast]; exact hk
    obtain ⟨cc1, cc2⟩ := capOf_ok (w := W) hm hm2
    have hs0 := sumH_nn hW.pos
    have t1 := F23.l2_ok (most := most) (v13 := (pre.length : Int)) hn hW hE hk2 hg hg2 cc1 cc2 (sumH W.1).toNat 0 0 tk hs (by omega) (by omega) (by omega) (by omega) hs0 ht hh
    have w1 : IntKind.wrap .i64 (most + 1) = most + 1 := w64 (by omega) (by omega)
    have w2 : IntKind.wrap .i64 (Int.tdiv (most + 1) 2) = Int.tdiv (most + 1) 2 := by rw [Int.tdiv_eq_ediv_of_nonneg (by omega)]; exact w64 (by omega) (by omega)
    have w3 : IntKind.wrap .i64 ((pre.length : Int) + 1) = ((pre ++ [W]).length : Int) := by rw [w64 (by omega) (by omega)]; simp
    have d1 : decide ((pre.length : Int) < (wl.length : Int)) = true := dT (by omega)
    have d2 : decide ((0 : Int) ≤ (pre.length : Int)) = true := dT (by omega)
    have f3 : (toW W).f3 = (hd W).f1 := rfl
    have hrl : (allW most g (W :: r)).length = (runW W (capOf most W) g (sumH W.1).toNat 0 0).length + (allW most g r).length := by simp [allW]
    have hst : F23.l0.b (most, g, (pre.length : Int), r0, wl.map toW, tk, hs) = if tk.length + (runW W (capOf most W) g (sumH W.1).toNat 0 0).length ≤ 20000 then some (.inl (most, g, ((pre ++ [W]).length : Int), r0, wl.map toW, tk ++ (runW W (capOf most W) g (sumH W.1).toNat 0 0).map (·.2), hs ++ (runW W (capOf most W) g (sumH W.1).toNat 0 0).map (·.1))) else some (.inr (.inl (18, [], []))) := by
      simp only [F23.l0.b, hml, d1, d2, Bool.and_self, cT, Int.toNat_natCast, hk]
      unfold capOf at t1 ⊢
      cases hf : (hd W).f1 with
      | true =>
        rw [hf] at t1
        simp only [if_true] at t1 ⊢
        have f3' : (toW W).f3 = true := by rw [f3, hf]
        rw [f3'] at t1
        simp only [f3', Bool.not_true, cF, F23.t14, t1, bS]
        by_cases h18 : tk.length + (runW W most g (sumH W.1).toNat 0 0).length ≤ 20000
        · rw [if_pos h18, if_pos h18]; simp only [bS, w3]
        · rw [if_neg h18, if_neg h18]; simp only [bS]
      | false =>
        rw [hf] at t1
        simp only [Bool.false_eq_true, if_false] at t1 ⊢
        have f3' : (toW W).f3 = false := by rw [f3, hf]
        rw [f3'] at t1
        simp only [f3', Bool.not_false, cT, F23.t14, w1, w2, t1, bS]
        by_cases h18 : tk.length + (runW W (Int.tdiv (most + 1) 2) g (sumH W.1).toNat 0 0).length ≤ 20000
        · rw [if_pos h18, if_pos h18]; simp only [bS, w3]
        · rw [if_neg h18, if_neg h18]; simp only [bS]
    unfold F23.l0
    by_cases h18 : tk.length + (runW W (capOf most W) g (sumH W.1).toNat 0 0).length ≤ 20000
    · rw [if_pos h18] at hst
      have ih := F23.l0_ok hn hg hg2 hm hm2 hwl r (pre ++ [W]) c e (tk ++ (runW W (capOf most W) g (sumH W.1).toNat 0 0).map (·.2)) (hs ++ (runW W (capOf most W) g (sumH W.1).toNat 0 0).map (·.1)) (by simpa using h) hc (fun w hw => hgd w (by simp [hw])) (by simp; omega) (by simp; omega)
      unfold F23.l0 at ih
      rw [lim_in hst, ih, hrl]
      simp only [List.length_append, List.length_map, allW, List.map_append, List.append_assoc, Nat.add_assoc]
    · rw [if_neg h18] at hst
      rw [lim_out hst, if_neg (by omega)]

theorem F23.ok (ms : List S50) (most g : Int) : F23.F (ms, most, g) = some ((ctl ms most g).1.1, (ctl ms most g).1.2, (ctl ms most g).2) := by
  unfold ctl
  by_cases h : cde ms most g = 0
  · obtain ⟨k1, k2, k3, k4, k5, k6, k7⟩ := cde_zero h
    obtain ⟨b1, ⟨e, b2⟩, b3⟩ := bldz k1 k6 k7
    have e31 := (F31.l0_ok ms [] z50 z50 [] k1 InG_z k6 rfl rfl rfl k7 (by simp) (by simp)).1
    simp only [List.nil_append, List.length_nil, List.map_nil] at e31
    have e31' : F31.l0 (0, false, 0, 0, 0, ms, []) = some ((bld ms 0 z50 []).map toW) := e31
    have e0 := F23.l0_ok k1 (most := most) (g := g) (by omega) (by omega) (by omega) (by omega) b3 (bld ms 0 z50 []) [] z50 e [] [] rfl b2 b1 (by simp) (by simp)
    have e0' : F23.l0 (most, g, 0, ms, (bld ms 0 z50 []).map toW, [], []) = _ := e0
    have q0 : ((0 : Int) != 0) = false := rfl
    rw [if_pos h]
    simp only [F23.F, F30.ok, bS, h, q0, cF, F31.F, e31', e0', List.length_nil, Nat.zero_add, List.nil_append]
    unfold steps
    by_cases h6 : (allW most g (bld ms 0 z50 [])).length ≤ 20000
    · rw [if_pos h6, if_pos h6]
      have : decide (((allW most g (bld ms 0 z50 [])).map (fun x => x.1)).length + [(⟨(ms.length : Int), 0, 0⟩ : S38)].length ≤ 274877906944) = true := dT (by simp only [List.length_map, List.length_singleton]; omega)
      simp only [this, cT]
    · rw [if_neg h6, if_neg h6]
  · have q0 : (cde ms most g != 0) = true := nT h
    rw [if_neg h]
    simp only [F23.F, F30.ok, bS, q0, cT]

end Go.Proofs.Ytpingihfadihfaa.AX

/- The controller's law, plainly. No conditions. -/
namespace Go.Proofs.Ytpingihfadihfaa.AX
open Go

theorem steps_ok {ms : List S50} {most g : Int} : (ctl ms most g).1.1.length ≤ 20000 := by
  unfold ctl
  split
  · split
    · simp; assumption
    · simp
  · simp

theorem F7.ok (ms : List S50) (most g : Int) : F7.F (ms, most, g) = some ((ctl ms most g).1.1, (ctl ms most g).2) := by
  simp only [F7.F, F23.ok, bS]

theorem F9.ok (ms : List S50) (most g : Int) : F9.F (ms, most, g) = some ((ctl ms most g).1.1, (ctl ms most g).2) := by
  simp only [F9.F, F25.ok, bS]
  by_cases h : (ctl ms most g).2 = 0
  · rw [nF h, cF, h]
  · rw [nT h, cT]
    have : (ctl ms most g).1.1 = [] := by
      unfold ctl at h ⊢
      split
      · split
        · exfalso; rename_i h1 h2; rw [if_pos h1, if_pos h2] at h; exact h rfl
        · rfl
      · rfl
    rw [this]

theorem F3.law (ms : List S50) (most g : Int) (hm : ∀ n, RowOk (U := uni) ky n 0 ms) (h1 : (Lit.int .i64 most).wf = true) (h2 : (Lit.int .i64 g).wf = true) : F3.F (ms, most, g) = some true :=
  F3.law_of (fun _ => ⟨F7.ok ms most g, F9.ok ms most g, steps_ok⟩) (by have h : ms.length ≤ maxLen := (hm 0).1; unfold maxLen at h; omega)

end Go.Proofs.Ytpingihfadihfaa.AX

/- What resuming answers, program and reference. No conditions. -/
namespace Go.Proofs.Ytpingihfadihfaa.AX
open Go

def heq (a b c : Int) (x : S38) : Bool := (x.f0 == a) && ((x.f1 == b) && (x.f2 == c))
def fnd (a b c : Int) : Nat → List S38 → Option Nat
  | _, [] => none
  | i, x :: r => if heq a b c x then some i else fnd a b c (i + 1) r

def outR (tk : List S59) : Option Nat → (Int × List S59) ⊕ Unit
  | some i => .inl (0, tk.drop i)
  | none => .inr ()

theorem F21.l0_ok {a b c : Int} {tk : List S59} (ht : tk.length ≤ 20000) : ∀ (r pre : List S38), (pre ++ r).length ≤ tk.length + 1 →
    F21.l0 ((pre.length : Int), a, b, c, tk, pre ++ r) = some (outR tk (fnd a b c pre.length r))
  | [], pre, h => by
    unfold F21.l0
    rw [lim_out (y := .inr ()) (by simp (disch := omega) only [F21.l0.b, List.append_nil, dF, cF])]
    rfl
  | x :: r, pre, h => by
    simp only [List.length_append, List.length_cons] at h
    have e1 : (pre ++ x :: r).getD (Int.toNat (pre.length : Int)) z38 = x := at_app (by simp)
    have d1 : decide ((pre.length : Int) < ((pre ++ x :: r).length : Int)) = true := dT (by simp; omega)
    have d2 : decide ((0 : Int) ≤ (pre.length : Int)) = true := dT (by omega)
    have d3 : decide ((pre.length : Int) ≤ (tk.length : Int)) = true := dT (by omega)
    have d4 : decide ((tk.length : Int) ≤ (tk.length : Int)) = true := dT (by omega)
    unfold F21.l0
    cases hq : heq a b c x with
    | true =>
      have hq' := hq
      unfold heq at hq'
      have ex : List.take (Int.toNat ((tk.length : Int) - (pre.length : Int))) (List.drop (Int.toNat (pre.length : Int)) tk) = tk.drop pre.length := by
        rw [List.take_of_length_le (by simp)]; simp
      have d5 : decide (([] : List S59).length + (tk.drop pre.length).length ≤ 274877906944) = true := dT (by simp; omega)
      rw [lim_out (y := .inl (0, tk.drop pre.length)) (by simp only [F21.l0.b, e1, hq', d1, d2, d3, d4, Bool.and_self, cT, ex, d5, List.nil_append])]
      simp only [fnd, hq, if_true, outR]
    | false =>
      have hq' := hq
      unfold heq at hq'
      have w : (Go.IntKind.wrap (Go.IntKind.i64) ((pre.length : Int) + 1)) = (((pre ++ [x]).length : Nat) : Int) := by rw [w64 (by omega) (by omega)]; simp
      have ih := F21.l0_ok (a := a) (b := b) (c := c) ht r (pre ++ [x]) (by simp; omega)
      rw [List.append_assoc] at ih
      unfold F21.l0 at ih
      have hs : F21.l0.b ((pre.length : Int), a, b, c, tk, pre ++ x :: r) = some (.inl (((pre ++ [x]).length : Int), a, b, c, tk, pre ++ x :: r)) := by simp only [F21.l0.b, e1, hq', d1, d2, Bool.and_self, cT, cF, w]
      rw [lim_in hs, show pre ++ x :: r = pre ++ ([x] ++ r) from rfl, ih]
      simp [fnd, hq]

theorem F19.l0_ok {a b c : Int} {tk : List S59} (ht : tk.length ≤ 20000) : ∀ (r pre : List S38), (pre ++ r).length ≤ tk.length + 1 →
    F19.l0 (((pre ++ r).length : Int), (pre.length : Int), a, b, c, pre ++ r, tk) = some (outR tk (fnd a b c pre.length r))
  | [], pre, h => by
    unfold F19.l0
    rw [lim_out (y := .inr ()) (by simp (disch := omega) only [F19.l0.b, List.append_nil, dF, cF])]
    rfl
  | x :: r, pre, h => by
    simp only [List.length_append, List.length_cons] at h
    have e1 : (pre ++ x :: r).getD (Int.toNat (pre.length : Int)) z38 = x := at_app (by simp)
    have d1 : decide ((pre.length : Int) < ((pre ++ x :: r).length : Int)) = true := dT (by simp; omega)
    have d2 : decide ((0 : Int) ≤ (pre.length : Int)) = true := dT (by omega)
    have d3 : decide ((pre.length : Int) ≤ (tk.length : Int)) = true := dT (by omega)
    have d4 : decide ((tk.length : Int) ≤ (tk.length : Int)) = true := dT (by omega)
    unfold F19.l0
    cases hq : heq a b c x with
    | true =>
      have hq' := hq
      unfold heq at hq'
      have ex : List.take (Int.toNat ((tk.length : Int) - (pre.length : Int))) (List.drop (Int.toNat (pre.length : Int)) tk) = tk.drop pre.length := by
        rw [List.take_of_length_le (by simp)]; simp
      have d5 : decide ((tk.drop pre.length).length ≤ 274877906944) = true := dT (by simp; omega)
      rw [lim_out (y := .inl (0, tk.drop pre.length)) (by simp only [F19.l0.b, e1, hq', d1, d2, d3, d4, Bool.and_self, cT, ex, d5])]
      simp only [fnd, hq, if_true, outR]
    | false =>
      have hq' := hq
      unfold heq at hq'
      have w : (Go.IntKind.wrap (Go.IntKind.i64) ((pre.length : Int) + 1)) = (((pre ++ [x]).length : Nat) : Int) := by rw [w64 (by omega) (by omega)]; simp
      have ih := F19.l0_ok (a := a) (b := b) (c := c) ht r (pre ++ [x]) (by simp; omega)
      rw [List.append_assoc] at ih
      unfold F19.l0 at ih
      have hs : F19.l0.b (((pre ++ x :: r).length : Int), (pre.length : Int), a, b, c, pre ++ x :: r, tk) = some (.inl (((pre ++ x :: r).length : Int), ((pre ++ [x]).length : Int), a, b, c, pre ++ x :: r, tk)) := by simp only [F19.l0.b, e1, hq', d1, d2, Bool.and_self, cT, cF, w]
      rw [lim_in hs, show pre ++ x :: r = pre ++ ([x] ++ r) from rfl, ih]
      simp [fnd, hq]

theorem ctl_len {ms : List S50} {most g : Int} (h : (ctl ms most g).2 = 0) : (ctl ms most g).1.2.length = (ctl ms most g).1.1.length + 1 := by
  unfold ctl at h ⊢
  split at h
  · rename_i h1
    rw [if_pos h1]
    split at h
    · rename_i h2
      rw [if_pos h2]; simp
    · cases h
  · rename_i h1; exact absurd h h1

/-- What both answer: what is left of the steps from the hold on. -/
def rsm (ms : List S50) (most g a b c : Int) : List S59 × Int :=
  if (ctl ms most g).2 = 0 then
    match fnd a b c 0 (ctl ms most g).1.2 with
    | some i => ((ctl ms most g).1.1.drop i, 0)
    | none => ([], 5)
  else ([], (ctl ms most g).2)

theorem rsm_len {ms : List S50} {most g a b c : Int} : (rsm ms most g a b c).1.length ≤ 20000 := by
  have := steps_ok (ms := ms) (most := most) (g := g)
  unfold rsm
  split
  · split
    · simp; omega
    · simp
  · simp

theorem F21.ok (ms : List S50) (most g a b c : Int) : F21.F (ms, most, g, a, b, c) = some (rsm ms most g a b c) := by
  simp only [F21.F, F23.ok, bS]
  unfold rsm
  by_cases h : (ctl ms most g).2 = 0
  · have e := F21.l0_ok (a := a) (b := b) (c := c) (steps_ok (ms := ms) (most := most) (g := g)) (ctl ms most g).1.2 [] (by simp [ctl_len h])
    simp only [List.nil_append, List.length_nil] at e
    have e' : F21.l0 (0, a, b, c, (ctl ms most g).1.1, (ctl ms most g).1.2) = _ := e
    rw [nF h, cF, e', if_pos h]
    cases hf : fnd a b c 0 (ctl ms most g).1.2 <;> simp only [outR, bS]
  · rw [nT h, cT, if_neg h]

theorem F19.ok (ms : List S50) (most g a b c : Int) : F19.F (ms, most, g, a, b, c) = some (rsm ms most g a b c) := by
  simp only [F19.F, F25.ok, bS]
  unfold rsm
  by_cases h : (ctl ms most g).2 = 0
  · have e := F19.l0_ok (a := a) (b := b) (c := c) (steps_ok (ms := ms) (most := most) (g := g)) (ctl ms most g).1.2 [] (by simp [ctl_len h])
    simp only [List.nil_append, List.length_nil] at e
    have e' : F19.l0 (((ctl ms most g).1.2.length : Int), 0, a, b, c, (ctl ms most g).1.2, (ctl ms most g).1.1) = _ := e
    rw [nF h, cF, e', if_pos h]
    cases hf : fnd a b c 0 (ctl ms most g).1.2 <;> simp only [outR, bS]
  · rw [nT h, cT, if_neg h]

theorem F22.ok (a b c : Int) : F22.F (a, b, c) = some (a, b, c) := rfl

theorem F5.law_of {ms : List S50} {most g a b c : Int} (hl : ms.length ≤ 9223372036854775807) : F5.F (ms, most, g, a, b, c) = some true := by
  by_cases h0 : ms.length ≤ 1048576
  · have h3 := rsm_len (ms := ms) (most := most) (g := g) (a := a) (b := b) (c := c)
    have h1 := F21.ok ms most g a b c
    have h2 := F19.ok ms most g a b c
    generalize rsm ms most g a b c = R at h1 h2 h3
    obtain ⟨t, k⟩ := R
    have e6 : F6.F (ms, 1048576) = some (1048576 - (ms.length : Int)) := by simp (disch := omega) only [F6.F, w64, dF, cF]
    have d1 : decide (1048576 - (ms.length : Int) < 0) = false := dF (by omega)
    have d2 : decide (1 + 4 * (ms.length : Int) < 0) = false := dF (by omega)
    have d3 : decide (1 + 4 * (t.length : Int) < 0) = false := dF (by simp at h3; omega)
    have n1 : (k != k) = false := nF rfl
    have n2 : (1 + 4 * (t.length : Int) != 1 + 4 * (t.length : Int)) = false := nF rfl
    simp only [F5.F, e6, bS, d1, cF, F8.ok ms h0, F22.ok, h1, h2, F10.ok t (by simp at h3; omega), Bool.not_true, n1, Bool.or_self, F11.ok ms h0, F12.ok ms h0, d2, Bool.not_false, cT, F13.ok t (by simp at h3; omega), F14.ok t (by simp at h3; omega), d3, n2]
  · have e6 : F6.F (ms, 1048576) = some (-1) := by simp (disch := omega) only [F6.F, w64, dT, cT]
    have d1 : decide ((-1 : Int) < 0) = true := rfl
    simp only [F5.F, e6, bS, d1, cT]

end Go.Proofs.Ytpingihfadihfaa.AX

/- The law of resuming, plainly. No conditions. -/
namespace Go.Proofs.Ytpingihfadihfaa.AX
open Go

theorem F5.law {P : Prop} (ms : List S50) (most g : Int) (x : Int × Int × Int) (hm : ∀ n, RowOk (U := uni) ky n 0 ms) (h1 : (Lit.int .i64 most).wf = true) (h2 : (Lit.int .i64 g).wf = true) (h3 : P) : F5.F (ms, most, g, x) = some true := by
  obtain ⟨a, b, c⟩ := x
  exact F5.law_of (by have h : ms.length ≤ maxLen := (hm 0).1; unfold maxLen at h; omega)

end Go.Proofs.Ytpingihfadihfaa.AX

/- The law FnExactResume answers true at every input. No conditions. -/
namespace Go.Proofs.Ytpingihfadihfaa.fnExactResume
open Go.ChangeShapes Go.WideShapes Go.ChangeAt Go.RowKit Go.Proofs.Ytpingihfadihfaa.AX
open Go.ChangeMaps (open_string shut_string)
theorem own : ownKnob Try.prog.godebug = none := by kernel_rfl
theorem laidOut : laidOutB Try.prog = true := by kernel_rfl
theorem flat44t : Flat Try.prog uni ky 44 [.int .i64, .int .i64, .int .i64] := .struct 44 _ [.int .i64, .int .i64, .int .i64] Try.underlying44 rfl (.cons _ _ _ [.int .i64] _ rfl flat3t rfl (.cons _ _ _ [.int .i64] _ rfl flat3t rfl (.cons _ _ _ [.int .i64] _ rfl flat3t rfl (.nil _))))
theorem parts44 {ts : List (T El)} (o : ∀ n, TsOf (U := uni) (RowOk (U := uni) ky n) [.int .i64, .int .i64, .int .i64] ts) : ∃ (x0 : Int) (x1 : Int) (x2 : Int), ts = [.lit (.int .i64 x0), .lit (.int .i64 x1), .lit (.int .i64 x2)] ∧ ∀ n, TsOf (U := uni) (RowOk (U := uni) ky n) [.int .i64, .int .i64, .int .i64] [.lit (.int .i64 x0), .lit (.int .i64 x1), .lit (.int .i64 x2)] :=
  match ts, o, o 0 with
  | [.lit (.int k0 x0), .lit (.int k1 x1), .lit (.int k2 x2)], o, ⟨⟨h0, _⟩, ⟨h1, _⟩, ⟨h2, _⟩, _⟩ => by subst h0; subst h1; subst h2; exact ⟨x0, x1, x2, rfl, o⟩
set_option maxRecDepth 100000 in
theorem lifted (os : Os) (started : os.Started) (H : Type) (enc : TypeId × Value → H) :
    ReturnsInHanded {} Try.checked os 5 .any (Rows.fnExactResumeSpec.pre6 enc Try.prog Try.f5 Rows.fnExactResumeRow.domain false) (Rows.fnExactResumeSpec.post enc Try.prog Try.f5 false true false false) := by
  refine returnsInHanded_of_change_sized (C := Try.checked) own started (by kernel_rfl) Try.func5
    (ChangeSpec.witness6 (enc := enc) (C := Try.checked) false ⟨#[], #[.slice none 0 0, .int .i64 0, .int .i64 0, .agg #[.int .i64 0, .int .i64 0, .int .i64 0]], []⟩ 8 (by kernel_rfl) (by kernel_rfl) (by kernel_rfl) (by kernel_rfl)) ?_
  intro W base args ds gs before hval0 hW hcnd hsz0 _
  have hval : ∀ (j : Nat) t v, Try.f5.params[j]? = some t → args[j]? = some v → Value.okWide Try.prog W .any base t v := hval0
  have hW' := hW
  obtain ⟨p, q, hA0, hV, rfl, hfz, hnd⟩ := hW
  have hA : DataW.TrodAll enc Try.prog W 0 (fun _ => true) true Try.f5.params.toList args.toList ds p := hA0
  rw [Try.params5] at hA hval
  obtain ⟨v0, vs0, d0, ds0, p0, q0, hargs, rfl, rfl, h0, r0⟩ := trodAll_cons hA
  obtain ⟨v1, vs1, d1, ds1, p1, q1, rfl, rfl, rfl, h1, r1⟩ := trodAll_cons r0
  obtain ⟨v2, vs2, d2, ds2, p2, q2, rfl, rfl, rfl, h2, r2⟩ := trodAll_cons r1
  obtain ⟨v3, vs3, d3, ds3, p3, q3, rfl, rfl, rfl, h3, r3⟩ := trodAll_cons r2
  obtain ⟨rfl, rfl, rfl⟩ := trodAll_nil r3
  obtain rfl : args = #[v0, v1, v2, v3] := by cases args; simp_all
  obtain ⟨rfl, rfl⟩ := trodVars_none hV
  have k0 := h0
  have lt0 : ∀ x ∈ p0, x.block < W.heap.size := by obtain ⟨m, hm⟩ := k0; exact DataW.trod_lt m _ _ _ hm
  obtain ⟨l0, F0, i0, o0⟩ := open_slice kindsOk (k := 0) Try.underlying22 (List.cons_ne_nil _ _) (hval 0 22 v0 rfl rfl) h0
  obtain ⟨a1, rfl, rfl, rfl, w1⟩ := open_int Try.underlying3 (hval 1 3 v1 rfl rfl) h1
  obtain ⟨a2, rfl, rfl, rfl, w2⟩ := open_int Try.underlying3 (hval 2 3 v2 rfl rfl) h2
  have k3 := h3
  have lt3 : ∀ x ∈ p3, x.block < W.heap.size := by obtain ⟨m, hm⟩ := k3; exact DataW.trod_lt m _ _ _ hm
  obtain ⟨ts3, F3, i3, o3⟩ := open_parts kindsOk Try.underlying44 flat44t (hval 3 44 v3 rfl rfl) h3
  obtain ⟨c3_0, c3_1, c3_2, rfl, w3⟩ := parts44 o3
  clear hA0 hval0 hsz0
  have hcon := F5.con (l0, a1, a2, (c3_0, c3_1, c3_2)) true (F5.law l0 a1 a2 (c3_0, c3_1, c3_2) o0 w1 w2 w3) [v0, .int .i64 a1, .int .i64 a2, v3] W [] _ ⟨[], [], F0, _, i0, ⟨[], [], [], _, ⟨rfl, rfl, rfl⟩, ⟨[], [], [], _, ⟨rfl, rfl, rfl⟩, ⟨[], [], F3, _, i3, ⟨rfl, rfl⟩, rfl, rfl⟩, rfl, rfl⟩, rfl, rfl⟩, rfl, rfl⟩ (by simp) (by simp)
  refine hcon.mono fun e W' ⟨rs, vs, G, E', hr, hR, he, hO, hfr, _, _⟩ => ?_
  obtain rfl : rs = [.val (.bool true)] := by injection hr with hr; exact hr.symm
  obtain rfl : vs = [.bool true] := by
    match vs, hR with
    | [v], ⟨_, _, ⟨h, _⟩, _, _⟩ => rw [h]
  subst he
  have bel := below_of hfr
  exact ⟨_, rfl, _, _, _, [], _, [], hW', trodAll_mk1 (shut_bool Try.underlying4 _), (trodAll_cons_mk (Below.trod laidOut (by kernel_rfl) (of_decide_eq_true (by kernel_rfl)) k0 bel lt0) (trodAll_cons_mk (shut_int Try.underlying3 w1) (trodAll_cons_mk (shut_int Try.underlying3 w2) (trodAll_cons_mk (Below.trod laidOut (by kernel_rfl) (of_decide_eq_true (by kernel_rfl)) k3 bel lt3) trodAll_mk0)))), rfl, bel.frame _, fun h => by cases h⟩
theorem over : Rows.fnExactResumeRow.holds Try.pinned (OpenSpec.ofChange Rows.fnExactResumeSpec) :=
  OpenClaim.holds_of_wide 5 Try.f5 rfl rfl rfl rfl rfl rfl rfl ⟨rfl, rfl, rfl, rfl, rfl⟩ rfl rfl rfl rfl rfl (by kernel_rfl) Try.func5 (by kernel_rfl)
    (of_decide_eq_true (by kernel_rfl)) (by unfold Func.isWrapper; first | (rw [if_pos (by decide +kernel)]; kernel_rfl) | (rw [if_neg (by decide +kernel)]; exact ⟨rfl, rfl⟩))
    (fun os started H enc _ => lifted os started H enc)
theorem proved : Rows.FnExactResumeSaid := over
end Go.Proofs.Ytpingihfadihfaa.fnExactResume
namespace Go.Proofs.Ytpingihfadihfaa
theorem fnExactResume_holds : Rows.FnExactResumeSaid := fnExactResume.proved
end Go.Proofs.Ytpingihfadihfaa

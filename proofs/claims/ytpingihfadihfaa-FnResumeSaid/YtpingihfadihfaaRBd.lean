/- The controller, plainly: the reference's ways. No conditions. -/
import Derived.Test.YtpingihfadihfaaRows
import Derived.WalkKit
import Derived.ProofKit
import Derived.OpenShut
import Derived.ShutString
import Derived.ChangeOld
import Derived.Below
import Derived.SizedLaws
import Derived.Test.YtpingihfadihfaaRBc
set_option linter.unusedVariables false
set_option linter.unusedSimpArgs false
set_option linter.unusedSectionVars false
namespace Go.Proofs.Ytpingihfadihfaa.AX
open Go

def ax (s : S76) : Int := if s.f2 = 0 then (if s.f3 = 0 then 3 else 2) else 1
def dr (s : S76) : Int := if s.f2 = 0 then (if s.f3 = 0 then s.f4 else s.f3) else s.f2
def toW (w : Wy) : S69 := ⟨w.1.map (·.f0), ax (hd w), dr (hd w), (hd w).f1, w.2.f0, w.2.f1, w.2.f2, w.2.f3, sumH w.1⟩

theorem like_ax {h s : S76} (h1 : dirOk h) (h2 : dirOk s) : like h s = (((ax h == ax s) && (dr h == dr s)) && (h.f1 == s.f1)) := by
  have : (like h s = true) ↔ ((((ax h == ax s) && (dr h == dr s)) && (h.f1 == s.f1)) = true) := by
    unfold like
    simp only [Bool.and_eq_true, beq_iff_eq]
    unfold dirOk at h1 h2
    unfold ax dr
    constructor
    · rintro ⟨⟨⟨e1, e2⟩, e3⟩, e4⟩
      rw [e2, e3, e4]
      exact ⟨⟨rfl, rfl⟩, e1⟩
    · rintro ⟨⟨e1, e2⟩, e3⟩
      refine ⟨⟨⟨e3, ?_⟩, ?_⟩, ?_⟩ <;> (split at e1 <;> split at e1 <;> (try split at e1) <;> (try split at e1) <;> simp_all <;> omega)
  cases h3 : like h s <;> cases h4 : (((ax h == ax s) && (dr h == dr s)) && (h.f1 == s.f1)) <;> simp_all

theorem F43.ok {a m : S50} {i : Int} (ha : InG a) (hm : InG m) (hc : chg a m = 1) : F43.F ((0, false, a.f1, a.f2, a.f3, 0), (0, false, m.f1, m.f2, m.f3, 0)) = some (ax (mkS i a m), dr (mkS i a m)) := by
  obtain ⟨a1, a2, a3, a4, a5, a6⟩ := ha
  obtain ⟨m1, m2, m3, m4, m5, m6⟩ := hm
  have s1 := sg_le (n := m.f1 - a.f1)
  have s2 := sg_le (n := m.f2 - a.f2)
  have s3 := sg_le (n := m.f3 - a.f3)
  have c1 := ab_le (n := sg (m.f1 - a.f1)) (by omega) (by omega)
  have c2 := ab_le (n := sg (m.f2 - a.f2)) (by omega) (by omega)
  have c3 := ab_le (n := sg (m.f3 - a.f3)) (by omega) (by omega)
  have hcs := chg_sg (a := a) (m := m)
  have w1 : IntKind.wrap .i64 (m.f1 - a.f1) = m.f1 - a.f1 := w64 (by omega) (by omega)
  have w2 : IntKind.wrap .i64 (m.f2 - a.f2) = m.f2 - a.f2 := w64 (by omega) (by omega)
  have w3 : IntKind.wrap .i64 (m.f3 - a.f3) = m.f3 - a.f3 := w64 (by omega) (by omega)
  have w4 : IntKind.wrap .i64 (ab (sg (m.f1 - a.f1)) + ab (sg (m.f2 - a.f2))) = ab (sg (m.f1 - a.f1)) + ab (sg (m.f2 - a.f2)) := w64 (by omega) (by omega)
  have w5 : IntKind.wrap .i64 (ab (sg (m.f1 - a.f1)) + ab (sg (m.f2 - a.f2)) + ab (sg (m.f3 - a.f3))) = 1 := by rw [w64 (by omega) (by omega), hcs, hc]
  have f4 := F44.ok (n := sg (m.f1 - a.f1)) (by omega) (by omega)
  have f5 := F44.ok (n := sg (m.f2 - a.f2)) (by omega) (by omega)
  have f6 := F44.ok (n := sg (m.f3 - a.f3)) (by omega) (by omega)
  have n1 : ((1 : Int) != 1) = false := rfl
  simp only [F43.F, w1, w2, w3, w4, w5, F47.ok, f4, f5, f6, bS, n1, cF]
  unfold ax dr mkS
  dsimp only
  by_cases z1 : sg (m.f1 - a.f1) = 0
  · rw [nF z1, cF, if_pos z1, if_pos z1]
    by_cases z2 : sg (m.f2 - a.f2) = 0
    · rw [nF z2, cF, if_pos z2, if_pos z2]
    · rw [nT z2, cT, if_neg z2, if_neg z2]
  · rw [nT z1, cT, if_neg z1, if_neg z1]

def lastQ (wl : List S69) : S69 := wl.getD (wl.length - 1) z69
/-- The reference's way of adding. -/
def addQ (wl : List S69) (s : S76) (a : S50) : List S69 :=
  if wl.length > 0 ∧ ((((lastQ wl).f1 == ax s) && ((lastQ wl).f2 == dr s)) && ((lastQ wl).f3 == s.f1)) = true then
    wl.set (wl.length - 1) ⟨(lastQ wl).f0 ++ [s.f0], (lastQ wl).f1, (lastQ wl).f2, (lastQ wl).f3, (lastQ wl).f4, (lastQ wl).f5, (lastQ wl).f6, (lastQ wl).f7, (lastQ wl).f8 + s.f5⟩
  else wl ++ [⟨[s.f0], ax s, dr s, s.f1, a.f0, a.f1, a.f2, a.f3, s.f5⟩]

theorem F31.l0_step {r0 : List S50} {i : Nat} {a m : S50} {wl : List S69} (hi : i < r0.length) (hn : r0.length ≤ 2000) (hg : r0.getD i z50 = m) (ha : InG a) (hm : InG m) (hc : chg a m ≤ 1) (hwl : wl.length ≤ 2000)
    (hw : wl.length > 0 → (lastQ wl).f0.length ≤ 2000 ∧ 0 ≤ (lastQ wl).f8 ∧ (lastQ wl).f8 ≤ 100000000) :
    F31.l0.b ((i : Int), a.f0, a.f1, a.f2, a.f3, r0, wl) = if chg a m = 0 then some (.inl ((i : Int) + 1, a.f0, a.f1, a.f2, a.f3, r0, wl)) else some (.inl ((i : Int) + 1, m.f0, m.f1, m.f2, m.f3, r0, addQ wl (mkS i a m) a)) := by
  have hcn := chg_nn (a := a) (m := m)
  have f42 := F42.ok a m
  have d1 : decide ((i : Int) < (r0.length : Int)) = true := dT (by omega)
  have d2 : decide ((0 : Int) ≤ (i : Int)) = true := dT (by omega)
  have w9 : IntKind.wrap .i64 ((i : Int) + 1) = (i : Int) + 1 := w64 (by omega) (by omega)
  by_cases hz : chg a m = 0
  · rw [if_pos hz]
    have q1 : (chg a m == 0) = true := qT hz
    simp only [F31.l0.b, hg, d1, d2, Bool.and_self, cT, Int.toNat_natCast, bS, f42, q1, w9]
  · rw [if_neg hz]
    have q1 : (chg a m == 0) = false := qF hz
    have f43 := F43.ok (i := i) ha hm (by omega)
    obtain ⟨a1, a2, a3, a4, a5, a6⟩ := ha
    obtain ⟨m1, m2, m3, m4, m5, m6⟩ := hm
    have b1 := ab_le (n := m.f1 - a.f1) (by omega) (by omega)
    have b2 := ab_le (n := m.f2 - a.f2) (by omega) (by omega)
    have b3 := ab_le (n := m.f3 - a.f3) (by omega) (by omega)
    have w1 : IntKind.wrap .i64 (m.f1 - a.f1) = m.f1 - a.f1 := w64 (by omega) (by omega)
    have w2 : IntKind.wrap .i64 (m.f2 - a.f2) = m.f2 - a.f2 := w64 (by omega) (by omega)
    have w3 : IntKind.wrap .i64 (m.f3 - a.f3) = m.f3 - a.f3 := w64 (by omega) (by omega)
    have w6 : IntKind.wrap .i64 (ab (m.f1 - a.f1) + ab (m.f2 - a.f2)) = ab (m.f1 - a.f1) + ab (m.f2 - a.f2) := w64 (by omega) (by omega)
    have w7 : IntKind.wrap .i64 (ab (m.f1 - a.f1) + ab (m.f2 - a.f2) + ab (m.f3 - a.f3)) = ab (m.f1 - a.f1) + ab (m.f2 - a.f2) + ab (m.f3 - a.f3) := w64 (by omega) (by omega)
    have w8 : IntKind.wrap .i64 (20 * (ab (m.f1 - a.f1) + ab (m.f2 - a.f2) + ab (m.f3 - a.f3))) = (mkS i a m).f5 := w64 (by omega) (by omega)
    have h5 : 0 ≤ (mkS i a m).f5 ∧ (mkS i a m).f5 ≤ 1440 := by unfold mkS; dsimp only; omega
    have f1 := F44.ok (n := m.f1 - a.f1) (by omega) (by omega)
    have f2 := F44.ok (n := m.f2 - a.f2) (by omega) (by omega)
    have f3 := F44.ok (n := m.f3 - a.f3) (by omega) (by omega)
    have e0 : (mkS i a m).f0 = (i : Int) := rfl
    have e1 : (mkS i a m).f1 = m.f0 := rfl
    clear b1 b2 b3 a1 a2 a3 a4 a5 a6 m1 m2 m3 m4 m5 m6
    simp only [F31.l0.b, hg, d1, d2, Bool.and_self, cT, cF, Int.toNat_natCast, bS, f42, q1, w9, f43, f1, f2, f3, w1, w2, w3, w6, w7, w8]
    have l1 : ∀ (x : S69), decide (wl.length + [x].length ≤ 274877906944) = true := fun x => dT (by simp only [List.length_singleton]; omega)
    by_cases h0 : wl.length > 0
    · obtain ⟨hl1, hl2, hl3⟩ := hw h0
      have g2 : IntKind.wrap .i64 ((wl.length : Int) - 1) = ((wl.length - 1 : Nat) : Int) := by rw [w64 (by omega) (by omega)]; omega
      have g1 : decide (((wl.length - 1 : Nat) : Int) ≥ 0) = true := dT (by omega)
      have g3 : decide ((0 : Int) ≤ ((wl.length - 1 : Nat) : Int)) = true := dT (by omega)
      have g4 : decide (((wl.length - 1 : Nat) : Int) < (wl.length : Int)) = true := dT (by omega)
      have g5 : wl.getD (wl.length - 1) z69 = lastQ wl := rfl
      have g8 : decide ((lastQ wl).f0.length + [(i : Int)].length ≤ 274877906944) = true := dT (by simp only [List.length_singleton]; omega)
      have g9 : IntKind.wrap .i64 ((lastQ wl).f8 + (mkS i a m).f5) = (lastQ wl).f8 + (mkS i a m).f5 := w64 (by omega) (by omega)
      have g10 : ∀ x : S69, (wl.set (wl.length - 1) x).getD (wl.length - 1) z69 = x := fun x => getD_set (by omega)
      simp only [g1, g2, g3, g4, g5, g8, l1, Bool.true_and, Bool.or_true, cT, Int.toNat_natCast, decide_true, List.length_set, g10, g9, List.set_set, w9]
      unfold addQ
      cases hlk : ((((lastQ wl).f1 == ax (mkS i a m)) && ((lastQ wl).f2 == dr (mkS i a m))) && ((lastQ wl).f3 == (mkS i a m).f1)) with
      | true =>
        rw [if_pos ⟨h0, rfl⟩]
        rw [e1] at hlk
        simp only [hlk, cT, e0]
      | false =>
        rw [if_neg (fun h => by simp at h)]
        rw [e1] at hlk
        simp only [hlk, cF, e0, e1]
    · have g2 : IntKind.wrap .i64 ((wl.length : Int) - 1) = (wl.length : Int) - 1 := w64 (by omega) (by omega)
      have g1 : decide ((wl.length : Int) - 1 ≥ 0) = false := dF (by omega)
      simp only [g1, g2, l1, Bool.not_false, Bool.true_or, Bool.false_and, cT, cF]
      unfold addQ
      rw [if_neg (fun h => h0 h.1)]
      simp only [e0, e1]

theorem addQ_map {acc : List Wy} {s : S76} {a : S50} {n : Int} (hw : ∀ w ∈ acc, WOk n w) (hs : dirOk s) : addQ (acc.map toW) s a = (addW acc s a).map toW := by
  unfold addQ addW
  have hml : (acc.map toW).length = acc.length := List.length_map _
  by_cases h0 : acc.length > 0
  · have hgl : lastQ (acc.map toW) = toW (lastW acc) := by
      unfold lastQ; rw [hml]; exact map_getD (f := toW) (d := ([], z50)) (by omega)
    obtain ⟨k1, k2, k3, k4, k5⟩ := hw _ (mem_last h0)
    rw [hml, hgl, like_ax k5 hs]
    have hh : hd ((lastW acc).1 ++ [s], (lastW acc).2) = hd (lastW acc) := hd_app k1
    show (if acc.length > 0 ∧ (((ax (hd (lastW acc)) == ax s) && (dr (hd (lastW acc)) == dr s)) && ((hd (lastW acc)).f1 == s.f1)) = true then _ else _) = _
    split
    · rw [List.map_set]
      congr 1
      unfold toW
      rw [hh]
      simp only [List.map_append, sumH_app, sumH, List.map_cons, List.map_nil, Int.add_zero]
    · rw [List.map_append]
      unfold toW hd
      simp only [List.map_cons, List.map_nil, sumH, Int.add_zero]
      rfl
  · rw [if_neg (fun h => h0 (by rw [hml] at h; exact h.1)), if_neg (fun h => h0 h.1), List.map_append]
    unfold toW hd
    simp only [List.map_cons, List.map_nil, sumH, Int.add_zero]
    rfl

theorem F31.l0_ok : ∀ (r pre : List S50) (a b : S50) (acc : List Wy), (pre ++ r).length ≤ 2000 → InG a → (∀ m ∈ r, InG m) → b.f1 = a.f1 → b.f2 = a.f2 → b.f3 = a.f3 → chk b r = true → acc.length ≤ pre.length → (∀ w ∈ acc, WOk pre.length w) →
    F31.l0 ((pre.length : Int), a.f0, a.f1, a.f2, a.f3, pre ++ r, acc.map toW) = some ((bld r pre.length a acc).map toW) ∧ (∀ w ∈ bld r pre.length a acc, WOk (pre ++ r).length w) ∧ (bld r pre.length a acc).length ≤ (pre ++ r).length
  | [], pre, a, b, acc, h, ha, hr, e1, e2, e3, hk, hl, hw => by
    refine ⟨?_, by simpa [bld] using hw, by simpa [bld] using hl⟩
    unfold F31.l0
    rw [lim_out (y := acc.map toW)]
    · simp [bld]
    · simp (disch := omega) only [F31.l0.b, List.append_nil, dF, cF]
  | m :: r, pre, a, b, acc, h, ha, hr, e1, e2, e3, hk, hl, hw => by
    have hlen : (pre ++ m :: r).length = pre.length + r.length + 1 := by simp; omega
    have hg : (pre ++ m :: r).getD pre.length z50 = m := at_app rfl
    have hm : InG m := hr m (by simp)
    have hce : chg b m = chg a m := by unfold chg; rw [e1, e2, e3]
    simp only [chk, hce, Bool.and_eq_true, decide_eq_true_eq] at hk
    obtain ⟨hc, hk⟩ := hk
    have hcn := chg_nn (a := a) (m := m)
    have hml : (acc.map toW).length = acc.length := List.length_map _
    have hst := F31.l0_step (r0 := pre ++ m :: r) (i := pre.length) (wl := acc.map toW) (by omega) h hg ha hm hc (by omega) fun h0 => by
      have : lastQ (acc.map toW) = toW (lastW acc) := by
        unfold lastQ; rw [hml]; exact map_getD (f := toW) (d := ([], z50)) (by omega)
      rw [this]
      have := hw _ (mem_last (acc := acc) (by omega))
      unfold WOk at this
      unfold toW
      simp only [List.length_map]
      omega
    by_cases hz : chg a m = 0
    · rw [if_pos hz] at hst
      obtain ⟨z1, z2, z3⟩ := chg_zero hz
      have ih := F31.l0_ok r (pre ++ [m]) a m acc (by simpa using h) ha (fun x hx => hr x (by simp [hx])) z1 z2 z3 hk (by simp; omega) (by simpa using wok_more hw)
      unfold F31.l0 at ih ⊢
      rw [lim_in hst]
      simp only [List.append_assoc, List.singleton_append, List.length_append, List.length_singleton] at ih
      simp only [List.length_append]
      simp only [bld, if_pos hz]
      exact ih
    · rw [if_neg hz] at hst
      have h1 : chg a m = 1 := by omega
      have hl2 := addW_len (acc := acc) (s := mkS pre.length a m) (a := a)
      have ih := F31.l0_ok r (pre ++ [m]) m m (addW acc (mkS pre.length a m) a) (by simpa using h) hm (fun x hx => hr x (by simp [hx])) rfl rfl rfl hk (by simp; omega) (by simpa using wok_add hw (by omega) h1 ha hm)
      unfold F31.l0 at ih ⊢
      rw [lim_in hst]
      simp only [List.append_assoc, List.singleton_append, List.length_append, List.length_singleton] at ih
      simp only [List.length_append]
      simp only [bld, if_neg hz, addQ_map hw (dirOk_of h1)]
      exact ih

end Go.Proofs.Ytpingihfadihfaa.AX

/- The controller, plainly: how a way is gone. No conditions. -/
namespace Go.Proofs.Ytpingihfadihfaa.AX
open Go

/-- How things stand so far along a way. -/
def hldAt : List S76 → Int → Int → S38
  | [], d, sp => ⟨-1, 0, 0⟩
  | s :: r, d, sp => if d < s.f5 then ⟨s.f0, d, sp⟩ else hldAt r (d - s.f5) sp
def tik (w : Wy) (d sp : Int) : S59 := ⟨20 * w.2.f1 + d * (hd w).f2, 20 * w.2.f2 + d * (hd w).f3, 20 * w.2.f3 + d * (hd w).f4, sp⟩
def nxt (cap g left sp : Int) : Int := dn g left (topS cap sp g).toNat
/-- The ticks of a way, with how things stand ahead of each. -/
def runW (w : Wy) (cap g : Int) : Nat → Int → Int → List (S38 × S59)
  | 0, _, _ => []
  | n + 1, d, sp => if d < sumH w.1 then (hldAt w.1 d sp, tik w (d + nxt cap g (sumH w.1 - d) sp) (nxt cap g (sumH w.1 - d) sp)) :: runW w cap g n (d + nxt cap g (sumH w.1 - d) sp) (nxt cap g (sumH w.1 - d) sp) else []

theorem nxt_ok {cap g left sp : Int} (hg : 1 ≤ g) (hg2 : g ≤ 1000) (hm : 1 ≤ cap) (hm2 : cap ≤ 1000) (hw : 0 ≤ sp) (hw2 : sp ≤ 1000) (hl : 1 ≤ left) : 1 ≤ nxt cap g left sp ∧ nxt cap g left sp ≤ 1000 ∧ nxt cap g left sp ≤ left := by
  have ht : 1 ≤ topS cap sp g ∧ topS cap sp g ≤ 1000 := by unfold topS; split <;> omega
  unfold nxt
  have h1 := dn_pos (g := g) (left := left) (n := (topS cap sp g).toNat) (by omega)
  have h2 := dn_le hg hl (n := (topS cap sp g).toNat)
  omega

/- The program's walk along a way. -/
theorem F25.l6_ok (v1 v2 v20 v21 v216 v217 b0 b1 b2 b3 : Int) (r0 : List S50) (wl : List (List S76)) (r522 : List S59) (r523 : List S38) {w : List S76} (hw : wl.getD (Int.toNat v20) [] = w) (hwn : w.length ≤ 2000) : ∀ (r pre : List S76) (acc : Int), w = pre ++ r → (∀ s ∈ r, 0 ≤ s.f5) → 0 ≤ acc → acc + sumH r ≤ 100000000 →
    F25.l6 (v1, v2, v20, v21, acc, v216, v217, v20, (w.length : Int), (pre.length : Int), b0, b1, b2, b3, r0, wl, r522, r523) = some (v1, v2, v20, v21, acc + sumH r, v216, v217, b0, b1, b2, b3, r0, wl, r522, r523)
  | [], pre, acc, h, hs, ha, hb => by
    subst h
    unfold F25.l6
    rw [lim_out (y := (v1, v2, v20, v21, acc, v216, v217, b0, b1, b2, b3, r0, wl, r522, r523))]
    · simp [sumH]
    · simp (disch := omega) only [F25.l6.b, List.append_nil, dF, cF]
  | s :: r, pre, acc, h, hs, ha, hb => by
    have hl : w.length = pre.length + r.length + 1 := by rw [h]; simp; omega
    have hg : w.getD pre.length z76 = s := by rw [h]; exact at_app rfl
    have h5 := hs s (by simp)
    have hsum : 0 ≤ sumH r := by
      have : ∀ l : List S76, (∀ s ∈ l, 0 ≤ s.f5) → 0 ≤ sumH l := fun l => by
        induction l with
        | nil => intro _; simp [sumH]
        | cons x l ih => intro hx; have := ih fun s hs => hx s (by simp [hs]); have := hx x (by simp); simp [sumH]; omega
      exact this r fun s hs' => hs s (by simp [hs'])
    simp only [sumH] at hb ⊢
    have ih := F25.l6_ok v1 v2 v20 v21 v216 v217 b0 b1 b2 b3 r0 wl r522 r523 hw hwn r (pre ++ [s]) (acc + s.f5) (by simpa using h) (fun s hs' => hs s (by simp [hs'])) (by omega) (by omega)
    unfold F25.l6 at ih ⊢
    rw [lim_in (x' := (v1, v2, v20, v21, acc + s.f5, v216, v217, v20, (w.length : Int), ((pre ++ [s]).length : Int), b0, b1, b2, b3, r0, wl, r522, r523))]
    · rw [ih]; simp only [Int.add_assoc]
    · simp (disch := omega) only [F25.l6.b, hw, hg, dT, Bool.and_self, cT, Int.toNat_natCast, w64, List.length_append, List.length_singleton]
      rfl

theorem F25.l10_ok (v1 v2 v20 v21 v22 v25 v26 v216 v217 b0 b1 b2 b3 : Int) (r0 : List S50) (wl : List (List S76)) (r522 : List S59) (r523 : List S38) {w : List S76} (hw : wl.getD (Int.toNat v20) [] = w) (hwn : w.length ≤ 2000) : ∀ (r pre : List S76) (c0 d : Int), w = pre ++ r → (∀ s ∈ r, 0 ≤ s.f5) → 0 ≤ d → d < sumH r → d ≤ 100000000 →
    F25.l10 (v1, v2, v20, v21, v22, v25, v26, v216, v217, v20, (w.length : Int), (pre.length : Int), b0, b1, b2, b3, c0, d, v25, r0, wl, r522, r523) = some (v1, v2, v20, v21, v22, v25, v26, v216, v217, b0, b1, b2, b3, (hldAt r d v25).f0, (hldAt r d v25).f1, (hldAt r d v25).f2, r0, wl, r522, r523)
  | [], pre, c0, d, h, hs, ha, hb, hc => by simp [sumH] at hb; omega
  | s :: r, pre, c0, d, h, hs, ha, hb, hc => by
    have hl : w.length = pre.length + r.length + 1 := by rw [h]; simp; omega
    have hg : w.getD pre.length z76 = s := by rw [h]; exact at_app rfl
    have h5 := hs s (by simp)
    simp only [sumH] at hb
    unfold F25.l10
    by_cases hlt : d < s.f5
    · rw [lim_out (y := (v1, v2, v20, v21, v22, v25, v26, v216, v217, b0, b1, b2, b3, s.f0, d, v25, r0, wl, r522, r523))]
      · simp only [hldAt, if_pos hlt]
      · simp (disch := omega) only [F25.l10.b, hw, hg, dT, Bool.and_self, cT, Int.toNat_natCast]
    · have ih := F25.l10_ok v1 v2 v20 v21 v22 v25 v26 v216 v217 b0 b1 b2 b3 r0 wl r522 r523 hw hwn r (pre ++ [s]) s.f0 (d - s.f5) (by simpa using h) (fun s hs' => hs s (by simp [hs'])) (by omega) (by omega) (by omega)
      unfold F25.l10 at ih
      rw [lim_in (x' := (v1, v2, v20, v21, v22, v25, v26, v216, v217, v20, (w.length : Int), ((pre ++ [s]).length : Int), b0, b1, b2, b3, s.f0, d - s.f5, v25, r0, wl, r522, r523))]
      · rw [ih]; simp only [hldAt, if_neg hlt]
      · simp (disch := omega) only [F25.l10.b, hw, hg, dT, dF, Bool.and_self, cT, cF, Int.toNat_natCast, w64, List.length_append, List.length_singleton]
        rfl

theorem F25.l12_ok (v1 g v20 v21 left v26 v216 v217 b0 b1 b2 b3 : Int) (r0 : List S50) (wl : List (List S76)) (r523 : List S38) (r522 : List S59) (hg : 1 ≤ g) (hg2 : g ≤ 1000) (hl : 1 ≤ left) : ∀ (n : Nat), 1 ≤ n → n ≤ 1000 →
    F25.l12 (v1, g, v20, v21, left, v26, (n : Int), v216, v217, b0, b1, b2, b3, r0, wl, r523, r522) = some (v1, g, v20, v21, left, v26, dn g left n, v216, v217, b0, b1, b2, b3, r0, wl, r523, r522)
  | 0, h, _ => by omega
  | n + 1, _, h => by
    unfold F25.l12
    by_cases h0 : n = 0
    · subst h0
      rw [lim_out (y := (v1, g, v20, v21, left, v26, 1, v216, v217, b0, b1, b2, b3, r0, wl, r523, r522))]
      · rfl
      · have := stp_one (n := 0) hg
        have e : ((0 + 1 : Nat) : Int) = 1 := rfl
        simp (disch := omega) only [F25.l12.b, e, F37.ok (n := 1) hg hg2, this, dF, cF, bS]
    · by_cases hs : stp (n + 1) ((n + 1 : Nat) : Int) g > left
      · have := F25.l12_ok v1 g v20 v21 left v26 v216 v217 b0 b1 b2 b3 r0 wl r523 r522 hg hg2 hl n (by omega) (by omega)
        unfold F25.l12 at this
        rw [lim_in (x' := (v1, g, v20, v21, left, v26, (n : Int), v216, v217, b0, b1, b2, b3, r0, wl, r523, r522))]
        · rw [this]; simp only [dn]; rw [if_neg h0, if_pos hs]
        · have e : IntKind.wrap .i64 (((n + 1 : Nat) : Int) - 1) = (n : Int) := by rw [w64 (by omega) (by omega)]; omega
          simp (disch := omega) only [F25.l12.b, F37.ok (n := n + 1) hg hg2, dT, cT, bS, e]
      · rw [lim_out (y := (v1, g, v20, v21, left, v26, ((n + 1 : Nat) : Int), v216, v217, b0, b1, b2, b3, r0, wl, r523, r522))]
        · simp only [dn]; rw [if_neg h0, if_neg hs]
        · simp (disch := omega) only [F25.l12.b, F37.ok (n := n + 1) hg hg2, dF, cF, bS]

theorem nxt_cut {cap g left sp : Int} (hg : 1 ≤ g) (hg2 : g ≤ 1000) (hm : 1 ≤ cap) (hm2 : cap ≤ 1000) (hw : 0 ≤ sp) (hw2 : sp ≤ 1000) (hl : 1 ≤ left) :
    1 ≤ (if left < topS cap sp g then left else topS cap sp g) ∧ (if left < topS cap sp g then left else topS cap sp g) ≤ 1000 ∧ dn g left (if left < topS cap sp g then left else topS cap sp g).toNat = nxt cap g left sp := by
  have ht : 1 ≤ topS cap sp g ∧ topS cap sp g ≤ 1000 := by unfold topS; split <;> omega
  refine ⟨by split <;> omega, by split <;> omega, ?_⟩
  unfold nxt
  split
  · exact (dn_cut hg hl (by omega)).symm
  · rfl

end Go.Proofs.Ytpingihfadihfaa.AX

/- The controller, plainly: the program's ticks. No conditions. -/
namespace Go.Proofs.Ytpingihfadihfaa.AX
open Go

/-- What is so of a way that is gone. -/
structure Good (W : Wy) : Prop where
  len : 1 ≤ W.1.length
  len2 : W.1.length ≤ 2000
  pos : ∀ s ∈ W.1, 0 ≤ s.f5
  sum : sumH W.1 ≤ 10000000
  dir : dirOk (hd W)
  frm : InG W.2

theorem sumH_nn : ∀ {l : List S76}, (∀ s ∈ l, 0 ≤ s.f5) → 0 ≤ sumH l
  | [], _ => by simp [sumH]
  | x :: l, h => by
    have := sumH_nn (l := l) fun s hs => h s (by simp [hs])
    have := h x (by simp)
    simp [sumH]; omega

theorem mul_dir {x v : Int} (h : x = 1 ∨ x = -1 ∨ x = 0) (hv : 0 ≤ v) : -v ≤ v * x ∧ v * x ≤ v := by
  rcases h with rfl | rfl | rfl <;> omega
theorem dir3 {s : S76} (h : dirOk s) : (s.f2 = 1 ∨ s.f2 = -1 ∨ s.f2 = 0) ∧ (s.f3 = 1 ∨ s.f3 = -1 ∨ s.f3 = 0) ∧ (s.f4 = 1 ∨ s.f4 = -1 ∨ s.f4 = 0) := by
  unfold dirOk at h; omega

theorem tik_step {W : Wy} (h : Good W) {d v sp : Int} (hd0 : 0 ≤ d) (hd1 : d ≤ 20000000) (hv : 0 ≤ v) (hv2 : v ≤ 1000) :
    IntKind.wrap .i64 ((tik W d sp).f0 + IntKind.wrap .i64 (v * (hd W).f2)) = (tik W (d + v) v).f0 ∧ IntKind.wrap .i64 ((tik W d sp).f1 + IntKind.wrap .i64 (v * (hd W).f3)) = (tik W (d + v) v).f1 ∧ IntKind.wrap .i64 ((tik W d sp).f2 + IntKind.wrap .i64 (v * (hd W).f4)) = (tik W (d + v) v).f2 := by
  obtain ⟨h1, h2, h3⟩ := dir3 h.dir
  obtain ⟨g1, g2, g3, g4, g5, g6⟩ := h.frm
  have a1 := mul_dir h1 hv
  have a2 := mul_dir h2 hv
  have a3 := mul_dir h3 hv
  have b1 := mul_dir h1 hd0
  have b2 := mul_dir h2 hd0
  have b3 := mul_dir h3 hd0
  unfold tik
  dsimp only
  rw [Int.add_mul, Int.add_mul, Int.add_mul]
  generalize v * (hd W).f2 = x1 at *
  generalize v * (hd W).f3 = x2 at *
  generalize v * (hd W).f4 = x3 at *
  generalize d * (hd W).f2 = y1 at *
  generalize d * (hd W).f3 = y2 at *
  generalize d * (hd W).f4 = y3 at *
  refine ⟨?_, ?_, ?_⟩ <;> (simp (disch := omega) only [w64]; omega)

theorem F25.l8_step {v1 g cap d sp v216 v217 ps : Int} {k : Int} {W : Wy} {r0 : List S50} {wl : List (List S76)} {tk : List S59} {hs : List S38} (hW : Good W) (hk : wl.getD (Int.toNat k) [] = W.1) (hg : 1 ≤ g) (hg2 : g ≤ 1000) (hc : 1 ≤ cap) (hc2 : cap ≤ 1000) (hsp : 0 ≤ sp) (hsp2 : sp ≤ 1000)
    (hd0 : 0 ≤ d) (hd1 : d < sumH W.1) (ht : tk.length ≤ 20000) (hh : hs.length ≤ 20000) :
    F25.l8.b (v1, g, k, cap, sumH W.1 - d, sp, d, v216, v217, (tik W d ps).f0, (tik W d ps).f1, (tik W d ps).f2, ps, r0, wl, tk, hs) =
      if tk.length ≥ 20000 then some (.inr (.inr 18)) else
      some (.inl (v1, g, k, cap, sumH W.1 - (d + nxt cap g (sumH W.1 - d) sp), nxt cap g (sumH W.1 - d) sp, d + nxt cap g (sumH W.1 - d) sp, v216, v217, (tik W (d + nxt cap g (sumH W.1 - d) sp) (nxt cap g (sumH W.1 - d) sp)).f0, (tik W (d + nxt cap g (sumH W.1 - d) sp) (nxt cap g (sumH W.1 - d) sp)).f1, (tik W (d + nxt cap g (sumH W.1 - d) sp) (nxt cap g (sumH W.1 - d) sp)).f2, nxt cap g (sumH W.1 - d) sp, r0, wl,
        tk ++ [tik W (d + nxt cap g (sumH W.1 - d) sp) (nxt cap g (sumH W.1 - d) sp)], hs ++ [hldAt W.1 d sp])) := by
  have hsum := hW.sum
  have n1 := nxt_ok (left := sumH W.1 - d) hg hg2 hc hc2 hsp hsp2 (by omega)
  obtain ⟨c1, c2, c3⟩ := nxt_cut (left := sumH W.1 - d) hg hg2 hc hc2 hsp hsp2 (by omega)
  obtain ⟨t1, t2, t3⟩ := tik_step hW (d := d) (v := nxt cap g (sumH W.1 - d) sp) (sp := ps) hd0 (by omega) (by omega) (by omega)
  have hlen := hW.len
  have hlen2 := hW.len2
  have e10 := F25.l10_ok v1 g k cap (sumH W.1 - d) sp d v216 v217 (tik W d ps).f0 (tik W d ps).f1 (tik W d ps).f2 ps r0 wl tk hs hk hW.len2 W.1 [] 0 d rfl hW.pos hd0 hd1 (by omega)
  have e10' : F25.l10 (v1, g, k, cap, sumH W.1 - d, sp, d, v216, v217, k, (W.1.length : Int), 0, (tik W d ps).f0, (tik W d ps).f1, (tik W d ps).f2, ps, 0, d, sp, r0, wl, tk, hs) = _ := e10
  have e12 := F25.l12_ok v1 g k cap (sumH W.1 - d) d v216 v217 (tik W d ps).f0 (tik W d ps).f1 (tik W d ps).f2 ps r0 wl (hs ++ [hldAt W.1 d sp]) tk hg hg2 (by omega) _ (show 1 ≤ (if sumH W.1 - d < topS cap sp g then sumH W.1 - d else topS cap sp g).toNat by omega) (by omega)
  rw [Int.toNat_of_nonneg (by omega), c3] at e12
  unfold topS at e12
  have g0 : decide (sumH W.1 - d > 0) = true := dT (by omega)
  have g1 : ∀ x : S38, decide (hs.length + [x].length ≤ 274877906944) = true := fun x => dT (by simp only [List.length_singleton]; omega)
  have g2 : IntKind.wrap .i64 (sp + g) = sp + g := w64 (by omega) (by omega)
  have g3 : decide ((0 : Int) < (W.1.length : Int)) = true := dT (by omega)
  have g4 : W.1.getD 0 z76 = hd W := rfl
  have g5 : ∀ x : S59, decide (tk.length + [x].length ≤ 274877906944) = true := fun x => dT (by simp only [List.length_singleton]; omega)
  have g6 : IntKind.wrap .i64 (sumH W.1 - d - nxt cap g (sumH W.1 - d) sp) = sumH W.1 - (d + nxt cap g (sumH W.1 - d) sp) := by rw [w64 (by omega) (by omega)]; omega
  have g7 : IntKind.wrap .i64 (d + nxt cap g (sumH W.1 - d) sp) = d + nxt cap g (sumH W.1 - d) sp := w64 (by omega) (by omega)
  have g8 : (⟨(hldAt W.1 d sp).f0, (hldAt W.1 d sp).f1, (hldAt W.1 d sp).f2⟩ : S38) = hldAt W.1 d sp := rfl
  have g9 : ∀ v, (⟨(tik W (d + v) v).f0, (tik W (d + v) v).f1, (tik W (d + v) v).f2, v⟩ : S59) = tik W (d + v) v := fun v => rfl
  clear c1 c2 c3 e10
  generalize hv : nxt cap g (sumH W.1 - d) sp = v at *
  simp only [F25.l8.b, g0, cT, hk, e10', bS, g1, g8, g2, e12, g3, Nat.le_refl, decide_true, Bool.true_and, Int.toNat_zero, g4, t1, t2, t3, g5, g6, g7, g9]
  by_cases h18 : tk.length ≥ 20000
  · have : decide ((tk.length : Int) ≥ 20000) = true := dT (by omega)
    rw [if_pos h18, this, cT]
  · have : decide ((tk.length : Int) ≥ 20000) = false := dF (by omega)
    rw [if_neg h18, this, cF]

theorem runW_len {W : Wy} {cap g : Int} : ∀ {n : Nat} {d sp : Int}, (runW W cap g n d sp).length ≤ n
  | 0, _, _ => by simp [runW]
  | n + 1, d, sp => by
    simp only [runW]
    split
    · have := runW_len (W := W) (cap := cap) (g := g) (n := n) (d := d + nxt cap g (sumH W.1 - d) sp) (sp := nxt cap g (sumH W.1 - d) sp)
      simp; omega
    · simp

theorem F25.l8_ok {v1 g cap v216 v217 : Int} {k : Int} {W : Wy} {r0 : List S50} {wl : List (List S76)} (hW : Good W) (hk : wl.getD (Int.toNat k) [] = W.1) (hg : 1 ≤ g) (hg2 : g ≤ 1000) (hc : 1 ≤ cap) (hc2 : cap ≤ 1000) : ∀ (n : Nat) (d sp ps : Int) (tk : List S59) (hs : List S38), sumH W.1 - d ≤ n → 0 ≤ sp → sp ≤ 1000 → 0 ≤ d → d ≤ sumH W.1 → tk.length ≤ 20000 → hs.length = tk.length →
    (tk.length + (runW W cap g n d sp).length ≤ 20000 → ∃ q, F25.l8 (v1, g, k, cap, sumH W.1 - d, sp, d, v216, v217, (tik W d ps).f0, (tik W d ps).f1, (tik W d ps).f2, ps, r0, wl, tk, hs) =
      some (.inl (v1, g, v216, v217, (tik W (sumH W.1) q).f0, (tik W (sumH W.1) q).f1, (tik W (sumH W.1) q).f2, q, r0, wl, tk ++ (runW W cap g n d sp).map (·.2), hs ++ (runW W cap g n d sp).map (·.1)))) ∧
    (¬ tk.length + (runW W cap g n d sp).length ≤ 20000 → F25.l8 (v1, g, k, cap, sumH W.1 - d, sp, d, v216, v217, (tik W d ps).f0, (tik W d ps).f1, (tik W d ps).f2, ps, r0, wl, tk, hs) = some (.inr 18))
  | n, d, sp, ps, tk, hs, hn, h1, h2, h3, h4, h5, h6 => by
    by_cases hlt : d < sumH W.1
    · cases n with
      | zero => omega
      | succ n =>
        have hsum := hW.sum
        have n1 := nxt_ok (left := sumH W.1 - d) hg hg2 hc hc2 h1 h2 (by omega)
        have hst := F25.l8_step (v1 := v1) (v216 := v216) (v217 := v217) (ps := ps) (r0 := r0) (tk := tk) (hs := hs) hW hk hg hg2 hc hc2 h1 h2 h3 hlt h5 (by omega)
        have hrun : runW W cap g (n + 1) d sp = (hldAt W.1 d sp, tik W (d + nxt cap g (sumH W.1 - d) sp) (nxt cap g (sumH W.1 - d) sp)) :: runW W cap g n (d + nxt cap g (sumH W.1 - d) sp) (nxt cap g (sumH W.1 - d) sp) := by simp only [runW, if_pos hlt]
        unfold F25.l8
        by_cases h18 : tk.length ≥ 20000
        · rw [if_pos h18] at hst
          refine ⟨fun h => ?_, fun _ => lim_out hst⟩
          rw [hrun] at h; simp at h; omega
        · rw [if_neg h18] at hst
          rw [lim_in hst]
          generalize nxt cap g (sumH W.1 - d) sp = v at *
          have ih := F25.l8_ok (v1 := v1) (v216 := v216) (v217 := v217) (r0 := r0) hW hk hg hg2 hc hc2 n (d + v) v v (tk ++ [tik W (d + v) v]) (hs ++ [hldAt W.1 d sp]) (by omega) (by omega) (by omega) (by omega) (by omega) (by simp; omega) (by simp; omega)
          unfold F25.l8 at ih
          rw [hrun]
          simp only [List.length_append, List.length_singleton, List.append_assoc, List.singleton_append] at ih
          simp only [List.length_cons, List.map_cons]
          exact ⟨fun h => ih.1 (by omega), fun h => ih.2 (by omega)⟩
    · have he : d = sumH W.1 := by omega
      have hrun : runW W cap g n d sp = [] := by
        cases n with
        | zero => rfl
        | succ n => simp only [runW, if_neg hlt]
      rw [hrun]
      refine ⟨fun _ => ⟨ps, ?_⟩, fun h => absurd (by simpa using h5) h⟩
      unfold F25.l8
      rw [lim_out (y := .inl (v1, g, v216, v217, (tik W d ps).f0, (tik W d ps).f1, (tik W d ps).f2, ps, r0, wl, tk, hs))]
      · rw [he]; simp
      · simp (disch := omega) only [F25.l8.b, dF, cF]

end Go.Proofs.Ytpingihfadihfaa.AX

/- The controller, plainly: what ways are, one behind the other. No conditions. -/
namespace Go.Proofs.Ytpingihfadihfaa.AX
open Go

def SameP (a b : S50) : Prop := a.f1 = b.f1 ∧ a.f2 = b.f2 ∧ a.f3 = b.f3
/-- Stretches are steps of these moves. -/
def Lnk (r0 : List S50) : S50 → List S76 → S50 → Prop
  | p, [], c => SameP p c
  | p, s :: r, c => ∃ m, 0 ≤ s.f0 ∧ s.f0.toNat < r0.length ∧ r0.getD s.f0.toNat z50 = m ∧ InG m ∧ s.f5 = 20 * (ab (m.f1 - p.f1) + ab (m.f2 - p.f2) + ab (m.f3 - p.f3)) ∧ Lnk r0 m r c
/-- A way ends at a place. -/
def Ends (r0 : List S50) (W : Wy) (a : S50) : Prop := (20 * a.f1 = (tik W (sumH W.1) 0).f0 ∧ 20 * a.f2 = (tik W (sumH W.1) 0).f1 ∧ 20 * a.f3 = (tik W (sumH W.1) 0).f2) ∧ Lnk r0 W.2 W.1 a
def Chain (r0 : List S50) : S50 → List Wy → S50 → Prop
  | a, [], b => SameP a b
  | a, W :: r, b => SameP W.2 a ∧ ∃ c, Ends r0 W c ∧ Chain r0 c r b

section
variable {r0 : List S50}
theorem lnk_to : ∀ {l : List S76} {p a b : S50}, Lnk r0 p l a → SameP a b → Lnk r0 p l b
  | [], p, a, b, h, h' => ⟨h.1.trans h'.1, h.2.1.trans h'.2.1, h.2.2.trans h'.2.2⟩
  | s :: r, p, a, b, ⟨m, h1, h2, h3, h4, h5, h6⟩, h' => ⟨m, h1, h2, h3, h4, h5, lnk_to h6 h'⟩
theorem lnk_app : ∀ {l : List S76} {p a m : S50} {s : S76}, Lnk r0 p l a → 0 ≤ s.f0 → s.f0.toNat < r0.length → r0.getD s.f0.toNat z50 = m → InG m → s.f5 = 20 * (ab (m.f1 - a.f1) + ab (m.f2 - a.f2) + ab (m.f3 - a.f3)) → Lnk r0 p (l ++ [s]) m
  | [], p, a, m, s, h, h1, h2, h3, h4, h5 => ⟨m, h1, h2, h3, h4, by rw [h.1, h.2.1, h.2.2]; exact h5, rfl, rfl, rfl⟩
  | x :: l, p, a, m, s, ⟨q, k1, k2, k3, k4, k5, k6⟩, h1, h2, h3, h4, h5 => ⟨q, k1, k2, k3, k4, k5, lnk_app k6 h1 h2 h3 h4 h5⟩
theorem ends_to {W : Wy} {a b : S50} (h : Ends r0 W a) (h' : SameP a b) : Ends r0 W b := ⟨⟨by rw [← h'.1]; exact h.1.1, by rw [← h'.2.1]; exact h.1.2.1, by rw [← h'.2.2]; exact h.1.2.2⟩, lnk_to h.2 h'⟩

theorem chain_app : ∀ {l : List Wy} {a b c : S50} {W : Wy}, Chain r0 a l b → SameP W.2 b → Ends r0 W c → Chain r0 a (l ++ [W]) c
  | [], a, b, c, W, h, h1, h2 => ⟨⟨h1.1.trans h.1.symm, h1.2.1.trans h.2.1.symm, h1.2.2.trans h.2.2.symm⟩, c, h2, rfl, rfl, rfl⟩
  | X :: l, a, b, c, W, ⟨h, x, h3, h4⟩, h1, h2 => ⟨h, x, h3, chain_app h4 h1 h2⟩
theorem chain_init : ∀ {l : List Wy} {a b : S50} {W : Wy}, Chain r0 a (l ++ [W]) b → ∃ c x, Chain r0 a l c ∧ SameP W.2 c ∧ Ends r0 W x ∧ SameP x b
  | [], a, b, W, ⟨h1, x, h2, h3⟩ => ⟨a, x, ⟨rfl, rfl, rfl⟩, h1, h2, h3⟩
  | X :: l, a, b, W, ⟨h, y, h3, h4⟩ => by
    obtain ⟨c, x, k1, k2, k3, k4⟩ := chain_init h4
    exact ⟨c, x, ⟨h, y, h3, k1⟩, k2, k3, k4⟩

theorem step_dir {a m : S50} {i : Int} (h : chg a m = 1) : (mkS i a m).f5 * (mkS i a m).f2 = 20 * (m.f1 - a.f1) ∧ (mkS i a m).f5 * (mkS i a m).f3 = 20 * (m.f2 - a.f2) ∧ (mkS i a m).f5 * (mkS i a m).f4 = 20 * (m.f3 - a.f3) := by
  have key : ∀ n : Int, ab n * sg n = n ∧ (n = 0 → ab n = 0 ∧ sg n = 0) := fun n => by
    unfold ab sg
    refine ⟨?_, fun e => ?_⟩
    · split
      · rw [if_neg (by omega)]; try omega
      · split
        · omega
        · omega
    · subst e; simp
  obtain ⟨k1, z1⟩ := key (m.f1 - a.f1)
  obtain ⟨k2, z2⟩ := key (m.f2 - a.f2)
  obtain ⟨k3, z3⟩ := key (m.f3 - a.f3)
  unfold mkS
  dsimp only
  have hh : (m.f1 - a.f1 = 0 ∧ m.f2 - a.f2 = 0) ∨ (m.f1 - a.f1 = 0 ∧ m.f3 - a.f3 = 0) ∨ (m.f2 - a.f2 = 0 ∧ m.f3 - a.f3 = 0) := by
    unfold chg at h; split at h <;> split at h <;> split at h <;> omega
  generalize hx : m.f1 - a.f1 = x at *
  generalize hy : m.f2 - a.f2 = y at *
  generalize hz : m.f3 - a.f3 = z at *
  rcases hh with ⟨e1, e2⟩ | ⟨e1, e2⟩ | ⟨e1, e2⟩
  · rw [(z1 e1).1, (z1 e1).2, (z2 e2).1, (z2 e2).2, e1, e2]
    refine ⟨by simp, by simp, ?_⟩
    rw [Int.zero_add, Int.zero_add, Int.mul_assoc, k3]
  · rw [(z1 e1).1, (z1 e1).2, (z3 e2).1, (z3 e2).2, e1, e2]
    refine ⟨by simp, ?_, by simp⟩
    rw [Int.zero_add, Int.add_zero, Int.mul_assoc, k2]
  · rw [(z2 e1).1, (z2 e1).2, (z3 e2).1, (z3 e2).2, e1, e2]
    refine ⟨?_, by simp, by simp⟩
    rw [Int.add_zero, Int.add_zero, Int.mul_assoc, k1]

theorem ends_new {a m : S50} {i : Nat} (h : chg a m = 1) (hi : i < r0.length) (hg : r0.getD i z50 = m) (hm : InG m) : Ends r0 ([mkS i a m], a) m := by
  obtain ⟨h1, h2, h3⟩ := step_dir (i := i) h
  refine ⟨?_, m, by unfold mkS; simp, by unfold mkS; simpa using hi, by unfold mkS; simpa using hg, hm, rfl, rfl, rfl, rfl⟩
  unfold tik hd
  simp only [sumH, Int.add_zero]
  show 20 * m.f1 = 20 * a.f1 + (mkS i a m).f5 * (mkS i a m).f2 ∧ 20 * m.f2 = 20 * a.f2 + (mkS i a m).f5 * (mkS i a m).f3 ∧ 20 * m.f3 = 20 * a.f3 + (mkS i a m).f5 * (mkS i a m).f4
  rw [h1, h2, h3]
  omega

theorem ends_more {W : Wy} {a m : S50} {i : Nat} (h : chg a m = 1) (hi : i < r0.length) (hg : r0.getD i z50 = m) (hm : InG m) (hl : 1 ≤ W.1.length) (hW : Ends r0 W a) (hk : like (hd W) (mkS i a m) = true) : Ends r0 (W.1 ++ [mkS i a m], W.2) m := by
  obtain ⟨h1, h2, h3⟩ := step_dir (i := i) h
  unfold like at hk
  simp only [Bool.and_eq_true, beq_iff_eq] at hk
  obtain ⟨⟨⟨_, k2⟩, k3⟩, k4⟩ := hk
  obtain ⟨hW, hL⟩ := hW
  refine ⟨?_, lnk_app hL (by unfold mkS; simp) (by unfold mkS; simpa using hi) (by unfold mkS; simpa using hg) hm rfl⟩
  unfold tik at hW ⊢
  rw [show hd (W.1 ++ [mkS i a m], W.2) = hd W from hd_app hl]
  dsimp only at hW ⊢
  rw [sumH_app, k2, k3, k4]
  rw [k2, k3, k4] at hW
  simp only [sumH, Int.add_zero, Int.add_mul]
  rw [h1, h2, h3]
  omega

theorem set_last {α : Type} {l : List α} {x y : α} : (l ++ [x]).set ((l ++ [x]).length - 1) y = l ++ [y] := by
  simp
theorem last_split {acc : List Wy} (h : acc.length > 0) : ∃ l, acc = l ++ [lastW acc] := by
  refine ⟨acc.dropLast, ?_⟩
  unfold lastW
  rw [getD_lt (by omega)]
  rw [List.dropLast_eq_take, List.take_append_getElem (by omega), show acc.length - 1 + 1 = acc.length by omega, List.take_length]

def Gd (w : Wy) : Prop := (∀ s ∈ w.1, 0 ≤ s.f5) ∧ InG w.2

theorem gd_add {acc : List Wy} {n : Int} {i : Nat} {a m z : S50} (h : ∀ w ∈ acc, WOk n w ∧ Gd w) (hc : chg a m = 1) (hi : i < r0.length) (hg : r0.getD i z50 = m) (hm : InG m) (ha : InG a) (hch : Chain r0 z acc a) : (∀ w ∈ addW acc (mkS i a m) a, Gd w) ∧ Chain r0 z (addW acc (mkS i a m) a) m := by
  have h5 : 0 ≤ (mkS i a m).f5 := by
    unfold mkS ab; dsimp only; split <;> split <;> split <;> omega
  unfold addW
  by_cases hif : acc.length > 0 ∧ like (hd (lastW acc)) (mkS i a m) = true
  · rw [if_pos hif]
    obtain ⟨l, hl⟩ := last_split hif.1
    obtain ⟨⟨w1, _⟩, g1, g2⟩ := h _ (mem_last hif.1)
    have hs : acc.set (acc.length - 1) ((lastW acc).1 ++ [mkS i a m], (lastW acc).2) = l ++ [((lastW acc).1 ++ [mkS i a m], (lastW acc).2)] := by
      generalize hX : lastW acc = X at *
      rw [hl]; exact set_last
    rw [hs]
    have hch' : Chain r0 z (l ++ [lastW acc]) a := by rw [← hl]; exact hch
    obtain ⟨c, x, k1, k2, k3, k4⟩ := chain_init hch'
    have k3' : Ends r0 (lastW acc) a := ends_to k3 k4
    refine ⟨fun w hw => ?_, chain_app k1 k2 (ends_more hc hi hg hm w1 k3' hif.2)⟩
    rcases List.mem_append.1 hw with hw | hw
    · exact (h w (by rw [hl]; simp [hw])).2
    · simp only [List.mem_singleton] at hw
      subst hw
      refine ⟨fun s hs => ?_, g2⟩
      rcases List.mem_append.1 hs with hs | hs
      · exact g1 s hs
      · simp only [List.mem_singleton] at hs; subst hs; exact h5
  · rw [if_neg hif]
    refine ⟨fun w hw => ?_, chain_app hch ⟨rfl, rfl, rfl⟩ (ends_new hc hi hg hm)⟩
    rcases List.mem_append.1 hw with hw | hw
    · exact (h w hw).2
    · simp only [List.mem_singleton] at hw
      subst hw
      exact ⟨fun s hs => by simp at hs; subst hs; exact h5, ha⟩

theorem bld_ok : ∀ (r pre : List S50) (a b : S50) (acc : List Wy), r0 = pre ++ r → r0.length ≤ 2000 → InG a → (∀ m ∈ r, InG m) → SameP b a → chk b r = true → (∀ w ∈ acc, WOk pre.length w ∧ Gd w) → Chain r0 z50 acc a →
    (∀ w ∈ bld r pre.length a acc, WOk r0.length w ∧ Gd w) ∧ ∃ e, Chain r0 z50 (bld r pre.length a acc) e
  | [], pre, a, b, acc, h0, h, ha, hr, he, hk, hw, hc => ⟨by subst h0; simpa [bld] using hw, a, by simpa [bld] using hc⟩
  | m :: r, pre, a, b, acc, h0, h, ha, hr, he, hk, hw, hc => by
    have hm : InG m := hr m (by simp)
    have hce : chg b m = chg a m := by unfold chg; rw [he.1, he.2.1, he.2.2]
    simp only [chk, hce, Bool.and_eq_true, decide_eq_true_eq] at hk
    obtain ⟨hc1, hk⟩ := hk
    have hcn := chg_nn (a := a) (m := m)
    have hg : r0.getD pre.length z50 = m := by rw [h0]; exact at_app rfl
    have hi : pre.length < r0.length := by rw [h0]; simp
    have ek : ((pre.length : Int) + 1) = ((pre ++ [m]).length : Int) := by simp
    by_cases hz : chg a m = 0
    · simp only [bld, if_pos hz, ek]
      exact bld_ok r (pre ++ [m]) a m acc (by simpa using h0) h ha (fun x hx => hr x (by simp [hx])) (chg_zero hz) hk (fun w hw' => ⟨by rw [← ek]; exact wok_more (fun w hw'' => (hw w hw'').1) w hw', (hw w hw').2⟩) hc
    · have h1 : chg a m = 1 := by omega
      simp only [bld, if_neg hz, ek]
      obtain ⟨g1, g2⟩ := gd_add (i := pre.length) hw h1 hi hg hm ha hc
      have g3 := wok_add (i := pre.length) (fun w hw' => (hw w hw').1) (by omega) h1 ha hm
      exact bld_ok r (pre ++ [m]) m m _ (by simpa using h0) h hm (fun x hx => hr x (by simp [hx])) ⟨rfl, rfl, rfl⟩ hk (fun w hw' => ⟨by rw [← ek]; exact g3 w hw', g1 w hw'⟩) g2
end

theorem good_of {w : Wy} {n : Nat} (hn : n ≤ 2000) (h : WOk (n : Int) w ∧ Gd w) : Good w := by
  obtain ⟨⟨h1, h2, h3, h4, h5⟩, h6, h7⟩ := h
  exact ⟨h1, by omega, h6, by omega, h5, h7⟩

end Go.Proofs.Ytpingihfadihfaa.AX

/- The controller, plainly: what the program answers. No conditions. -/
namespace Go.Proofs.Ytpingihfadihfaa.AX
open Go

def capOf (most : Int) (w : Wy) : Int := if (hd w).f1 = true then most else Int.tdiv (most + 1) 2
def allW (most g : Int) : List Wy → List (S38 × S59)
  | [] => []
  | w :: r => runW w (capOf most w) g (sumH w.1).toNat 0 0 ++ allW most g r

theorem capOf_ok {most : Int} {w : Wy} (h1 : 1 ≤ most) (h2 : most ≤ 1000) : 1 ≤ capOf most w ∧ capOf most w ≤ 1000 := by
  unfold capOf
  split
  · omega
  · rw [Int.tdiv_eq_ediv_of_nonneg (by omega)]; omega

theorem tik_zero {W : Wy} {a : S50} (h : SameP W.2 a) (ps : Int) : (tik W 0 ps).f0 = 20 * a.f1 ∧ (tik W 0 ps).f1 = 20 * a.f2 ∧ (tik W 0 ps).f2 = 20 * a.f3 := by
  unfold tik
  simp [h.1, h.2.1, h.2.2]
theorem tik_end {r0 : List S50} {W : Wy} {a : S50} (h : Ends r0 W a) (ps : Int) : (tik W (sumH W.1) ps).f0 = 20 * a.f1 ∧ (tik W (sumH W.1) ps).f1 = 20 * a.f2 ∧ (tik W (sumH W.1) ps).f2 = 20 * a.f3 := by
  obtain ⟨⟨h1, h2, h3⟩, _⟩ := h
  exact ⟨h1.symm, h2.symm, h3.symm⟩

theorem F25.t38_ok {v1 g cap v216 v217 : Int} {k : Int} {W : Wy} {q0 : List S50} {wl : List (List S76)} {a e : S50} {ps : Int} {tk : List S59} {hs : List S38} (hW : Good W) (ha : SameP W.2 a) (he : Ends q0 W e) (hk : wl.getD (Int.toNat k) [] = W.1) (hg : 1 ≤ g) (hg2 : g ≤ 1000) (hc : 1 ≤ cap) (hc2 : cap ≤ 1000) (ht : tk.length ≤ 20000) (hh : hs.length = tk.length) {r0 : List S50} :
    (tk.length + (runW W cap g (sumH W.1).toNat 0 0).length ≤ 20000 → ∃ q, F25.t38 (v1, g, k, cap, v216, v217, 20 * a.f1, 20 * a.f2, 20 * a.f3, ps, r0, wl, tk, hs) =
      some (.inl (v1, g, v216, v217, 20 * e.f1, 20 * e.f2, 20 * e.f3, q, r0, wl, tk ++ (runW W cap g (sumH W.1).toNat 0 0).map (·.2), hs ++ (runW W cap g (sumH W.1).toNat 0 0).map (·.1)))) ∧
    (¬ tk.length + (runW W cap g (sumH W.1).toNat 0 0).length ≤ 20000 → F25.t38 (v1, g, k, cap, v216, v217, 20 * a.f1, 20 * a.f2, 20 * a.f3, ps, r0, wl, tk, hs) = some (.inr 18)) := by
  have hs0 := sumH_nn hW.pos
  have hsum := hW.sum
  obtain ⟨z1, z2, z3⟩ := tik_zero ha ps
  have e6 := F25.l6_ok v1 g k cap v216 v217 (20 * a.f1) (20 * a.f2) (20 * a.f3) ps r0 wl tk hs hk hW.len2 W.1 [] 0 rfl hW.pos (by omega) (by omega)
  have e6' : F25.l6 (v1, g, k, cap, 0, v216, v217, k, (W.1.length : Int), 0, 20 * a.f1, 20 * a.f2, 20 * a.f3, ps, r0, wl, tk, hs) = some (v1, g, k, cap, sumH W.1, v216, v217, 20 * a.f1, 20 * a.f2, 20 * a.f3, ps, r0, wl, tk, hs) := by
    have := e6; rw [Int.zero_add] at this; exact this
  obtain ⟨r1, r2⟩ := F25.l8_ok (v1 := v1) (v216 := v216) (v217 := v217) (r0 := r0) hW hk hg hg2 hc hc2 (sumH W.1).toNat 0 0 ps tk hs (by omega) (by omega) (by omega) (by omega) hs0 ht hh
  rw [Int.sub_zero, z1, z2, z3] at r1 r2
  refine ⟨fun h => ?_, fun h => ?_⟩
  · obtain ⟨q, r1⟩ := r1 h
    obtain ⟨y1, y2, y3⟩ := tik_end he q
    rw [y1, y2, y3] at r1
    refine ⟨q, ?_⟩
    simp only [F25.t38, hk, e6', bS, r1]
  · simp only [F25.t38, hk, e6', bS, r2 h]

theorem F25.l4_ok {most g : Int} {q0 r0 : List S50} (hg : 1 ≤ g) (hg2 : g ≤ 1000) (hm : 1 ≤ most) (hm2 : most ≤ 1000) {wl : List Wy} (hwl : wl.length ≤ 2000) : ∀ (r pre : List Wy) (a e : S50) (ps : Int) (tk : List S59) (hs : List S38), wl = pre ++ r → Chain q0 a r e → (∀ w ∈ r, Good w) → tk.length ≤ 20000 → hs.length = tk.length →
    F25.l4 (most, g, (wl.length : Int), (pre.length : Int), 20 * a.f1, 20 * a.f2, 20 * a.f3, ps, r0, wl.map (·.1), tk, hs) =
      some (if tk.length + (allW most g r).length ≤ 20000 then .inr (r0, tk ++ (allW most g r).map (·.2), hs ++ (allW most g r).map (·.1)) else .inl 18)
  | [], pre, a, e, ps, tk, hs, h, hc, hgd, ht, hh => by
    subst h
    unfold F25.l4
    rw [lim_out (y := .inr (r0, tk, hs))]
    · simp [allW, ht]
    · simp (disch := omega) only [F25.l4.b, List.append_nil, dF, cF]
  | W :: r, pre, a, e, ps, tk, hs, h, hc, hgd, ht, hh => by
    obtain ⟨ha, c, hE, hc⟩ := hc
    have hW := hgd W (by simp)
    have hl : wl.length = pre.length + r.length + 1 := by rw [h]; simp; omega
    have hml : (wl.map (fun w : Wy => w.1)).length = wl.length := List.length_map _
    have hk : (wl.map (fun w : Wy => w.1)).getD (Int.toNat (pre.length : Int)) [] = W.1 := by
      rw [Int.toNat_natCast, h, map_getD (f := fun w : Wy => w.1) (d := ([], z50)) (by simp), at_app rfl]
    have hlen := hW.len
    obtain ⟨cc1, cc2⟩ := capOf_ok (w := W) hm hm2
    obtain ⟨t1, t2⟩ := F25.t38_ok (v1 := most) (v216 := (wl.length : Int)) (v217 := (pre.length : Int)) (ps := ps) (tk := tk) (hs := hs) (r0 := r0) hW ha hE hk hg hg2 cc1 cc2 ht hh
    have w1 : IntKind.wrap .i64 (most + 1) = most + 1 := w64 (by omega) (by omega)
    have w2 : IntKind.wrap .i64 (Int.tdiv (most + 1) 2) = Int.tdiv (most + 1) 2 := by rw [Int.tdiv_eq_ediv_of_nonneg (by omega)]; exact w64 (by omega) (by omega)
    have w3 : IntKind.wrap .i64 ((pre.length : Int) + 1) = ((pre ++ [W]).length : Int) := by rw [w64 (by omega) (by omega)]; simp
    have d1 : decide ((pre.length : Int) < (wl.length : Int)) = true := dT (by omega)
    have d2 : decide ((0 : Int) ≤ (pre.length : Int)) = true := dT (by omega)
    have d3 : decide ((0 : Int) < (W.1.length : Int)) = true := dT (by omega)
    have g4 : W.1.getD 0 z76 = hd W := rfl
    have hrl : (allW most g (W :: r)).length = (runW W (capOf most W) g (sumH W.1).toNat 0 0).length + (allW most g r).length := by simp [allW]
    by_cases h18 : tk.length + (runW W (capOf most W) g (sumH W.1).toNat 0 0).length ≤ 20000
    · obtain ⟨q, t1⟩ := t1 h18
      have ih := F25.l4_ok (q0 := q0) (r0 := r0) hg hg2 hm hm2 hwl r (pre ++ [W]) c e q (tk ++ (runW W (capOf most W) g (sumH W.1).toNat 0 0).map (·.2)) (hs ++ (runW W (capOf most W) g (sumH W.1).toNat 0 0).map (·.1)) (by simpa using h) hc (fun w hw => hgd w (by simp [hw])) (by simp; omega) (by simp; omega)
      unfold F25.l4 at ih ⊢
      rw [lim_in (x' := (most, g, (wl.length : Int), ((pre ++ [W]).length : Int), 20 * c.f1, 20 * c.f2, 20 * c.f3, q, r0, wl.map (·.1), tk ++ (runW W (capOf most W) g (sumH W.1).toNat 0 0).map (·.2), hs ++ (runW W (capOf most W) g (sumH W.1).toNat 0 0).map (·.1)))]
      · rw [ih, hrl]
        simp only [List.length_append, List.length_map, allW, List.map_append, List.append_assoc, Nat.add_assoc]
      · simp only [F25.l4.b, d1, d2, hml, Bool.and_self, cT, hk, d3, Nat.le_refl, decide_true, Bool.true_and, Int.toNat_zero, g4, w1, w2]
        unfold capOf at t1 ⊢
        cases hf : (hd W).f1 with
        | true =>
          rw [hf] at t1
          simp only [if_true] at t1
          simp only [Bool.not_true, cF, t1, bS, w3, if_true]
        | false =>
          rw [hf] at t1
          simp only [Bool.false_eq_true, if_false] at t1
          simp only [Bool.not_false, cT, t1, bS, w3, Bool.false_eq_true, if_false]
    · have t2 := t2 h18
      unfold F25.l4
      rw [lim_out (y := .inl 18)]
      · rw [if_neg (by omega)]
      · simp only [F25.l4.b, d1, d2, hml, Bool.and_self, cT, hk, d3, Nat.le_refl, decide_true, Bool.true_and, Int.toNat_zero, g4, w1, w2]
        unfold capOf at t2
        cases hf : (hd W).f1 with
        | true =>
          rw [hf] at t2
          simp only [if_true] at t2
          simp only [Bool.not_true, cF, t2, bS]
        | false =>
          rw [hf] at t2
          simp only [Bool.false_eq_true, if_false] at t2
          simp only [Bool.not_false, cT, t2, bS]

/-- All there is to tell of moves that are right: ticks, with how things stand ahead of each. -/
def steps (ms : List S50) (most g : Int) : List (S38 × S59) := allW most g (bld ms 0 z50 [])

theorem InG_z : InG z50 := by unfold InG z50; simp
theorem bldz {ms : List S50} (h : ms.length ≤ 2000) (hi : ∀ m ∈ ms, InG m) (hk : chk z50 ms = true) : (∀ w ∈ bld ms 0 z50 [], Good w) ∧ (∃ e, Chain ms z50 (bld ms 0 z50 []) e) ∧ (bld ms 0 z50 []).length ≤ 2000 := by
  obtain ⟨h1, h2⟩ := bld_ok (r0 := ms) ms [] z50 z50 [] rfl h InG_z hi ⟨rfl, rfl, rfl⟩ hk (by simp) ⟨rfl, rfl, rfl⟩
  obtain ⟨_, _, h3⟩ := F31.l0_ok ms [] z50 z50 [] h InG_z hi rfl rfl rfl hk (by simp) (by simp)
  exact ⟨fun w hw => good_of h (h1 w hw), h2, Nat.le_trans h3 h⟩

/-- What the controller answers: a code, ticks and how things stand. -/
def ctl (ms : List S50) (most g : Int) : (List S59 × List S38) × Int :=
  if cde ms most g = 0 then (if (steps ms most g).length ≤ 20000 then (((steps ms most g).map (·.2), (steps ms most g).map (·.1) ++ [⟨(ms.length : Int), 0, 0⟩]), 0) else (([], []), 18)) else (([], []), cde ms most g)

theorem cde_zero {ms : List S50} {most g : Int} (h : cde ms most g = 0) : ms.length ≤ 2000 ∧ 1 ≤ most ∧ most ≤ 1000 ∧ 1 ≤ g ∧ g ≤ most ∧ (∀ m ∈ ms, InG m) ∧ chk z50 ms = true := by
  unfold cde at h
  by_cases h1 : ms.length > 4096
  · rw [if_pos h1] at h; omega
  · rw [if_neg h1] at h
    by_cases h2 : most < 1 ∨ most > 1000 ∨ g < 1 ∨ g > most
    · rw [if_pos h2] at h; omega
    · rw [if_neg h2] at h
      by_cases h3 : ms.length > 2000
      · rw [if_pos h3] at h; omega
      · rw [if_neg h3] at h
        cases h4 : ms.all inG with
        | false => rw [h4] at h; simp at h
        | true =>
          rw [h4] at h
          cases h5 : chk z50 ms with
          | false => rw [h5] at h; simp at h
          | true =>
            refine ⟨by omega, by omega, by omega, by omega, by omega, fun m hm => ?_, rfl⟩
            exact inG_iff.1 (List.all_eq_true.1 h4 m hm)

theorem F25.l0_ok (v1 v2 : Int) : ∀ (r pre : List S50), (pre ++ r).length ≤ 5000 → F25.l0 (v1, v2, ((pre ++ r).length : Int), (pre.length : Int), pre ++ r) = some (if r.all inG then .inr (v1, v2, pre ++ r) else .inl 1)
  | [], pre, h => by
    unfold F25.l0
    rw [lim_out (y := .inr (v1, v2, pre ++ []))]
    · simp
    · simp (disch := omega) only [F25.l0.b, List.append_nil, dF, cF]
  | m :: r, pre, h => by
    have hl : (pre ++ m :: r).length = pre.length + r.length + 1 := by simp; omega
    have hg : (pre ++ m :: r).getD pre.length z50 = m := at_app rfl
    have d1 : decide ((pre.length : Int) < ((pre ++ m :: r).length : Int)) = true := dT (by omega)
    have d2 : decide ((0 : Int) ≤ (pre.length : Int)) = true := dT (by omega)
    have w3 : IntKind.wrap .i64 ((pre.length : Int) + 1) = ((pre ++ [m]).length : Int) := by rw [w64 (by omega) (by omega)]; simp
    unfold F25.l0
    cases hm : inG m with
    | true =>
      have ih := F25.l0_ok v1 v2 r (pre ++ [m]) (by simpa using h)
      unfold F25.l0 at ih
      simp only [List.append_assoc, List.singleton_append] at ih
      rw [lim_in (x' := (v1, v2, ((pre ++ m :: r).length : Int), ((pre ++ [m]).length : Int), pre ++ m :: r))]
      · rw [ih]
        simp only [List.all_cons, hm, Bool.true_and]
      · have := inG_iff.1 hm
        obtain ⟨a1, a2, a3, a4, a5, a6⟩ := this
        simp (disch := omega) only [F25.l0.b, hg, d1, d2, dF, Bool.and_self, cT, cF, Int.toNat_natCast, Bool.or_self, w3]
    | false =>
      rw [lim_out (y := .inl 1)]
      · simp [hm]
      · unfold inG at hm
        simp only [Bool.not_eq_false'] at hm
        simp only [F25.l0.b, hg, d1, d2, Bool.and_self, cT, Int.toNat_natCast, hm]

theorem F25.ok (ms : List S50) (most g : Int) : F25.F (ms, most, g) = some (ctl ms most g) := by
  unfold ctl
  by_cases h1 : ms.length > 4096
  · have : cde ms most g = 2 := by unfold cde; rw [if_pos h1]
    rw [this]
    simp (disch := omega) only [F25.F, dT, cT]
    rfl
  · by_cases h2 : most < 1 ∨ most > 1000 ∨ g < 1 ∨ g > most
    · have : cde ms most g = 1 := by unfold cde; rw [if_neg h1, if_pos h2]
      rw [this]
      have : ((((decide (most < 1)) || (decide (most > 1000))) || (decide (g < 1))) || (decide (g > most))) = true := by simpa [or_assoc] using h2
      have d : decide ((ms.length : Int) > 4096) = false := dF (by omega)
      simp only [F25.F, d, cF, this, cT]
      rfl
    · by_cases h3 : ms.length > 2000
      · have : cde ms most g = 10 := by unfold cde; rw [if_neg h1, if_neg h2, if_pos h3]
        rw [this]
        simp (disch := omega) only [F25.F, dF, dT, cF, Bool.or_self, cT]
        rfl
      · have e1 := F25.l0_ok most g ms [] (by simp; omega)
        simp only [List.nil_append, List.length_nil] at e1
        have e1' : F25.l0 (most, g, (ms.length : Int), 0, ms) = _ := e1
        have d1 : decide ((ms.length : Int) > 4096) = false := dF (by omega)
        have d2 : decide (most < 1) = false := dF (by omega)
        have d3 : decide (most > 1000) = false := dF (by omega)
        have d4 : decide (g < 1) = false := dF (by omega)
        have d5 : decide (g > most) = false := dF (by omega)
        have d6 : decide ((ms.length : Int) > 2000) = false := dF (by omega)
        simp only [F25.F, d1, d2, d3, d4, d5, d6, cF, Bool.or_self, e1', bS]
        have hcde : cde ms most g = if ms.all inG then (if chk z50 ms then 0 else 13) else 1 := by unfold cde; rw [if_neg h1, if_neg h2, if_neg h3]
        cases h4 : ms.all inG with
        | false => rw [hcde, h4]; rfl
        | true =>
          simp only [if_true]
          have hi : ∀ m ∈ ms, InG m := fun m hm => inG_iff.1 (List.all_eq_true.1 h4 m hm)
          have e2 := F25.l2_ok most g ms [] z50 z50 [] (by simp; omega) InG_z hi rfl rfl rfl (by simp) (by simp)
          simp only [List.nil_append, List.length_nil, List.map_nil] at e2
          have e2' : F25.l2 (most, g, (ms.length : Int), 0, false, 0, 0, 0, ms, []) = _ := e2
          rw [e2']
          cases h5 : chk z50 ms with
          | false => rw [hcde, h4, h5]; rfl
          | true =>
            obtain ⟨b1, ⟨e, b2⟩, b3⟩ := bldz (by omega) hi h5
            have e4 := F25.l4_ok (q0 := ms) (r0 := ms) (most := most) (g := g) (by omega) (by omega) (by omega) (by omega) b3 (bld ms 0 z50 []) [] z50 e 0 [] [] rfl b2 b1 (by simp) (by simp)
            have e4' : F25.l4 (most, g, ((bld ms 0 z50 []).length : Int), 0, 0, 0, 0, 0, ms, (bld ms 0 z50 []).map (·.1), [], []) = _ := e4
            have hz : cde ms most g = 0 := by rw [hcde, h4, h5]; rfl
            rw [if_pos hz]
            have hml : ((bld ms 0 z50 []).map (fun w : Wy => w.1)).length = (bld ms 0 z50 []).length := List.length_map _
            have eb : bld ms ((0 : Nat) : Int) z50 [] = bld ms 0 z50 [] := rfl
            simp only [if_true, bS, eb, hml, e4', List.length_nil, Nat.zero_add, List.nil_append]
            unfold steps
            by_cases h6 : (allW most g (bld ms 0 z50 [])).length ≤ 20000
            · rw [if_pos h6, if_pos h6]
              have : decide (((allW most g (bld ms 0 z50 [])).map (fun x => x.1)).length + [(⟨(ms.length : Int), 0, 0⟩ : S38)].length ≤ 274877906944) = true := dT (by simp only [List.length_map, List.length_singleton]; omega)
              simp only [this, cT]
            · rw [if_neg h6, if_neg h6]

end Go.Proofs.Ytpingihfadihfaa.AX

/- The controller, plainly: what the reference answers. No conditions. -/
namespace Go.Proofs.Ytpingihfadihfaa.AX
open Go

theorem F32.l0_ok {r0 : List S50} {e : S50} (hn : r0.length ≤ 2000) {W : List S76} (hWn : W.length ≤ 2000) (sp x1 x2 x5 x6 x7 x8 : Int) (x3 x4 : Bool) : ∀ (r pre : List S76) (p : S50) (d : Int), W = pre ++ r → InG p → Lnk r0 p r e → 0 ≤ d → d ≤ 100000000 → d < sumH r →
    F32.l0 (d, sp, (pre.length : Int), x1, x2, x3, x4, x5, x6, x7, x8, 0, 0, 0, p.f0, p.f1, p.f2, p.f3, r0, W.map (·.f0)) = some (.inl ((hldAt r d sp).f0, (hldAt r d sp).f1, (hldAt r d sp).f2))
  | [], pre, p, d, h, hp, hl, h1, h2, h3 => by simp [sumH] at h3; omega
  | s :: r, pre, p, d, h, hp, hl, h1, h2, h3 => by
    obtain ⟨m, k1, k2, k3, k4, k5, k6⟩ := hl
    have hlen : W.length = pre.length + r.length + 1 := by rw [h]; simp; omega
    have hml : (W.map (·.f0)).length = W.length := List.length_map _
    have hg : (W.map (·.f0)).getD pre.length 0 = s.f0 := by rw [h, map_getD (f := fun s : S76 => s.f0) (d := z76) (by simp), at_app rfl]
    have km := k4
    obtain ⟨p1, p2, p3, p4, p5, p6⟩ := hp
    obtain ⟨m1, m2, m3, m4, m5, m6⟩ := k4
    have b1 := ab_le (n := m.f1 - p.f1) (by omega) (by omega)
    have b2 := ab_le (n := m.f2 - p.f2) (by omega) (by omega)
    have b3 := ab_le (n := m.f3 - p.f3) (by omega) (by omega)
    have w1 : IntKind.wrap .i64 (m.f1 - p.f1) = m.f1 - p.f1 := w64 (by omega) (by omega)
    have w2 : IntKind.wrap .i64 (m.f2 - p.f2) = m.f2 - p.f2 := w64 (by omega) (by omega)
    have w3 : IntKind.wrap .i64 (m.f3 - p.f3) = m.f3 - p.f3 := w64 (by omega) (by omega)
    have w6 : IntKind.wrap .i64 (ab (m.f1 - p.f1) + ab (m.f2 - p.f2)) = ab (m.f1 - p.f1) + ab (m.f2 - p.f2) := w64 (by omega) (by omega)
    have w7 : IntKind.wrap .i64 (ab (m.f1 - p.f1) + ab (m.f2 - p.f2) + ab (m.f3 - p.f3)) = ab (m.f1 - p.f1) + ab (m.f2 - p.f2) + ab (m.f3 - p.f3) := w64 (by omega) (by omega)
    have w8 : IntKind.wrap .i64 (20 * (ab (m.f1 - p.f1) + ab (m.f2 - p.f2) + ab (m.f3 - p.f3))) = s.f5 := by rw [w64 (by omega) (by omega), k5]
    have f1 := F44.ok (n := m.f1 - p.f1) (by omega) (by omega)
    have f2 := F44.ok (n := m.f2 - p.f2) (by omega) (by omega)
    have f3 := F44.ok (n := m.f3 - p.f3) (by omega) (by omega)
    have d1 : decide ((pre.length : Int) < (W.length : Int)) = true := dT (by omega)
    have d2 : decide ((0 : Int) ≤ (pre.length : Int)) = true := dT (by omega)
    have d3 : decide ((0 : Int) ≤ s.f0) = true := dT k1
    have d4 : decide (s.f0 < (r0.length : Int)) = true := dT (by omega)
    have w9 : IntKind.wrap .i64 ((pre.length : Int) + 1) = ((pre ++ [s]).length : Int) := by rw [w64 (by omega) (by omega)]; simp
    have h5 : 0 ≤ s.f5 := by omega
    have w10 : IntKind.wrap .i64 (d - s.f5) = d - s.f5 := w64 (by omega) (by omega)
    simp only [sumH] at h3
    unfold F32.l0
    by_cases hlt : d < s.f5
    · have d5 : decide (d < s.f5) = true := dT hlt
      rw [lim_out (y := .inl (s.f0, d, sp))]
      · simp only [hldAt, if_pos hlt]
      · simp only [F32.l0.b, hml, d1, d2, d3, d4, Bool.and_self, cT, Int.toNat_natCast, hg, k3, f1, f2, f3, w1, w2, w3, w6, w7, w8, bS, d5]
    · have d5 : decide (d < s.f5) = false := dF hlt
      have ih := F32.l0_ok hn hWn sp x1 x2 x5 x6 x7 x8 x3 x4 r (pre ++ [s]) m (d - s.f5) (by simpa using h) km k6 (by omega) (by omega) (by omega)
      unfold F32.l0 at ih
      rw [lim_in (x' := (d - s.f5, sp, ((pre ++ [s]).length : Int), x1, x2, x3, x4, x5, x6, x7, x8, 0, 0, 0, m.f0, m.f1, m.f2, m.f3, r0, W.map (·.f0)))]
      · rw [ih]; simp only [hldAt, if_neg hlt]
      · simp only [F32.l0.b, hml, d1, d2, d3, d4, Bool.and_self, cT, cF, Int.toNat_natCast, hg, k3, f1, f2, f3, w1, w2, w3, w6, w7, w8, bS, d5, w9, w10]

theorem F32.ok {r0 : List S50} {W : Wy} {e : S50} (hn : r0.length ≤ 2000) (hW : Good W) (he : Ends r0 W e) {d sp : Int} (h1 : 0 ≤ d) (h2 : d < sumH W.1) :
    F32.F (r0, ((toW W).f0, (toW W).f1, (toW W).f2, (toW W).f3, (toW W).f4, (toW W).f5, (toW W).f6, (toW W).f7, (toW W).f8), d, sp) = some ((hldAt W.1 d sp).f0, (hldAt W.1 d sp).f1, (hldAt W.1 d sp).f2) := by
  have := F32.l0_ok hn hW.len2 sp (ax (hd W)) (dr (hd W)) W.2.f1 W.2.f2 W.2.f3 (sumH W.1) (hd W).f1 W.2.f0 W.1 [] W.2 d rfl hW.frm he.2 h1 (by have := hW.sum; omega) h2
  have this' : F32.l0 (d, sp, 0, ax (hd W), dr (hd W), (hd W).f1, W.2.f0, W.2.f1, W.2.f2, W.2.f3, sumH W.1, 0, 0, 0, W.2.f0, W.2.f1, W.2.f2, W.2.f3, r0, W.1.map (·.f0)) = _ := this
  unfold toW
  simp only [F32.F, this', bS]

theorem F34.ok {W : Wy} (hW : Good W) {d sp : Int} (h1 : 0 ≤ d) (h2 : d ≤ 20000000) :
    F34.F (((toW W).f0, (toW W).f1, (toW W).f2, (toW W).f3, (toW W).f4, (toW W).f5, (toW W).f6, (toW W).f7, (toW W).f8), d) = some ((tik W d sp).f0, (tik W d sp).f1, (tik W d sp).f2, 0) := by
  obtain ⟨g1, g2, g3, g4, g5, g6⟩ := hW.frm
  have hdir := hW.dir
  unfold toW tik ax dr
  have w1 : IntKind.wrap .i64 (W.2.f1 * 20) = 20 * W.2.f1 := by rw [w64 (by omega) (by omega)]; omega
  have w2 : IntKind.wrap .i64 (W.2.f2 * 20) = 20 * W.2.f2 := by rw [w64 (by omega) (by omega)]; omega
  have w3 : IntKind.wrap .i64 (W.2.f3 * 20) = 20 * W.2.f3 := by rw [w64 (by omega) (by omega)]; omega
  unfold dirOk at hdir
  generalize hd W = s at *
  rcases hdir with ⟨k1, k2, k3⟩ | ⟨k1, k2, k3⟩ | ⟨k1, k2, k3⟩
  · have hne : ¬ s.f2 = 0 := by omega
    have b := mul_dir (x := s.f2) (v := d) (by omega) h1
    have w4 : IntKind.wrap .i64 (s.f2 * d) = d * s.f2 := by rw [Int.mul_comm]; exact w64 (by omega) (by omega)
    have w5 : IntKind.wrap .i64 (20 * W.2.f1 + d * s.f2) = 20 * W.2.f1 + d * s.f2 := w64 (by omega) (by omega)
    have q : ((1 : Int) == 1) = true := rfl
    simp only [F34.F, if_neg hne, q, cT, w1, w2, w3, w4, w5, k2, k3, Int.mul_zero, Int.add_zero]
  · have hne : ¬ s.f3 = 0 := by omega
    have b := mul_dir (x := s.f3) (v := d) (by omega) h1
    have w4 : IntKind.wrap .i64 (s.f3 * d) = d * s.f3 := by rw [Int.mul_comm]; exact w64 (by omega) (by omega)
    have w5 : IntKind.wrap .i64 (20 * W.2.f2 + d * s.f3) = 20 * W.2.f2 + d * s.f3 := w64 (by omega) (by omega)
    have q : ((2 : Int) == 1) = false := rfl
    have q2 : ((2 : Int) == 2) = true := rfl
    simp only [F34.F, if_pos k1, if_neg hne, q, q2, cT, cF, w1, w2, w3, w4, w5, k1, k3, if_true, Int.mul_zero, Int.add_zero]
  · have b := mul_dir (x := s.f4) (v := d) (by omega) h1
    have w4 : IntKind.wrap .i64 (s.f4 * d) = d * s.f4 := by rw [Int.mul_comm]; exact w64 (by omega) (by omega)
    have w5 : IntKind.wrap .i64 (20 * W.2.f3 + d * s.f4) = 20 * W.2.f3 + d * s.f4 := w64 (by omega) (by omega)
    have q : ((3 : Int) == 1) = false := rfl
    have q2 : ((3 : Int) == 2) = false := rfl
    simp only [F34.F, if_pos k1, if_pos k2, q, q2, cF, w1, w2, w3, w4, w5, k1, k2, if_true, Int.mul_zero, Int.add_zero]

theorem F23.l2_step {most g cap d sp v13 : Int} {k : Int} {W : Wy} {e : S50} {r0 : List S50} {wl : List S69} {tk : List S59} {hs : List S38} (hn : r0.length ≤ 2000) (hW : Good W) (he : Ends r0 W e) (hk : wl.getD (Int.toNat k) z69 = toW W) (hg : 1 ≤ g) (hg2 : g ≤ 1000) (hc : 1 ≤ cap) (hc2 : cap ≤ 1000) (hsp : 0 ≤ sp) (hsp2 : sp ≤ 1000)
    (hd0 : 0 ≤ d) (hd1 : d < sumH W.1) (ht : tk.length ≤ 20000) (hh : hs.length ≤ 20000) :
    F23.l2.b (most, g, v13, cap, d, sp, k, (toW W).f1, (toW W).f2, (toW W).f3, (toW W).f4, (toW W).f5, (toW W).f6, (toW W).f7, (toW W).f8, r0, wl, tk, hs) =
      if tk.length ≥ 20000 then some (.inr (.inl (18, [], []))) else
      some (.inl (most, g, v13, cap, d + nxt cap g (sumH W.1 - d) sp, nxt cap g (sumH W.1 - d) sp, k, (toW W).f1, (toW W).f2, (toW W).f3, (toW W).f4, (toW W).f5, (toW W).f6, (toW W).f7, (toW W).f8, r0, wl,
        tk ++ [tik W (d + nxt cap g (sumH W.1 - d) sp) (nxt cap g (sumH W.1 - d) sp)], hs ++ [hldAt W.1 d sp])) := by
  have hsum := hW.sum
  have n1 := nxt_ok (left := sumH W.1 - d) hg hg2 hc hc2 hsp hsp2 (by omega)
  have e32 := F32.ok (sp := sp) hn hW he hd0 hd1
  have e33 := F33.ok (left := sumH W.1 - d) hg hg2 hc hc2 hsp hsp2
  have e33' : F33.F (sp, cap, g, sumH W.1 - d) = some (nxt cap g (sumH W.1 - d) sp) := e33
  have e34 := F34.ok hW (d := d + nxt cap g (sumH W.1 - d) sp) (sp := nxt cap g (sumH W.1 - d) sp) (by omega) (by omega)
  have f8 : (toW W).f8 = sumH W.1 := rfl
  have g0 : decide (d < sumH W.1) = true := dT hd1
  have g1 : decide (hs.length + 1 ≤ 274877906944) = true := dT (by omega)
  have g5 : decide (tk.length + 1 ≤ 274877906944) = true := dT (by omega)
  have g6 : IntKind.wrap .i64 (sumH W.1 - d) = sumH W.1 - d := w64 (by omega) (by omega)
  have g7 : IntKind.wrap .i64 (d + nxt cap g (sumH W.1 - d) sp) = d + nxt cap g (sumH W.1 - d) sp := w64 (by omega) (by omega)
  have g8 : (⟨(hldAt W.1 d sp).f0, (hldAt W.1 d sp).f1, (hldAt W.1 d sp).f2⟩ : S38) = hldAt W.1 d sp := rfl
  have g9 : ∀ v, (⟨(tik W (d + v) v).f0, (tik W (d + v) v).f1, (tik W (d + v) v).f2, v⟩ : S59) = tik W (d + v) v := fun v => rfl
  rw [f8] at e32 e34 ⊢
  generalize hv : nxt cap g (sumH W.1 - d) sp = v at *
  simp only [F23.l2.b, g0, cT, hk, e32, bS, g1, g8, g6, e33', g7, e34, g9, g5, List.length_append, List.length_singleton]
  by_cases h18 : tk.length ≥ 20000
  · have : decide (((tk.length + 1 : Nat) : Int) > 20000) = true := dT (by omega)
    rw [if_pos h18, this, cT]
  · have : decide (((tk.length + 1 : Nat) : Int) > 20000) = false := dF (by omega)
    rw [if_neg h18, this, cF]

theorem F23.l2_ok {most g cap v13 : Int} {k : Int} {W : Wy} {e : S50} {r0 : List S50} {wl : List S69} (hn : r0.length ≤ 2000) (hW : Good W) (he : Ends r0 W e) (hk : wl.getD (Int.toNat k) z69 = toW W) (hg : 1 ≤ g) (hg2 : g ≤ 1000) (hc : 1 ≤ cap) (hc2 : cap ≤ 1000) : ∀ (n : Nat) (d sp : Int) (tk : List S59) (hs : List S38), sumH W.1 - d ≤ n → 0 ≤ sp → sp ≤ 1000 → 0 ≤ d → d ≤ sumH W.1 → tk.length ≤ 20000 → hs.length = tk.length →
    F23.l2 (most, g, v13, cap, d, sp, k, (toW W).f1, (toW W).f2, (toW W).f3, (toW W).f4, (toW W).f5, (toW W).f6, (toW W).f7, (toW W).f8, r0, wl, tk, hs) =
      some (if tk.length + (runW W cap g n d sp).length ≤ 20000 then .inr (most, g, v13, r0, wl, tk ++ (runW W cap g n d sp).map (·.2), hs ++ (runW W cap g n d sp).map (·.1)) else .inl (18, [], []))
  | n, d, sp, tk, hs, hnn, h1, h2, h3, h4, h5, h6 => by
    by_cases hlt : d < sumH W.1
    · cases n with
      | zero => omega
      | succ n =>
        have n1 := nxt_ok (left := sumH W.1 - d) hg hg2 hc hc2 h1 h2 (by omega)
        have hst := F23.l2_step (most := most) (v13 := v13) (tk := tk) (hs := hs) hn hW he hk hg hg2 hc hc2 h1 h2 h3 hlt h5 (by omega)
        have hrun : runW W cap g (n + 1) d sp = (hldAt W.1 d sp, tik W (d + nxt cap g (sumH W.1 - d) sp) (nxt cap g (sumH W.1 - d) sp)) :: runW W cap g n (d + nxt cap g (sumH W.1 - d) sp) (nxt cap g (sumH W.1 - d) sp) := by simp only [runW, if_pos hlt]
        unfold F23.l2
        by_cases h18 : tk.length ≥ 20000
        · rw [if_pos h18] at hst
          rw [lim_out hst, hrun, if_neg (by simp; omega)]
        · rw [if_neg h18] at hst
          rw [lim_in hst]
          generalize nxt cap g (sumH W.1 - d) sp = v at *
          have ih := F23.l2_ok (most := most) (v13 := v13) hn hW he hk hg hg2 hc hc2 n (d + v) v (tk ++ [tik W (d + v) v]) (hs ++ [hldAt W.1 d sp]) (by omega) (by omega) (by omega) (by omega) (by omega) (by simp; omega) (by simp; omega)
          unfold F23.l2 at ih
          rw [ih, hrun]
          simp only [List.length_append, List.length_singleton, List.append_assoc, List.singleton_append, List.length_cons, List.length_nil, Nat.zero_add, List.map_cons, Nat.add_assoc, Nat.add_comm 1]
    · have hrun : runW W cap g n d sp = [] := by
        cases n with
        | zero => rfl
        | succ n => simp only [runW, if_neg hlt]
      rw [hrun]
      unfold F23.l2
      rw [lim_out (y := .inr (most, g, v13, r0, wl, tk, hs))]
      · simp [h5]
      · have f8 : (toW W).f8 = sumH W.1 := rfl
        have g0 : decide (d < sumH W.1) = false := dF hlt
        simp only [F23.l2.b, f8, g0, cF]

theorem F23.l0_ok {most g : Int} {r0 : List S50} (hn : r0.length ≤ 2000) (hg : 1 ≤ g) (hg2 : g ≤ 1000) (hm : 1 ≤ most) (hm2 : most ≤ 1000) {wl : List Wy} (hwl : wl.length ≤ 2000) : ∀ (r pre : List Wy) (a e : S50) (tk : List S59) (hs : List S38), wl = pre ++ r → Chain r0 a r e → (∀ w ∈ r, Good w) → tk.length ≤ 20000 → hs.length = tk.length →
    F23.l0 (most, g, (pre.length : Int), r0, wl.map toW, tk, hs) =
      some (if tk.length + (allW most g r).length ≤ 20000 then .inr (r0, tk ++ (allW most g r).map (·.2), hs ++ (allW most g r).map (·.1)) else .inl (18, [], []))
  | [], pre, a, e, tk, hs, h, hc, hgd, ht, hh => by
    subst h
    unfold F23.l0
    rw [lim_out (y := .inr (r0, tk, hs))]
    · simp [allW, ht]
    · simp (disch := omega) only [F23.l0.b, List.append_nil, List.length_map, dF, cF]
  | W :: r, pre, a, e, tk, hs, h, hc, hgd, ht, hh => by
    obtain ⟨ha, c, hE, hc⟩ := hc
    have hW := hgd W (by simp)
    have hl : wl.length = pre.length + r.length + 1 := by rw [h]; simp; omega
    have hml : (wl.map toW).length = wl.length := List.length_map _
    have hk : (wl.map toW).getD pre.length z69 = toW W := by
      rw [h, map_getD (f := toW) (d := ([], z50)) (by simp), at_app rfl]
    have hk2 : (wl.map toW).getD (Int.toNat (pre.length : Int)) z69 = toW W := by rw [Int.toNat_natCast]; exact hk
    obtain ⟨cc1, cc2⟩ := capOf_ok (w := W) hm hm2
    have hs0 := sumH_nn hW.pos
    have t1 := F23.l2_ok (most := most) (v13 := (pre.length : Int)) hn hW hE hk2 hg hg2 cc1 cc2 (sumH W.1).toNat 0 0 tk hs (by omega) (by omega) (by omega) (by omega) hs0 ht hh
    have w1 : IntKind.wrap .i64 (most + 1) = most + 1 := w64 (by omega) (by omega)
    have w2 : IntKind.wrap .i64 (Int.tdiv (most + 1) 2) = Int.tdiv (most + 1) 2 := by rw [Int.tdiv_eq_ediv_of_nonneg (by omega)]; exact w64 (by omega) (by omega)
    have w3 : IntKind.wrap .i64 ((pre.length : Int) + 1) = ((pre ++ [W]).length : Int) := by rw [w64 (by omega) (by omega)]; simp
    have d1 : decide ((pre.length : Int) < (wl.length : Int)) = true := dT (by omega)
    have d2 : decide ((0 : Int) ≤ (pre.length : Int)) = true := dT (by omega)
    have f3 : (toW W).f3 = (hd W).f1 := rfl
    have hrl : (allW most g (W :: r)).length = (runW W (capOf most W) g (sumH W.1).toNat 0 0).length + (allW most g r).length := by simp [allW]
    have hst : F23.l0.b (most, g, (pre.length : Int), r0, wl.map toW, tk, hs) = if tk.length + (runW W (capOf most W) g (sumH W.1).toNat 0 0).length ≤ 20000 then some (.inl (most, g, ((pre ++ [W]).length : Int), r0, wl.map toW, tk ++ (runW W (capOf most W) g (sumH W.1).toNat 0 0).map (·.2), hs ++ (runW W (capOf most W) g (sumH W.1).toNat 0 0).map (·.1))) else some (.inr (.inl (18, [], []))) := by
      simp only [F23.l0.b, hml, d1, d2, Bool.and_self, cT, Int.toNat_natCast, hk]
      unfold capOf at t1 ⊢
      cases hf : (hd W).f1 with
      | true =>
        rw [hf] at t1
        simp only [if_true] at t1 ⊢
        have f3' : (toW W).f3 = true := by rw [f3, hf]
        rw [f3'] at t1
        simp only [f3', Bool.not_true, cF, F23.t14, t1, bS]
        by_cases h18 : tk.length + (runW W most g (sumH W.1).toNat 0 0).length ≤ 20000
        · rw [if_pos h18, if_pos h18]; simp only [bS, w3]
        · rw [if_neg h18, if_neg h18]; simp only [bS]
      | false =>
        rw [hf] at t1
        simp only [Bool.false_eq_true, if_false] at t1 ⊢
        have f3' : (toW W).f3 = false := by rw [f3, hf]
        rw [f3'] at t1
        simp only [f3', Bool.not_false, cT, F23.t14, w1, w2, t1, bS]
        by_cases h18 : tk.length + (runW W (Int.tdiv (most + 1) 2) g (sumH W.1).toNat 0 0).length ≤ 20000
        · rw [if_pos h18, if_pos h18]; simp only [bS, w3]
        · rw [if_neg h18, if_neg h18]; simp only [bS]
    unfold F23.l0
    by_cases h18 : tk.length + (runW W (capOf most W) g (sumH W.1).toNat 0 0).length ≤ 20000
    · rw [if_pos h18] at hst
      have ih := F23.l0_ok hn hg hg2 hm hm2 hwl r (pre ++ [W]) c e (tk ++ (runW W (capOf most W) g (sumH W.1).toNat 0 0).map (·.2)) (hs ++ (runW W (capOf most W) g (sumH W.1).toNat 0 0).map (·.1)) (by simpa using h) hc (fun w hw => hgd w (by simp [hw])) (by simp; omega) (by simp; omega)
      unfold F23.l0 at ih
      rw [lim_in hst, ih, hrl]
      simp only [List.length_append, List.length_map, allW, List.map_append, List.append_assoc, Nat.add_assoc]
    · rw [if_neg h18] at hst
      rw [lim_out hst, if_neg (by omega)]

theorem F23.ok (ms : List S50) (most g : Int) : F23.F (ms, most, g) = some ((ctl ms most g).1.1, (ctl ms most g).1.2, (ctl ms most g).2) := by
  unfold ctl
  by_cases h : cde ms most g = 0
  · obtain ⟨k1, k2, k3, k4, k5, k6, k7⟩ := cde_zero h
    obtain ⟨b1, ⟨e, b2⟩, b3⟩ := bldz k1 k6 k7
    have e31 := (F31.l0_ok ms [] z50 z50 [] k1 InG_z k6 rfl rfl rfl k7 (by simp) (by simp)).1
    simp only [List.nil_append, List.length_nil, List.map_nil] at e31
    have e31' : F31.l0 (0, false, 0, 0, 0, ms, []) = some ((bld ms 0 z50 []).map toW) := e31
    have e0 := F23.l0_ok k1 (most := most) (g := g) (by omega) (by omega) (by omega) (by omega) b3 (bld ms 0 z50 []) [] z50 e [] [] rfl b2 b1 (by simp) (by simp)
    have e0' : F23.l0 (most, g, 0, ms, (bld ms 0 z50 []).map toW, [], []) = _ := e0
    have q0 : ((0 : Int) != 0) = false := rfl
    rw [if_pos h]
    simp only [F23.F, F30.ok, bS, h, q0, cF, F31.F, e31', e0', List.length_nil, Nat.zero_add, List.nil_append]
    unfold steps
    by_cases h6 : (allW most g (bld ms 0 z50 [])).length ≤ 20000
    · rw [if_pos h6, if_pos h6]
      have : decide (((allW most g (bld ms 0 z50 [])).map (fun x => x.1)).length + [(⟨(ms.length : Int), 0, 0⟩ : S38)].length ≤ 274877906944) = true := dT (by simp only [List.length_map, List.length_singleton]; omega)
      simp only [this, cT]
    · rw [if_neg h6, if_neg h6]
  · have q0 : (cde ms most g != 0) = true := nT h
    rw [if_neg h]
    simp only [F23.F, F30.ok, bS, q0, cT]

end Go.Proofs.Ytpingihfadihfaa.AX

/- The controller's law, plainly. No conditions. -/
namespace Go.Proofs.Ytpingihfadihfaa.AX
open Go

theorem steps_ok {ms : List S50} {most g : Int} : (ctl ms most g).1.1.length ≤ 20000 := by
  unfold ctl
  split
  · split
    · simp; assumption
    · simp
  · simp

theorem F7.ok (ms : List S50) (most g : Int) : F7.F (ms, most, g) = some ((ctl ms most g).1.1, (ctl ms most g).2) := by
  simp only [F7.F, F23.ok, bS]

theorem F9.ok (ms : List S50) (most g : Int) : F9.F (ms, most, g) = some ((ctl ms most g).1.1, (ctl ms most g).2) := by
  simp only [F9.F, F25.ok, bS]
  by_cases h : (ctl ms most g).2 = 0
  · rw [nF h, cF, h]
  · rw [nT h, cT]
    have : (ctl ms most g).1.1 = [] := by
      unfold ctl at h ⊢
      split
      · split
        · exfalso; rename_i h1 h2; rw [if_pos h1, if_pos h2] at h; exact h rfl
        · rfl
      · rfl
    rw [this]

theorem F3.law (ms : List S50) (most g : Int) (hm : ∀ n, RowOk (U := uni) ky n 0 ms) (h1 : (Lit.int .i64 most).wf = true) (h2 : (Lit.int .i64 g).wf = true) : F3.F (ms, most, g) = some true :=
  F3.law_of (fun _ => ⟨F7.ok ms most g, F9.ok ms most g, steps_ok⟩) (by have h : ms.length ≤ maxLen := (hm 0).1; unfold maxLen at h; omega)

end Go.Proofs.Ytpingihfadihfaa.AX

/- What resuming answers, program and reference. No conditions. -/
namespace Go.Proofs.Ytpingihfadihfaa.AX
open Go

def heq (a b c : Int) (x : S38) : Bool := (x.f0 == a) && ((x.f1 == b) && (x.f2 == c))
def fnd (a b c : Int) : Nat → List S38 → Option Nat
  | _, [] => none
  | i, x :: r => if heq a b c x then some i else fnd a b c (i + 1) r

def outR (tk : List S59) : Option Nat → (Int × List S59) ⊕ Unit
  | some i => .inl (0, tk.drop i)
  | none => .inr ()

theorem F21.l0_ok {a b c : Int} {tk : List S59} (ht : tk.length ≤ 20000) : ∀ (r pre : List S38), (pre ++ r).length ≤ tk.length + 1 →
    F21.l0 ((pre.length : Int), a, b, c, tk, pre ++ r) = some (outR tk (fnd a b c pre.length r))
  | [], pre, h => by
    unfold F21.l0
    rw [lim_out (y := .inr ()) (by simp (disch := omega) only [F21.l0.b, List.append_nil, dF, cF])]
    rfl
  | x :: r, pre, h => by
    simp only [List.length_append, List.length_cons] at h
    have e1 : (pre ++ x :: r).getD (Int.toNat (pre.length : Int)) z38 = x := at_app (by simp)
    have d1 : decide ((pre.length : Int) < ((pre ++ x :: r).length : Int)) = true := dT (by simp; omega)
    have d2 : decide ((0 : Int) ≤ (pre.length : Int)) = true := dT (by omega)
    have d3 : decide ((pre.length : Int) ≤ (tk.length : Int)) = true := dT (by omega)
    have d4 : decide ((tk.length : Int) ≤ (tk.length : Int)) = true := dT (by omega)
    unfold F21.l0
    cases hq : heq a b c x with
    | true =>
      have hq' := hq
      unfold heq at hq'
      have ex : List.take (Int.toNat ((tk.length : Int) - (pre.length : Int))) (List.drop (Int.toNat (pre.length : Int)) tk) = tk.drop pre.length := by
        rw [List.take_of_length_le (by simp)]; simp
      have d5 : decide (([] : List S59).length + (tk.drop pre.length).length ≤ 274877906944) = true := dT (by simp; omega)
      rw [lim_out (y := .inl (0, tk.drop pre.length)) (by simp only [F21.l0.b, e1, hq', d1, d2, d3, d4, Bool.and_self, cT, ex, d5, List.nil_append])]
      simp only [fnd, hq, if_true, outR]
    | false =>
      have hq' := hq
      unfold heq at hq'
      have w : (Go.IntKind.wrap (Go.IntKind.i64) ((pre.length : Int) + 1)) = (((pre ++ [x]).length : Nat) : Int) := by rw [w64 (by omega) (by omega)]; simp
      have ih := F21.l0_ok (a := a) (b := b) (c := c) ht r (pre ++ [x]) (by simp; omega)
      rw [List.append_assoc] at ih
      unfold F21.l0 at ih
      have hs : F21.l0.b ((pre.length : Int), a, b, c, tk, pre ++ x :: r) = some (.inl (((pre ++ [x]).length : Int), a, b, c, tk, pre ++ x :: r)) := by simp only [F21.l0.b, e1, hq', d1, d2, Bool.and_self, cT, cF, w]
      rw [lim_in hs, show pre ++ x :: r = pre ++ ([x] ++ r) from rfl, ih]
      simp [fnd, hq]

theorem F19.l0_ok {a b c : Int} {tk : List S59} (ht : tk.length ≤ 20000) : ∀ (r pre : List S38), (pre ++ r).length ≤ tk.length + 1 →
    F19.l0 (((pre ++ r).length : Int), (pre.length : Int), a, b, c, pre ++ r, tk) = some (outR tk (fnd a b c pre.length r))
  | [], pre, h => by
    unfold F19.l0
    rw [lim_out (y := .inr ()) (by simp (disch := omega) only [F19.l0.b, List.append_nil, dF, cF])]
    rfl
  | x :: r, pre, h => by
    simp only [List.length_append, List.length_cons] at h
    have e1 : (pre ++ x :: r).getD (Int.toNat (pre.length : Int)) z38 = x := at_app (by simp)
    have d1 : decide ((pre.length : Int) < ((pre ++ x :: r).length : Int)) = true := dT (by simp; omega)
    have d2 : decide ((0 : Int) ≤ (pre.length : Int)) = true := dT (by omega)
    have d3 : decide ((pre.length : Int) ≤ (tk.length : Int)) = true := dT (by omega)
    have d4 : decide ((tk.length : Int) ≤ (tk.length : Int)) = true := dT (by omega)
    unfold F19.l0
    cases hq : heq a b c x with
    | true =>
      have hq' := hq
      unfold heq at hq'
      have ex : List.take (Int.toNat ((tk.length : Int) - (pre.length : Int))) (List.drop (Int.toNat (pre.length : Int)) tk) = tk.drop pre.length := by
        rw [List.take_of_length_le (by simp)]; simp
      have d5 : decide ((tk.drop pre.length).length ≤ 274877906944) = true := dT (by simp; omega)
      rw [lim_out (y := .inl (0, tk.drop pre.length)) (by simp only [F19.l0.b, e1, hq', d1, d2, d3, d4, Bool.and_self, cT, ex, d5])]
      simp only [fnd, hq, if_true, outR]
    | false =>
      have hq' := hq
      unfold heq at hq'
      have w : (Go.IntKind.wrap (Go.IntKind.i64) ((pre.length : Int) + 1)) = (((pre ++ [x]).length : Nat) : Int) := by rw [w64 (by omega) (by omega)]; simp
      have ih := F19.l0_ok (a := a) (b := b) (c := c) ht r (pre ++ [x]) (by simp; omega)
      rw [List.append_assoc] at ih
      unfold F19.l0 at ih
      have hs : F19.l0.b (((pre ++ x :: r).length : Int), (pre.length : Int), a, b, c, pre ++ x :: r, tk) = some (.inl (((pre ++ x :: r).length : Int), ((pre ++ [x]).length : Int), a, b, c, pre ++ x :: r, tk)) := by simp only [F19.l0.b, e1, hq', d1, d2, Bool.and_self, cT, cF, w]
      rw [lim_in hs, show pre ++ x :: r = pre ++ ([x] ++ r) from rfl, ih]
      simp [fnd, hq]

theorem ctl_len {ms : List S50} {most g : Int} (h : (ctl ms most g).2 = 0) : (ctl ms most g).1.2.length = (ctl ms most g).1.1.length + 1 := by
  unfold ctl at h ⊢
  split at h
  · rename_i h1
    rw [if_pos h1]
    split at h
    · rename_i h2
      rw [if_pos h2]; simp
    · cases h
  · rename_i h1; exact absurd h h1

/-- What both answer: what is left of the steps from the hold on. -/
def rsm (ms : List S50) (most g a b c : Int) : List S59 × Int :=
  if (ctl ms most g).2 = 0 then
    match fnd a b c 0 (ctl ms most g).1.2 with
    | some i => ((ctl ms most g).1.1.drop i, 0)
    | none => ([], 5)
  else ([], (ctl ms most g).2)

theorem rsm_len {ms : List S50} {most g a b c : Int} : (rsm ms most g a b c).1.length ≤ 20000 := by
  have := steps_ok (ms := ms) (most := most) (g := g)
  unfold rsm
  split
  · split
    · simp; omega
    · simp
  · simp

theorem F21.ok (ms : List S50) (most g a b c : Int) : F21.F (ms, most, g, a, b, c) = some (rsm ms most g a b c) := by
  simp only [F21.F, F23.ok, bS]
  unfold rsm
  by_cases h : (ctl ms most g).2 = 0
  · have e := F21.l0_ok (a := a) (b := b) (c := c) (steps_ok (ms := ms) (most := most) (g := g)) (ctl ms most g).1.2 [] (by simp [ctl_len h])
    simp only [List.nil_append, List.length_nil] at e
    have e' : F21.l0 (0, a, b, c, (ctl ms most g).1.1, (ctl ms most g).1.2) = _ := e
    rw [nF h, cF, e', if_pos h]
    cases hf : fnd a b c 0 (ctl ms most g).1.2 <;> simp only [outR, bS]
  · rw [nT h, cT, if_neg h]

theorem F19.ok (ms : List S50) (most g a b c : Int) : F19.F (ms, most, g, a, b, c) = some (rsm ms most g a b c) := by
  simp only [F19.F, F25.ok, bS]
  unfold rsm
  by_cases h : (ctl ms most g).2 = 0
  · have e := F19.l0_ok (a := a) (b := b) (c := c) (steps_ok (ms := ms) (most := most) (g := g)) (ctl ms most g).1.2 [] (by simp [ctl_len h])
    simp only [List.nil_append, List.length_nil] at e
    have e' : F19.l0 (((ctl ms most g).1.2.length : Int), 0, a, b, c, (ctl ms most g).1.2, (ctl ms most g).1.1) = _ := e
    rw [nF h, cF, e', if_pos h]
    cases hf : fnd a b c 0 (ctl ms most g).1.2 <;> simp only [outR, bS]
  · rw [nT h, cT, if_neg h]

theorem F22.ok (a b c : Int) : F22.F (a, b, c) = some (a, b, c) := rfl

theorem F5.law_of {ms : List S50} {most g a b c : Int} (hl : ms.length ≤ 9223372036854775807) : F5.F (ms, most, g, a, b, c) = some true := by
  by_cases h0 : ms.length ≤ 1048576
  · have h3 := rsm_len (ms := ms) (most := most) (g := g) (a := a) (b := b) (c := c)
    have h1 := F21.ok ms most g a b c
    have h2 := F19.ok ms most g a b c
    generalize rsm ms most g a b c = R at h1 h2 h3
    obtain ⟨t, k⟩ := R
    have e6 : F6.F (ms, 1048576) = some (1048576 - (ms.length : Int)) := by simp (disch := omega) only [F6.F, w64, dF, cF]
    have d1 : decide (1048576 - (ms.length : Int) < 0) = false := dF (by omega)
    have d2 : decide (1 + 4 * (ms.length : Int) < 0) = false := dF (by omega)
    have d3 : decide (1 + 4 * (t.length : Int) < 0) = false := dF (by simp at h3; omega)
    have n1 : (k != k) = false := nF rfl
    have n2 : (1 + 4 * (t.length : Int) != 1 + 4 * (t.length : Int)) = false := nF rfl
    simp only [F5.F, e6, bS, d1, cF, F8.ok ms h0, F22.ok, h1, h2, F10.ok t (by simp at h3; omega), Bool.not_true, n1, Bool.or_self, F11.ok ms h0, F12.ok ms h0, d2, Bool.not_false, cT, F13.ok t (by simp at h3; omega), F14.ok t (by simp at h3; omega), d3, n2]
  · have e6 : F6.F (ms, 1048576) = some (-1) := by simp (disch := omega) only [F6.F, w64, dT, cT]
    have d1 : decide ((-1 : Int) < 0) = true := rfl
    simp only [F5.F, e6, bS, d1, cT]

end Go.Proofs.Ytpingihfadihfaa.AX

/- How things stand is never twice the same. No conditions. -/
namespace Go.Proofs.Ytpingihfadihfaa.AX
open Go

def lt38 (a b : S38) : Prop := a.f0 < b.f0 ∨ (a.f0 = b.f0 ∧ a.f1 < b.f1)
/-- Steps in order, from a number on and below one. -/
def Inc (lo hi : Int) (l : List S76) : Prop := l.Pairwise (fun s t => s.f0 < t.f0) ∧ ∀ s ∈ l, lo ≤ s.f0 ∧ s.f0 < hi
def flatW (acc : List Wy) : List S76 := acc.flatMap (·.1)

theorem inc_app {lo hi : Int} {l : List S76} {s : S76} (h : Inc lo hi l) (h1 : s.f0 = hi) (h2 : lo ≤ hi) : Inc lo (hi + 1) (l ++ [s]) := by
  refine ⟨?_, ?_⟩
  · rw [List.pairwise_append]
    exact ⟨h.1, by simp, fun a ha b hb => by simp at hb; subst hb; rw [h1]; exact (h.2 a ha).2⟩
  · intro t ht
    rcases List.mem_append.1 ht with ht | ht
    · have := h.2 t ht; omega
    · simp at ht; subst ht; omega
theorem inc_more {lo hi : Int} {l : List S76} (h : Inc lo hi l) : Inc lo (hi + 1) l := ⟨h.1, fun s hs => by have := h.2 s hs; omega⟩

theorem addW_flat {acc : List Wy} {s : S76} {a : S50} : flatW (addW acc s a) = flatW acc ++ [s] := by
  unfold addW flatW
  split
  · rename_i h
    obtain ⟨l, hl⟩ := last_split h.1
    generalize lastW acc = W at hl ⊢
    subst hl
    rw [set_last]
    simp
  · simp

theorem bld_inc : ∀ (r : List S50) (i : Int) (a : S50) (acc : List Wy), 0 ≤ i → Inc 0 i (flatW acc) → Inc 0 (i + r.length) (flatW (bld r i a acc))
  | [], i, a, acc, hi, h => by simpa [bld] using h
  | m :: r, i, a, acc, hi, h => by
    unfold bld
    rw [show i + ((m :: r).length : Int) = (i + 1) + (r.length : Int) by simp; omega]
    split
    · exact bld_inc r (i + 1) a acc (by omega) (inc_more h)
    · refine bld_inc r (i + 1) m _ (by omega) ?_
      rw [addW_flat]
      exact inc_app h rfl hi

theorem hld_mem : ∀ {w : List S76} {d sp : Int}, d < sumH w → 0 ≤ d → (∃ s ∈ w, (hldAt w d sp).f0 = s.f0)
  | [], d, sp, h, h0 => by simp [sumH] at h; omega
  | s :: r, d, sp, h, h0 => by
    unfold hldAt
    split
    · exact ⟨s, by simp, rfl⟩
    · obtain ⟨t, h1, h2⟩ := hld_mem (w := r) (d := d - s.f5) (sp := sp) (by simp only [sumH] at h; omega) (by omega)
      exact ⟨t, by simp [h1], h2⟩

theorem hld_lt : ∀ {w : List S76} {d e sp sp' : Int}, w.Pairwise (fun s t => s.f0 < t.f0) → 0 ≤ d → d < e → e < sumH w → lt38 (hldAt w d sp) (hldAt w e sp')
  | [], d, e, sp, sp', hp, h0, h1, h2 => by simp [sumH] at h2; omega
  | s :: r, d, e, sp, sp', hp, h0, h1, h2 => by
    simp only [sumH] at h2
    rw [List.pairwise_cons] at hp
    unfold hldAt
    by_cases hd : d < s.f5
    · rw [if_pos hd]
      by_cases he : e < s.f5
      · rw [if_pos he]; exact .inr ⟨rfl, h1⟩
      · rw [if_neg he]
        obtain ⟨t, h3, h4⟩ := hld_mem (w := r) (d := e - s.f5) (sp := sp') (by omega) (by omega)
        exact .inl (by rw [h4]; exact hp.1 t h3)
    · rw [if_neg hd, if_neg (by omega)]
      exact hld_lt hp.2 (by omega) (by omega) (by omega)

theorem run_mem {w : Wy} {cap g : Int} (hg : 1 ≤ g) (hg2 : g ≤ 1000) (hm : 1 ≤ cap) (hm2 : cap ≤ 1000) : ∀ (n : Nat) (d sp : Int), 0 ≤ d → 0 ≤ sp → sp ≤ 1000 → ∀ x ∈ runW w cap g n d sp, ∃ e sp', d ≤ e ∧ e < sumH w.1 ∧ x.1 = hldAt w.1 e sp'
  | 0, d, sp, h0, hs, hs2, x, hx => by simp [runW] at hx
  | n + 1, d, sp, h0, hs, hs2, x, hx => by
    unfold runW at hx
    by_cases h : d < sumH w.1
    · rw [if_pos h] at hx
      have nk := nxt_ok (left := sumH w.1 - d) hg hg2 hm hm2 hs hs2 (by omega)
      rcases List.mem_cons.1 hx with rfl | hx
      · exact ⟨d, sp, by omega, h, rfl⟩
      · obtain ⟨e, sp', h1, h2, h3⟩ := run_mem hg hg2 hm hm2 n _ _ (by omega) (by omega) (by omega) x hx
        exact ⟨e, sp', by omega, h2, h3⟩
    · rw [if_neg h] at hx; simp at hx

theorem run_lt {w : Wy} {cap g : Int} (hg : 1 ≤ g) (hg2 : g ≤ 1000) (hm : 1 ≤ cap) (hm2 : cap ≤ 1000) (hp : w.1.Pairwise (fun s t => s.f0 < t.f0)) : ∀ (n : Nat) (d sp : Int), 0 ≤ d → 0 ≤ sp → sp ≤ 1000 → (runW w cap g n d sp).Pairwise (fun x y => lt38 x.1 y.1)
  | 0, d, sp, h0, hs, hs2 => by simp [runW]
  | n + 1, d, sp, h0, hs, hs2 => by
    unfold runW
    by_cases h : d < sumH w.1
    · rw [if_pos h]
      have nk := nxt_ok (left := sumH w.1 - d) hg hg2 hm hm2 hs hs2 (by omega)
      rw [List.pairwise_cons]
      refine ⟨fun x hx => ?_, run_lt hg hg2 hm hm2 hp n _ _ (by omega) (by omega) (by omega)⟩
      obtain ⟨e, sp', h1, h2, h3⟩ := run_mem hg hg2 hm hm2 n _ _ (by omega) (by omega) (by omega) x hx
      rw [h3]
      exact hld_lt hp h0 (by omega) h2
    · rw [if_neg h]; simp

theorem all_lt {most g : Int} (hg : 1 ≤ g) (hg2 : g ≤ 1000) (hm : 1 ≤ most) (hm2 : most ≤ 1000) {hi : Int} : ∀ (l : List Wy) {lo : Int}, Inc lo hi (flatW l) → (allW most g l).Pairwise (fun x y => lt38 x.1 y.1) ∧ ∀ x ∈ allW most g l, ∃ s ∈ flatW l, x.1.f0 = s.f0
  | [], lo, h => by simp [allW]
  | w :: r, lo, h => by
    have hc := capOf_ok (w := w) hm hm2
    have hf : flatW (w :: r) = w.1 ++ flatW r := by simp [flatW]
    rw [hf] at h ⊢
    obtain ⟨h1, h2, h3⟩ := List.pairwise_append.1 h.1
    obtain ⟨i1, i2⟩ := all_lt hg hg2 hm hm2 (hi := hi) (lo := lo) r ⟨h2, fun s hs => h.2 s (by simp [hs])⟩
    have hm : ∀ x ∈ runW w (capOf most w) g (sumH w.1).toNat 0 0, ∃ s ∈ w.1, x.1.f0 = s.f0 := fun x hx => by
      obtain ⟨e, sp', k1, k2, k3⟩ := run_mem hg hg2 hc.1 hc.2 _ _ _ (by omega) (by omega) (by omega) x hx
      rw [k3]; exact hld_mem k2 k1
    refine ⟨?_, fun x hx => ?_⟩
    · simp only [allW, List.pairwise_append]
      refine ⟨run_lt hg hg2 hc.1 hc.2 h1 _ _ _ (by omega) (by omega) (by omega), i1, fun x hx y hy => ?_⟩
      obtain ⟨s, s1, s2⟩ := hm x hx
      obtain ⟨t, t1, t2⟩ := i2 y hy
      exact .inl (by rw [s2, t2]; exact h3 s s1 t t1)
    · simp only [allW] at hx
      rcases List.mem_append.1 hx with hx | hx
      · obtain ⟨s, s1, s2⟩ := hm x hx; exact ⟨s, by simp [s1], s2⟩
      · obtain ⟨s, s1, s2⟩ := i2 x hx; exact ⟨s, by simp [s1], s2⟩

theorem ctl_lt {ms : List S50} {most g : Int} (h : (ctl ms most g).2 = 0) : (ctl ms most g).1.2.Pairwise lt38 ∧ ∀ x ∈ (ctl ms most g).1.2, 0 ≤ x.f0 := by
  unfold ctl at h ⊢
  split at h
  · rename_i h1
    rw [if_pos h1]
    obtain ⟨k1, k2, k3, k4, k5, k6, k7⟩ := cde_zero h1
    split at h
    · rename_i h2
      rw [if_pos h2]
      have hi := bld_inc ms 0 z50 [] (by omega) ⟨by simp [flatW], by simp [flatW]⟩
      obtain ⟨i1, i2⟩ := all_lt (most := most) (g := g) k4 (by omega) k2 k3 _ hi
      have hf : ∀ x ∈ steps ms most g, 0 ≤ x.1.f0 ∧ x.1.f0 < (ms.length : Int) := fun x hx => by
        obtain ⟨s, s1, s2⟩ := i2 x hx
        have := hi.2 s s1
        omega
      refine ⟨?_, fun x hx => ?_⟩
      · simp only [List.pairwise_append, List.pairwise_map]
        refine ⟨i1, by simp, fun a ha b hb => ?_⟩
        simp only [List.mem_singleton] at hb
        subst hb
        obtain ⟨x, hx, rfl⟩ := List.mem_map.1 ha
        exact .inl (hf x hx).2
      · simp only [List.mem_append, List.mem_map, List.mem_singleton] at hx
        rcases hx with ⟨y, hy, rfl⟩ | rfl
        · exact (hf y hy).1
        · simp
    · cases h
  · rename_i h1; exact absurd h h1

/-- So a hold is found where it stands. -/
theorem fnd_at : ∀ {l : List S38} {k i : Nat}, l.Pairwise lt38 → i < l.length → fnd (l.getD i z38).f0 (l.getD i z38).f1 (l.getD i z38).f2 k l = some (k + i)
  | [], k, i, h, hi => by simp at hi
  | x :: r, k, 0, h, hi => by simp [fnd, heq]
  | x :: r, k, i + 1, h, hi => by
    rw [List.pairwise_cons] at h
    have hi' : i < r.length := by simpa using hi
    have e : (x :: r).getD (i + 1) z38 = r.getD i z38 := by simp [List.getD]
    rw [e]
    have hl : lt38 x (r.getD i z38) := h.1 _ (by rw [getD_lt hi']; exact List.getElem_mem hi')
    have hq : heq (r.getD i z38).f0 (r.getD i z38).f1 (r.getD i z38).f2 x = false := by
      unfold heq
      rcases hl with hl | ⟨_, hl⟩
      · rw [qF (by omega : ¬ x.f0 = (r.getD i z38).f0)]; rfl
      · rw [qF (by omega : ¬ x.f1 = (r.getD i z38).f1)]; simp
    unfold fnd
    rw [hq]
    simp only [Bool.false_eq_true, if_false]
    rw [fnd_at h.2 hi']
    congr 1; omega

theorem fnd_no {b c : Int} : ∀ {l : List S38} {k : Nat}, (∀ x ∈ l, 0 ≤ x.f0) → fnd (-1) b c k l = none
  | [], k, h => rfl
  | x :: r, k, h => by
    have h1 := h x (by simp)
    have hq : heq (-1) b c x = false := by unfold heq; rw [qF (by omega : ¬ x.f0 = -1)]; rfl
    unfold fnd
    rw [hq]
    simp only [Bool.false_eq_true, if_false]
    exact fnd_no fun y hy => h y (by simp [hy])

end Go.Proofs.Ytpingihfadihfaa.AX

/- The draws of rides never fail. No conditions. -/
namespace Go.Proofs.Ytpingihfadihfaa.AX
open Go

/-- A row of octets. -/
def Oct (l : List Int) : Prop := ∀ x ∈ l, 0 ≤ x ∧ x ≤ 255
theorem oct_at {l : List Int} {i : Nat} (h : Oct l) (hi : i < l.length) : 0 ≤ l.getD i 0 ∧ l.getD i 0 ≤ 255 := by
  rw [getD_lt hi]; exact h _ (List.getElem_mem hi)

theorem md {x : Int} {p : Int} (hp : 1 ≤ p) (hx : 0 ≤ x) : 0 ≤ Int.tmod x p ∧ Int.tmod x p < p := ⟨Int.tmod_nonneg p hx, Int.tmod_lt_of_pos x (by omega)⟩

def Dr (k : Nat) (a b : Int) : Prop := 0 ≤ a ∧ a ≤ k ∧ 0 ≤ b ∧ b < 2147483648

theorem F46.ok {l : List Int} (hl : l.length ≤ 1048576) (ho : Oct l) {k : Nat} (hk : k ≤ 1000000) {a b : Int} (h : Dr k a b) : ∃ x a' b', F46.F (l, a, b) = some (x, a', b') ∧ Dr (k + 1) a' b' ∧ 0 ≤ x ∧ x ≤ 255 := by
  obtain ⟨h1, h2, h3, h4⟩ := h
  have w1 : IntKind.wrap .i64 (a + 1) = a + 1 := w64 (by omega) (by omega)
  have w2 : IntKind.wrap .i64 (a + 1 - 1) = a := by rw [w64 (by omega) (by omega)]; omega
  by_cases c1 : a + 1 ≤ (l.length : Int)
  · have e1 : decide (a + 1 ≤ (l.length : Int)) = true := dT c1
    have e2 : decide (0 ≤ a) = true := dT h1
    have e3 : decide (a < (l.length : Int)) = true := dT (by omega)
    obtain ⟨o1, o2⟩ := oct_at (i := a.toNat) ho (by omega)
    refine ⟨_, _, _, by simp only [F46.F, w1, w2, e1, e2, e3, Bool.and_self, cT] <;> rfl, ⟨by omega, by omega, ?_, ?_⟩, ?_⟩
    · rw [w64 (x := l.getD a.toNat 0) (by omega) (by omega), w64 (x := b * 31) (by omega) (by omega), w64 (x := b * 31 + l.getD a.toNat 0) (by omega) (by omega), w64 (by omega) (by omega)]
      exact (md (by omega) (by omega)).1
    · rw [w64 (x := l.getD a.toNat 0) (by omega) (by omega), w64 (x := b * 31) (by omega) (by omega), w64 (x := b * 31 + l.getD a.toNat 0) (by omega) (by omega), w64 (by omega) (by omega)]
      exact (md (by omega) (by omega)).2
    · rw [w64 (by omega) (by omega)]; exact ⟨o1, o2⟩
  · have e1 : decide (a + 1 ≤ (l.length : Int)) = false := dF c1
    by_cases c2 : a + 1 > 3000
    · have e2 : decide (a + 1 > 3000) = true := dT c2
      exact ⟨_, _, _, by simp only [F46.F, w1, e1, e2, cT, cF] <;> rfl, ⟨by omega, by omega, h3, h4⟩, by omega, by omega⟩
    · have e2 : decide (a + 1 > 3000) = false := dF c2
      have w3 : IntKind.wrap .i64 (b * 1103515245) = b * 1103515245 := w64 (by omega) (by omega)
      have w4 : IntKind.wrap .i64 (b * 1103515245 + 12345) = b * 1103515245 + 12345 := w64 (by omega) (by omega)
      have m1 := md (x := b * 1103515245 + 12345) (p := 2147483648) (by omega) (by omega)
      refine ⟨_, _, _, by simp only [F46.F, w1, e1, e2, w3, w4, cF] <;> rfl, ⟨by omega, by omega, m1.1, m1.2⟩, ?_⟩
      generalize Int.tmod (b * 1103515245 + 12345) 2147483648 = x at m1 ⊢
      have t1 : 0 ≤ Int.tdiv x 65536 ∧ Int.tdiv x 65536 ≤ x := by
        rw [Int.tdiv_eq_ediv_of_nonneg m1.1]; omega
      rw [w64 (by omega) (by omega)]
      have := md (x := Int.tdiv x 65536) (p := 256) (by omega) t1.1
      omega

theorem F38.ok {l : List Int} (hl : l.length ≤ 1048576) (ho : Oct l) {k : Nat} (hk : k ≤ 100000) {a b p : Int} (h : Dr k a b) : ∃ x a' b', F38.F ((l, a, b), p) = some (x, (a', b'), ()) ∧ Dr (k + 3) a' b' ∧ 0 ≤ x ∧ (x < p ∨ x = 0) := by
  by_cases c1 : p ≤ 1
  · exact ⟨_, _, _, by simp only [F38.F, dT c1, cT] <;> rfl, ⟨h.1, by have := h.2.1; omega, h.2.2⟩, by omega, .inr rfl⟩
  · have e0 : (!(decide (p = 0))) = true := by rw [dF (by omega)]; rfl
    obtain ⟨x1, a1, b1, f1, s1, g1, g2⟩ := F46.ok hl ho (by omega) h
    by_cases c2 : p ≤ 256
    · have m := md (x := x1) (p := p) (by omega) g1
      exact ⟨_, _, _, by simp only [F38.F, dF c1, dT c2, cT, cF, f1, bS, e0] <;> rfl, ⟨s1.1, by have := s1.2.1; omega, s1.2.2⟩, m.1, .inl m.2⟩
    · obtain ⟨x2, a2, b2, f2, s2, g3, g4⟩ := F46.ok hl ho (by omega) s1
      obtain ⟨x3, a3, b3, f3, s3, g5, g6⟩ := F46.ok hl ho (by omega) s2
      have w1 : IntKind.wrap .i64 (x1 * 65536) = x1 * 65536 := w64 (by omega) (by omega)
      have w2 : IntKind.wrap .i64 (x2 * 256) = x2 * 256 := w64 (by omega) (by omega)
      have w3 : IntKind.wrap .i64 (x1 * 65536 + x2 * 256) = x1 * 65536 + x2 * 256 := w64 (by omega) (by omega)
      have w4 : IntKind.wrap .i64 (x1 * 65536 + x2 * 256 + x3) = x1 * 65536 + x2 * 256 + x3 := w64 (by omega) (by omega)
      have m := md (x := x1 * 65536 + x2 * 256 + x3) (p := p) (by omega) (by omega)
      exact ⟨_, _, _, by simp only [F38.F, dF c1, dF c2, cT, cF, f1, f2, f3, bS, e0, w1, w2, w3, w4] <;> rfl, s3, m.1, .inl m.2⟩

theorem F40.ok {l : List Int} (hl : l.length ≤ 1048576) (ho : Oct l) {k : Nat} (hk : k ≤ 100000) {a b p : Int} (h : Dr k a b) : ∃ x a' b', F40.F ((l, a, b), p) = some (x, (a', b'), ()) ∧ Dr (k + 3) a' b' := by
  obtain ⟨x, a', b', f, s, _⟩ := F38.ok hl ho hk (p := p) h
  exact ⟨_, _, _, by simp only [F40.F, f, bS] <;> rfl, s⟩

theorem F41.ok {l : List Int} (hl : l.length ≤ 1048576) (ho : Oct l) {k : Nat} (hk : k ≤ 100000) {a b : Int} (h : Dr k a b) : ∃ x a' b', F41.F (l, a, b) = some (x, a', b') ∧ Dr (k + 3) a' b' := by
  obtain ⟨x, a', b', f, s, h1, h2⟩ := F38.ok hl ho hk (p := 12) h
  have e1 : decide (0 ≤ x) = true := dT h1
  have e2 : decide (x < ((12 : Nat) : Int)) = true := dT (by omega)
  exact ⟨_, _, _, by simp only [F41.F, f, bS, List.length_cons, List.length_nil]; simp only [Nat.zero_add, Nat.reduceAdd, e1, e2, Bool.and_self, cT] <;> rfl, s⟩

theorem F39.ok {l : List Int} (hl : l.length ≤ 1048576) {a b : Int} : ∃ x, F39.F ((l, a, b), 8) = some (x, (a, b), ()) ∧ 0 ≤ x ∧ x ≤ 8 := by
  have t : 0 ≤ Int.tdiv (l.length : Int) 12 ∧ Int.tdiv (l.length : Int) 12 ≤ l.length := by rw [Int.tdiv_eq_ediv_of_nonneg (by omega)]; omega
  refine ⟨_, by simp only [F39.F] <;> rfl, ?_⟩
  rw [w64 (x := Int.tdiv (l.length : Int) 12) (by omega) (by omega), w64 (by omega) (by omega)]
  split <;> omega

end Go.Proofs.Ytpingihfadihfaa.AX

/- The draw of a ride never fails. No conditions. -/
namespace Go.Proofs.Ytpingihfadihfaa.AX
open Go

theorem Dr.more {k m : Nat} {a b : Int} (h : Dr k a b) (hk : k ≤ m) : Dr m a b := ⟨h.1, by have := h.2.1; omega, h.2.2⟩

theorem F29.t22_ok {v a b c1 c2 c3 d1 d2 d3 : Int} {c0 d0 : Bool} {r : List S50} {l : List Int} (hr : r.length ≤ 1000) :
    ∃ x, F29.t22 (v, a, b, c0, c1, c2, c3, d0, d1, d2, d3, r, l) = some (v, a, b, d0, d1, d2, d3, r ++ [x], l) := by
  have e : decide (r.length + [(⟨d0, d1, d2, d3⟩ : S50)].length ≤ 274877906944) = true := dT (by simp; omega)
  exact ⟨⟨d0, d1, d2, d3⟩, by simp only [F29.t22, e, cT]⟩

theorem F29.t16_ok {v a b c1 c2 c3 d1 d2 d3 : Int} {c0 d0 : Bool} {r : List S50} {l : List Int} (hl : l.length ≤ 1048576) (ho : Oct l) {k : Nat} (hk : k ≤ 90000) (h : Dr k a b) (hr : r.length ≤ 1000) :
    ∃ a' b' e0 e1 e2 e3 x, F29.t16 (v, a, b, c0, c1, c2, c3, d0, d1, d2, d3, r, l) = some (v, a', b', e0, e1, e2, e3, r ++ [x], l) ∧ Dr (k + 6) a' b' := by
  obtain ⟨y, a1, b1, f1, s1, g1, g2⟩ := F38.ok hl ho (by omega) (p := 60) h
  by_cases c1' : y = 0
  · obtain ⟨z, a2, b2, f2, s2⟩ := F41.ok hl ho (by omega) s1
    obtain ⟨x, hx⟩ := F29.t22_ok (v := v) (a := a2) (b := b2) (c0 := c0) (c1 := c1) (c2 := c2) (c3 := c3) (d0 := d0) (d1 := z) (d2 := d2) (d3 := d3) (r := r) (l := l) hr
    exact ⟨_, _, _, _, _, _, x, by simp only [F29.t16, f1, bS, qT c1', cT, f2, hx] <;> rfl, s2⟩
  · by_cases c2' : y = 1
    · obtain ⟨x, hx⟩ := F29.t22_ok (v := v) (a := a1) (b := b1) (c0 := c0) (c1 := c1) (c2 := c2) (c3 := c3) (d0 := d0) (d1 := d1) (d2 := Int.tmod (IntKind.wrap .i64 (d2 + 1)) 24) (d3 := Int.tmod (IntKind.wrap .i64 (d3 + 1)) 24) (r := r) (l := l) hr
      exact ⟨_, _, _, _, _, _, x, by simp only [F29.t16, f1, bS, qF c1', qT c2', cT, cF, hx] <;> rfl, s1.more (by omega)⟩
    · obtain ⟨x, hx⟩ := F29.t22_ok (v := v) (a := a1) (b := b1) (c0 := c0) (c1 := c1) (c2 := c2) (c3 := c3) (d0 := d0) (d1 := d1) (d2 := d2) (d3 := d3) (r := r) (l := l) hr
      exact ⟨_, _, _, _, _, _, x, by simp only [F29.t16, f1, bS, qF c1', qF c2', cT, cF, hx] <;> rfl, s1.more (by omega)⟩

theorem F29.b_ok {v a b c1 c2 c3 : Int} {c0 : Bool} {r : List S50} {l : List Int} (hl : l.length ≤ 1048576) (ho : Oct l) {k : Nat} (hk : k ≤ 80000) (h : Dr k a b) (hr : r.length ≤ 1000) (hv : 0 < v) (hv2 : v ≤ 1000) :
    ∃ a' b' e0 e1 e2 e3 x, F29.l0.b (v, a, b, c0, c1, c2, c3, r, l) = some (.inl (v - 1, a', b', e0, e1, e2, e3, r ++ [x], l)) ∧ Dr (k + 20) a' b' := by
  have w : IntKind.wrap .i64 (v - 1) = v - 1 := w64 (by omega) (by omega)
  have e0 : decide (v > 0) = true := dT hv
  obtain ⟨u, a1, b1, f1, s1⟩ := F40.ok hl ho (by omega) (p := 2) h
  obtain ⟨y, a2, b2, f2, s2, g1, g2⟩ := F38.ok hl ho (by omega) (p := 4) s1
  obtain ⟨z, a3, b3, f3, s3, g3, g4⟩ := F38.ok hl ho (by omega) (p := 25) s2
  by_cases c1' : y = 0
  · obtain ⟨a4, b4, e0', e1, e2, e3, x, f4, s4⟩ := F29.t16_ok (v := v) (c0 := c0) (c1 := c1) (c2 := c2) (c3 := c3) (d0 := u) (d1 := z) (d2 := c2) (d3 := c3) (r := r) hl ho (by omega) s3 hr
    exact ⟨_, _, _, _, _, _, x, by simp only [F29.l0.b, e0, cT, f1, f2, f3, bS, qT c1', f4, w] <;> rfl, s4.more (by omega)⟩
  · by_cases c2' : y = 1
    · obtain ⟨a4, b4, e0', e1, e2, e3, x, f4, s4⟩ := F29.t16_ok (v := v) (c0 := c0) (c1 := c1) (c2 := c2) (c3 := c3) (d0 := u) (d1 := c1) (d2 := z) (d3 := c3) (r := r) hl ho (by omega) s3 hr
      exact ⟨_, _, _, _, _, _, x, by simp only [F29.l0.b, e0, cT, cF, f1, f2, f3, bS, qF c1', qT c2', f4, w] <;> rfl, s4.more (by omega)⟩
    · by_cases c3' : y = 2
      · obtain ⟨z', a3, b3, f3', s3, g3, g4⟩ := F38.ok hl ho (by omega) (p := 3) s2
        generalize hX : (if (24 < IntKind.wrap .i64 (IntKind.wrap .i64 (c1 + 1) + z')) then 24 else IntKind.wrap .i64 (IntKind.wrap .i64 (c1 + 1) + z')) = X
        obtain ⟨a4, b4, e0', e1, e2, e3, x, f4, s4⟩ := F29.t16_ok (v := v) (c0 := c0) (c1 := c1) (c2 := c2) (c3 := c3) (d0 := u) (d1 := X) (d2 := c2) (d3 := c3) (r := r) hl ho (by omega) s3 hr
        exact ⟨_, _, _, _, _, _, x, by simp only [F29.l0.b, e0, cT, cF, f1, f2, f3', bS, qF c1', qF c2', qT c3', hX, f4, w] <;> rfl, s4.more (by omega)⟩
      · obtain ⟨a4, b4, e0', e1, e2, e3, x, f4, s4⟩ := F29.t16_ok (v := v) (c0 := c0) (c1 := c1) (c2 := c2) (c3 := c3) (d0 := u) (d1 := c1) (d2 := c2) (d3 := z) (r := r) hl ho (by omega) s3 hr
        exact ⟨_, _, _, _, _, _, x, by simp only [F29.l0.b, e0, cT, cF, f1, f2, f3, bS, qF c1', qF c2', qF c3', f4, w] <;> rfl, s4.more (by omega)⟩

theorem F29.l0_ok {l : List Int} (hl : l.length ≤ 1048576) (ho : Oct l) : ∀ (n : Nat) {v a b c1 c2 c3 : Int} {c0 : Bool} {r : List S50} {k : Nat}, v ≤ n → n ≤ 100 → k + 20 * n ≤ 80000 → r.length + n ≤ 1000 → Dr k a b →
    ∃ a' b' r', F29.l0 (v, a, b, c0, c1, c2, c3, r, l) = some (a', b', r', l) ∧ Dr (k + 20 * n) a' b'
  | 0, v, a, b, c1, c2, c3, c0, r, k, h1, h2, h3, h4, h5 => by
    have e0 : decide (v > 0) = false := dF (by omega)
    exact ⟨a, b, r, by unfold F29.l0; exact lim_out (by simp only [F29.l0.b, e0, cF]), h5.more (by omega)⟩
  | n + 1, v, a, b, c1, c2, c3, c0, r, k, h1, h2, h3, h4, h5 => by
    by_cases hv : v > 0
    · obtain ⟨a1, b1, e0, e1, e2, e3, x, f, s⟩ := F29.b_ok (v := v) (c0 := c0) (c1 := c1) (c2 := c2) (c3 := c3) (r := r) hl ho (by omega) h5 (by omega) hv (by omega)
      obtain ⟨a2, b2, r2, f2, s2⟩ := F29.l0_ok hl ho n (v := v - 1) (c0 := e0) (c1 := e1) (c2 := e2) (c3 := e3) (r := r ++ [x]) (by omega) (by omega) (by omega) (by simp; omega) s
      exact ⟨a2, b2, r2, by unfold F29.l0 at f2 ⊢; rw [lim_in f]; exact f2, s2.more (by omega)⟩
    · have e0 : decide (v > 0) = false := dF hv
      exact ⟨a, b, r, by unfold F29.l0; exact lim_out (by simp only [F29.l0.b, e0, cF]), h5.more (by omega)⟩

theorem F29.ok {l : List Int} (hl : l.length ≤ 1048576) (ho : Oct l) {k : Nat} (hk : k ≤ 50000) {a b : Int} (h : Dr k a b) : ∃ ms x y a' b', F29.F (l, a, b) = some ((ms, x, y), a', b') ∧ Dr (k + 300) a' b' := by
  obtain ⟨u, f1, g1, g2⟩ := F39.ok hl (a := a) (b := b)
  have w1 : IntKind.wrap .i64 (u + 4) = u + 4 := w64 (by omega) (by omega)
  obtain ⟨v, a1, b1, f2, s1, g3, g4⟩ := F38.ok hl ho (by omega) (p := u + 4) h
  obtain ⟨a2, b2, r, f3, s2⟩ := F29.l0_ok hl ho 12 (v := v) (c0 := false) (c1 := 0) (c2 := 0) (c3 := 0) (r := []) (by omega) (by omega) (by omega) (by simp) s1
  obtain ⟨x0, a3, b3, f4, s3, g5, g6⟩ := F38.ok hl ho (by omega) (p := 40) s2
  obtain ⟨x1, a4, b4, f5, s4, g7, g8⟩ := F38.ok hl ho (by omega) (p := IntKind.wrap .i64 (1 + x0)) s3
  obtain ⟨x2, a5, b5, f6, s5, g9, g10⟩ := F38.ok hl ho (by omega) (p := 30) s4
  obtain ⟨x3, a6, b6, f7, s6⟩ := F41.ok hl ho (by omega) s5
  by_cases c1 : x2 = 0
  · exact ⟨_, _, _, _, _, by simp only [F29.F, f1, bS, w1, f2, f3, f4, f5, f6, f7, qT c1, cT, F29.t34] <;> rfl, s6.more (by omega)⟩
  · by_cases c2 : x2 = 1
    · exact ⟨_, _, _, _, _, by simp only [F29.F, f1, bS, w1, f2, f3, f4, f5, f6, f7, qF c1, qT c2, cT, cF, F29.t34] <;> rfl, s6.more (by omega)⟩
    · by_cases c3 : x2 = 2
      · obtain ⟨x4, a7, b7, f8, s7, g11, g12⟩ := F38.ok hl ho (by omega) (p := 3) s5
        have e1 : decide (0 ≤ x4) = true := dT g11
        have e2 : decide (x4 < ((3 : Nat) : Int)) = true := dT (by omega)
        exact ⟨_, _, _, _, _, by simp only [F29.F, f1, bS, w1, f2, f3, f4, f5, f6, f8, qF c1, qF c2, qT c3, cT, cF, List.length_cons, List.length_nil, Nat.zero_add, Nat.reduceAdd, e1, e2, Bool.and_self, F29.t34] <;> rfl, s7.more (by omega)⟩
      · exact ⟨_, _, _, _, _, by simp only [F29.F, f1, bS, w1, f2, f3, f4, f5, f6, qF c1, qF c2, qF c3, cT, cF, F29.t34] <;> rfl, s5.more (by omega)⟩

theorem F15.l0_ok {l : List Int} (hl : l.length ≤ 1048576) (ho : Oct l) : ∀ (n : Nat) {v a b : Int} {k : Nat}, 3 - v ≤ n → n ≤ 3 → 0 ≤ v → k + 300 * n ≤ 40000 → Dr k a b → ∃ y, F15.l0 (v, a, b, l) = some y
  | 0, v, a, b, k, h1, h2, h3, h4, h5 => by
    have e0 : decide (v < 3) = false := dF (by omega)
    exact ⟨.inr (), by unfold F15.l0; exact lim_out (by simp only [F15.l0.b, e0, cF])⟩
  | n + 1, v, a, b, k, h1, h2, h3, h4, h5 => by
    by_cases hv : v < 3
    · have e0 : decide (v < 3) = true := dT hv
      have w : IntKind.wrap .i64 (v + 1) = v + 1 := w64 (by omega) (by omega)
      obtain ⟨ms, x, y, a1, b1, f, s⟩ := F29.ok hl ho (by omega) h5
      by_cases hc : cde ms x y = 0
      · exact ⟨.inl (x, y, ms), by unfold F15.l0; exact lim_out (by simp only [F15.l0.b, e0, cT, f, bS, F30.ok, qT hc])⟩
      · obtain ⟨z, f2⟩ := F15.l0_ok hl ho n (v := v + 1) (by omega) (by omega) (by omega) (by omega) s
        exact ⟨z, by unfold F15.l0 at f2 ⊢; rw [lim_in (by simp only [F15.l0.b, e0, cT, cF, f, bS, F30.ok, qF hc, w] <;> rfl)]; exact f2⟩
    · have e0 : decide (v < 3) = false := dF hv
      exact ⟨.inr (), by unfold F15.l0; exact lim_out (by simp only [F15.l0.b, e0, cF])⟩

theorem F15.ok {l : List Int} (hl : l.length ≤ 1048576) (ho : Oct l) : ∃ ms x y, F15.F l = some (ms, x, y) := by
  have m := md (x := (l.length : Int)) (p := 1000) (by omega) (by omega)
  obtain ⟨y, hy⟩ := F15.l0_ok hl ho 3 (v := 0) (a := 0) (b := Int.tmod (l.length : Int) 1000) (k := 0) (by omega) (by omega) (by omega) (by omega) ⟨by omega, by omega, m.1, by omega⟩
  cases y with
  | inl y => exact ⟨_, _, _, by simp only [F15.F, F28.F, bS, hy] <;> rfl⟩
  | inr y => exact ⟨_, _, _, by simp only [F15.F, F28.F, bS, hy] <;> rfl⟩

end Go.Proofs.Ytpingihfadihfaa.AX

/- The law of pausing and resuming, plainly. No conditions. -/
namespace Go.Proofs.Ytpingihfadihfaa.AX
open Go

theorem F16.ok {l : List Int} (hl : l.length ≤ 1048576) (ho : Oct l) {p : Int} (hp : 1 ≤ p) : ∃ x, F16.F (l, 0, p) = some x ∧ 0 ≤ x ∧ x < p := by
  by_cases c1 : p ≤ 1
  · exact ⟨0, by simp only [F16.F, dT c1, cT], by omega, by omega⟩
  · have e0 : (!(decide (p = 0))) = true := by rw [dF (by omega)]; rfl
    by_cases c2 : (l.length : Int) = 0
    · have w : IntKind.wrap .i64 (0 * 7) = 0 := w64 (by omega) (by omega)
      have m := md (x := 0) (p := p) hp (by omega)
      exact ⟨_, by simp only [F16.F, dF c1, cF, qT c2, cT, e0, w] <;> rfl, m.1, m.2⟩
    · have e1 : (!(decide ((l.length : Int) = 0))) = true := by rw [dF c2]; rfl
      have m0 : Int.tmod 0 (l.length : Int) = 0 := Int.zero_tmod _
      have d0 : Int.tdiv 0 (l.length : Int) = 0 := Int.zero_tdiv _
      have w1 : IntKind.wrap .i64 ((0 : Int) + 1) = 1 := w64 (by omega) (by omega)
      have m1 := md (x := 1) (p := (l.length : Int)) (by omega) (by omega)
      have e2 : decide ((0 : Int) < (l.length : Int)) = true := dT (by omega)
      have e3 : decide (0 ≤ Int.tmod 1 (l.length : Int)) = true := dT m1.1
      have e4 : decide (Int.tmod 1 (l.length : Int) < (l.length : Int)) = true := dT m1.2
      have z0 : decide ((0 : Int) ≤ 0) = true := rfl
      obtain ⟨o1, o2⟩ := oct_at (i := Int.toNat 0) ho (by simp; omega)
      obtain ⟨o3, o4⟩ := oct_at (i := (Int.tmod 1 (l.length : Int)).toNat) ho (by omega)
      have w2 : IntKind.wrap .i64 (l.getD (Int.toNat 0) 0) = l.getD (Int.toNat 0) 0 := w64 (by omega) (by omega)
      have w3 : IntKind.wrap .i64 (l.getD (Int.tmod 1 (l.length : Int)).toNat 0) = l.getD (Int.tmod 1 (l.length : Int)).toNat 0 := w64 (by omega) (by omega)
      generalize hx : l.getD (Int.toNat 0) 0 = x at w2 o1 o2
      generalize hy : l.getD (Int.tmod 1 (l.length : Int)).toNat 0 = y at w3 o3 o4
      have w4 : IntKind.wrap .i64 (x * 31) = x * 31 := w64 (by omega) (by omega)
      have w5 : IntKind.wrap .i64 (x * 31 + y) = x * 31 + y := w64 (by omega) (by omega)
      have w6 : IntKind.wrap .i64 ((x * 31 + y) + 0) = x * 31 + y := by rw [w64 (by omega) (by omega)]; omega
      have w7 : IntKind.wrap .i64 (0 : Int) = 0 := w64 (by omega) (by omega)
      have m := md (x := x * 31 + y) (p := p) hp (by omega)
      exact ⟨_, by simp only [F16.F, dF c1, cF, qF c2, cT, e0, e1, e2, e3, e4, z0, m0, d0, Bool.and_self, hx, hy, w1, w2, w3, w4, w5, w6, w7] <;> rfl, m.1, m.2⟩

theorem F20.ok (p : List S59) (h : p.length ≤ 1048576) : F20.F (p, p) = some true := by
  have := lim_run (f := F20.l0.b) (fun i => ((i : Int), p, p)) p.length (y := .inr ()) (fun i hi => by
    simp (disch := omega) only [F20.l0.b, dT, dF, w64, qT, Bool.and_self, cT, cF, bS, Bool.not_true]; rfl)
    (by simp (disch := omega) only [F20.l0.b, dT, dF, cF])
  simp (disch := omega) only [F20.F, nF, cF, dT]
  exact congrArg (fun q : Option (Bool ⊕ Unit) => q.bind fun q => match q with | .inl y => some y | .inr y => some true) this

section
variable {ms : List S50} {most g : Int}

theorem F17.ok (h : (ctl ms most g).2 = 0) {p : Int} (h0 : 0 ≤ p) (h1 : p ≤ (ctl ms most g).1.1.length) :
    F17.F (ms, most, g, p) = some ((((ctl ms most g).1.2.getD p.toNat z38).f0, ((ctl ms most g).1.2.getD p.toNat z38).f1, ((ctl ms most g).1.2.getD p.toNat z38).f2), 0) := by
  have hl := ctl_len h
  have e1 : decide (p < 0) = false := dF (by omega)
  have e2 : decide (p > ((ctl ms most g).1.1.length : Int)) = false := dF (by omega)
  have e3 : decide (0 ≤ p) = true := dT h0
  have e4 : decide (p < ((ctl ms most g).1.2.length : Int)) = true := dT (by omega)
  simp only [F17.F, F25.ok, bS, nF h, cF, e1, e2, e3, e4, Bool.or_self, Bool.and_self, cT]

theorem F17.no (h : (ctl ms most g).2 = 0) {p : Int} (h1 : p > (ctl ms most g).1.1.length) : F17.F (ms, most, g, p) = some ((0, 0, 0), 5) := by
  have e2 : decide (p > ((ctl ms most g).1.1.length : Int)) = true := dT (by omega)
  simp only [F17.F, F25.ok, bS, nF h, cF, e2, Bool.or_true, cT]

theorem F18.ok (h : (ctl ms most g).2 = 0) {p : Int} (h0 : 0 ≤ p) (h1 : p ≤ (ctl ms most g).1.1.length) :
    F18.F (ms, most, g, p) = some ((((ctl ms most g).1.2.getD p.toNat z38).f0, ((ctl ms most g).1.2.getD p.toNat z38).f1, ((ctl ms most g).1.2.getD p.toNat z38).f2), 0) := by
  have hl := ctl_len h
  have e1 : decide (p < 0) = false := dF (by omega)
  have e2 : decide (p ≥ ((ctl ms most g).1.2.length : Int)) = false := dF (by omega)
  have e3 : decide (0 ≤ p) = true := dT h0
  have e4 : decide (p < ((ctl ms most g).1.2.length : Int)) = true := dT (by omega)
  simp only [F18.F, F23.ok, bS, nF h, cF, e1, e2, e3, e4, Bool.or_self, Bool.and_self, cT]

theorem rsm_at (h : (ctl ms most g).2 = 0) {p : Nat} (h1 : p ≤ (ctl ms most g).1.1.length) :
    rsm ms most g ((ctl ms most g).1.2.getD p z38).f0 ((ctl ms most g).1.2.getD p z38).f1 ((ctl ms most g).1.2.getD p z38).f2 = ((ctl ms most g).1.1.drop p, 0) := by
  have hl := ctl_len h
  unfold rsm
  rw [if_pos h, fnd_at (ctl_lt h).1 (by omega)]
  simp

theorem rsm_no (h : (ctl ms most g).2 = 0) {b c : Int} : rsm ms most g (-1) b c = ([], 5) := by
  unfold rsm
  rw [if_pos h, fnd_no (ctl_lt h).2]
end

theorem F4.law_of {l m : List Int} (ho : Oct l) (hm : Oct m) : F4.F (l, m) = some true := by
  by_cases c1 : (l.length : Int) > 1048576
  · simp only [F4.F, dT c1, Bool.true_or, cT]
  · by_cases c2 : (m.length : Int) > 1048576
    · simp only [F4.F, dT c2, Bool.or_true, cT]
    · obtain ⟨ms, most, g, f15⟩ := F15.ok (l := l) (by omega) ho
      by_cases hc : (ctl ms most g).2 = 0
      · have hs := steps_ok (ms := ms) (most := most) (g := g)
        have hl := ctl_len hc
        have w1 : IntKind.wrap .i64 (((ctl ms most g).1.1.length : Int) + 1) = ((ctl ms most g).1.1.length : Int) + 1 := w64 (by omega) (by omega)
        obtain ⟨a, f16, a0, a1⟩ := F16.ok (l := m) (by omega) hm (p := ((ctl ms most g).1.1.length : Int) + 1) (by omega)
        have f17 := F17.ok hc a0 (by omega)
        have f18 := F18.ok hc a0 (by omega)
        have f17' := F17.no hc (p := ((ctl ms most g).1.1.length : Int) + 1) (by omega)
        have hr := rsm_at hc (p := a.toNat) (by omega)
        have f19 := F19.ok ms most g ((ctl ms most g).1.2.getD a.toNat z38).f0 ((ctl ms most g).1.2.getD a.toNat z38).f1 ((ctl ms most g).1.2.getD a.toNat z38).f2
        have f19' := F19.ok ms most g (-1) 0 0
        rw [hr] at f19
        rw [rsm_no hc] at f19'
        have e1 : decide (0 ≤ a) = true := dT a0
        have e2 : decide (a ≤ ((ctl ms most g).1.1.length : Int)) = true := dT (by omega)
        have e3 : decide (((ctl ms most g).1.1.length : Int) ≤ ((ctl ms most g).1.1.length : Int)) = true := dT (by omega)
        have ht : List.take (Int.toNat (((ctl ms most g).1.1.length : Int) - a)) (List.drop (Int.toNat a) (ctl ms most g).1.1) = (ctl ms most g).1.1.drop a.toNat := by
          rw [List.take_of_length_le (by simp; omega)]
        have f20 := F20.ok ((ctl ms most g).1.1.drop a.toNat) (by simp; omega)
        have z0 : ((0 : Int) != 0) = false := rfl
        have z5 : ((5 : Int) == 5) = true := rfl
        simp only [F4.F, dF c1, dF c2, Bool.or_self, cF, f15, bS, F7.ok, nF hc, w1, f16, f17, f18, f17', f19, f19', z0, qT, Bool.and_self, Bool.not_true, Bool.or_false, Bool.false_or, Bool.not_false, cT, e1, e2, e3, ht, f20, z5]
      · simp only [F4.F, dF c1, dF c2, Bool.or_self, cF, f15, bS, F7.ok, nT hc, cT]

theorem oct_of {l : List Int} (h : ∀ n, RowOk (U := uni) ky n 3 l) : Oct l := fun x hx => by
  have h1 : TsOf (U := uni) (fun k l => l.length ≤ maxLen ∧ ∀ x ∈ l, ElOk (U := uni) ky 0 k x) (ky 3) (uni.enc 3 x) := (h 1).2 x hx
  have h2 : (Lit.int .u8 x).wf = true := h1.1.2
  simp [Lit.wf, IntKind.min, IntKind.max, IntKind.signed, IntKind.bits] at h2
  omega

theorem F4.law (l m : List Int) (hl : ∀ n, RowOk (U := uni) ky n 3 l) (hm : ∀ n, RowOk (U := uni) ky n 3 m) : F4.F (l, m) = some true := F4.law_of (oct_of hl) (oct_of hm)

end Go.Proofs.Ytpingihfadihfaa.AX

/- The law FnResume answers true at every input. No conditions. -/
namespace Go.Proofs.Ytpingihfadihfaa.fnResume
open Go.ChangeShapes Go.WideShapes Go.ChangeAt Go.RowKit Go.Proofs.Ytpingihfadihfaa.AX
open Go.ChangeMaps (open_string shut_string)
theorem own : ownKnob Try.prog.godebug = none := by kernel_rfl
theorem laidOut : laidOutB Try.prog = true := by kernel_rfl
set_option maxRecDepth 100000 in
theorem lifted (os : Os) (started : os.Started) (H : Type) (enc : TypeId × Value → H) :
    ReturnsInHanded {} Try.checked os 4 .any (Rows.fnResumeSpec.pre6 enc Try.prog Try.f4 Rows.fnResumeRow.domain false) (Rows.fnResumeSpec.post enc Try.prog Try.f4 false true false false) := by
  refine returnsInHanded_of_change_sized (C := Try.checked) own started (by kernel_rfl) Try.func4
    (ChangeSpec.witness6 (enc := enc) (C := Try.checked) false ⟨#[], #[.slice none 0 0, .slice none 0 0], []⟩ 8 (by kernel_rfl) (by kernel_rfl) (by kernel_rfl) (by kernel_rfl)) ?_
  intro W base args ds gs before hval0 hW hcnd hsz0 _
  have hval : ∀ (j : Nat) t v, Try.f4.params[j]? = some t → args[j]? = some v → Value.okWide Try.prog W .any base t v := hval0
  have hW' := hW
  obtain ⟨p, q, hA0, hV, rfl, hfz, hnd⟩ := hW
  have hA : DataW.TrodAll enc Try.prog W 0 (fun _ => true) true Try.f4.params.toList args.toList ds p := hA0
  rw [Try.params4] at hA hval
  obtain ⟨v0, vs0, d0, ds0, p0, q0, hargs, rfl, rfl, h0, r0⟩ := trodAll_cons hA
  obtain ⟨v1, vs1, d1, ds1, p1, q1, rfl, rfl, rfl, h1, r1⟩ := trodAll_cons r0
  obtain ⟨rfl, rfl, rfl⟩ := trodAll_nil r1
  obtain rfl : args = #[v0, v1] := by cases args; simp_all
  obtain ⟨rfl, rfl⟩ := trodVars_none hV
  have k0 := h0
  have lt0 : ∀ x ∈ p0, x.block < W.heap.size := by obtain ⟨m, hm⟩ := k0; exact DataW.trod_lt m _ _ _ hm
  obtain ⟨l0, F0, i0, o0⟩ := open_slice kindsOk (k := 3) Try.underlying34 (List.cons_ne_nil _ _) (hval 0 34 v0 rfl rfl) h0
  have k1 := h1
  have lt1 : ∀ x ∈ p1, x.block < W.heap.size := by obtain ⟨m, hm⟩ := k1; exact DataW.trod_lt m _ _ _ hm
  obtain ⟨l1, F1, i1, o1⟩ := open_slice kindsOk (k := 3) Try.underlying34 (List.cons_ne_nil _ _) (hval 1 34 v1 rfl rfl) h1
  clear hA0 hval0 hsz0
  have hcon := F4.con (l0, l1) true (F4.law l0 l1 o0 o1) [v0, v1] W [] _ ⟨[], [], F0, _, i0, ⟨[], [], F1, _, i1, ⟨rfl, rfl⟩, rfl, rfl⟩, rfl, rfl⟩ (by simp) (by simp)
  refine hcon.mono fun e W' ⟨rs, vs, G, E', hr, hR, he, hO, hfr, _, _⟩ => ?_
  obtain rfl : rs = [.val (.bool true)] := by injection hr with hr; exact hr.symm
  obtain rfl : vs = [.bool true] := by
    match vs, hR with
    | [v], ⟨_, _, ⟨h, _⟩, _, _⟩ => rw [h]
  subst he
  have bel := below_of hfr
  exact ⟨_, rfl, _, _, _, [], _, [], hW', trodAll_mk1 (shut_bool Try.underlying4 _), (trodAll_cons_mk (Below.trod laidOut (by kernel_rfl) (of_decide_eq_true (by kernel_rfl)) k0 bel lt0) (trodAll_cons_mk (Below.trod laidOut (by kernel_rfl) (of_decide_eq_true (by kernel_rfl)) k1 bel lt1) trodAll_mk0)), rfl, bel.frame _, fun h => by cases h⟩
theorem over : Rows.fnResumeRow.holds Try.pinned (OpenSpec.ofChange Rows.fnResumeSpec) :=
  OpenClaim.holds_of_wide 4 Try.f4 rfl rfl rfl rfl rfl rfl rfl ⟨rfl, rfl, rfl, rfl, rfl⟩ rfl rfl rfl rfl rfl (by kernel_rfl) Try.func4 (by kernel_rfl)
    (of_decide_eq_true (by kernel_rfl)) (by unfold Func.isWrapper; first | (rw [if_pos (by decide +kernel)]; kernel_rfl) | (rw [if_neg (by decide +kernel)]; exact ⟨rfl, rfl⟩))
    (fun os started H enc _ => lifted os started H enc)
theorem proved : Rows.FnResumeSaid := over
end Go.Proofs.Ytpingihfadihfaa.fnResume
namespace Go.Proofs.Ytpingihfadihfaa
theorem fnResume_holds : Rows.FnResumeSaid := fnResume.proved
end Go.Proofs.Ytpingihfadihfaa

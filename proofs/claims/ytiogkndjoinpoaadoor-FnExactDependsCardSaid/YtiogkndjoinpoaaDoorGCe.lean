/- Orders of features: the program and its reference agree. No conditions. -/
import Derived.KernelRfl
import Derived.Test.YtiogkndjoinpoaaDoorRows
import Derived.WalkKit
import Derived.ProofKit
import Derived.OpenShut
import Derived.ShutString
import Derived.ChangeOld
import Derived.Below
import Derived.SizedLaws
import Derived.Test.YtiogkndjoinpoaaDoorTie
import Derived.Test.YtiogkndjoinpoaaDoorCards
import Derived.Lib.LaidU8
import Derived.Lay
import Derived.LaidOnce
import Derived.SevenTiedAt
import Derived.Test.YtiogkndjoinpoaaDoorGCd
set_option linter.unusedVariables false
set_option linter.unusedSimpArgs false
set_option linter.unusedSectionVars false
namespace Go.Proofs.YtiogkndjoinpoaaDoor.AX
open Go

def wrG (l : List S53) (_ : Unit) (x : S53) : Unit ⊕ (S53 × ByteArray) := match wrO l x with
  | none => .inl ()
  | some w => .inr (x, w)
def rowsR (l : List S53) : List (List Int) := l.map (tgR l)

theorem wrG_all {L : List S53} : ∀ {l : List S53} {u : Unit}, goL (wrG L) l () = .inl u → ∀ x ∈ l, wrO L x = none
  | [], _, _, x, hx => by simp at hx
  | y :: l, u, h, x, hx => by
    unfold goL wrG at h
    cases hf : wrO L y with
    | some w => rw [hf] at h; cases h
    | none =>
      rw [hf] at h
      rcases List.mem_cons.1 hx with rfl | hx
      · exact hf
      · exact wrG_all h x hx

theorem map_take_succ {α β : Type} {l : List α} {f : α → β} {i : Nat} {d : α} (h : i < l.length) : (l.take i).map f ++ [f (l.getD i d)] = (l.take (i + 1)).map f := by
  rw [getD_lt h, show l.take (i + 1) = l.take i ++ [l[i]] from by simp, List.map_append]; rfl

theorem F23.l4_ok (l : List S53) (hl : l.length ≤ 5000) : F23.l4 (0, l, []) = some (Sum.elim (fun _ => .inr (l, rowsR l)) (fun q => .inl (6, [], [q.1.f0, q.2])) (goL (wrG l) l ())) := by
  exact lim_go (f := F23.l4.b) (fun i _ => ((i : Int), l, (l.take i).map (tgR l))) l z53 (wrG l) (fun _ => True) (z := fun _ => .inr (l, rowsR l)) (o := fun q => .inl (6, [], [q.1.f0, q.2])) () trivial (fun _ _ _ _ _ _ => trivial)
    (fun i a hi _ => by
      have d : decide ((i : Int) < (l.length : Int)) = true := dT (by omega)
      have d2 : decide ((0 : Int) ≤ (i : Int)) = true := dT (by omega)
      have d3 : decide ((((l.take i).map (tgR l)).length + (tgR l (l.getD i z53) :: ([] : List (List Int))).length) ≤ 274877906944) = true := dT (by simp only [List.length_map, List.length_take, List.length_cons, List.length_nil]; omega)
      have w : Go.IntKind.wrap .i64 ((i : Int) + 1) = ((i + 1 : Nat) : Int) := by rw [w64 (by omega) (by omega)]; rfl
      have e0 : ∀ s : ByteArray, (ByteArray.toList s == ByteArray.toList (ByteArray.mk (Array.mk ([] : List UInt8)))) = isE s := fun s => rfl
      have hm := map_take_succ (f := tgR l) (d := z53) hi
      unfold wrG
      cases hw : wrO l (l.getD i z53) with
      | some wd =>
        have hne := wrO_ne hw
        simp only [F23.l4.b, d, d2, Bool.and_self, cT, Int.toNat_natCast, F37.ok l hl, bS, hw, Option.getD_some, e0, hne, Bool.not_false]
      | none =>
        simp only [F23.l4.b, d, d2, Bool.and_self, cT, cF, Int.toNat_natCast, F37.ok l hl, F38.ok l hl, bS, hw, Option.getD_none, e0, isE_E0, Bool.not_true, d3, w, hm])
    (fun a _ => by
      have d : decide ((l.length : Int) < (l.length : Int)) = false := dF (by omega)
      simp only [F23.l4.b, d, cF, List.take_length]
      rfl)

theorem F26.t29_ok (l : List S53) (hl : l.length ≤ 5000) {x : S53} (hx : featB x = true) (i : Nat) (hi : i < l.length) (n : Int) (rows : List (List Int)) (hr : rows.length = l.length) (hrl : (rows.getD i []).length ≤ 5) :
    F26.t29 ((i : Int), n, (i : Int), x.f0, x.f1, x.f2, x.f3, x.f4, x.f5, x.f6, x.f7, x.f8, x.f9, x.f10, x.f11, x.f12, x.f13, x.f14, l, idxL 0 l, rows) =
    some (match wr2 l x with | some w => .inl (6, [x.f0, w]) | none => .inr (n, (i : Int), l, idxL 0 l, bif isE x.f2 then rows else rows.set i (rows.getD i [] ++ [fi l x.f2]))) := by
  have e0 : ∀ s : ByteArray, (ByteArray.toList s == ByteArray.toList (ByteArray.mk (Array.mk ([] : List UInt8)))) = isE s := fun s => rfl
  obtain ⟨hk, _⟩ := feat_kind hx
  unfold wr2
  cases he : isE x.f2 with
  | true =>
    rw [he] at hk
    simp only [F26.t29, hk, Bool.not_true, cF, cT]
  | false =>
    rw [he] at hk
    have hmh : (idxL 0 l).any (kp x.f2) = (fndO x.f2 0 l).isSome := by rw [idx_any]; exact any_fnd
    have d1 : decide ((0 : Int) ≤ (i : Int)) = true := dT (by omega)
    have d2 : decide ((i : Int) < (rows.length : Int)) = true := dT (by omega)
    cases hf : fndO x.f2 0 l with
    | none =>
      rw [hf] at hmh
      simp only [F26.t29, hk, Bool.not_false, cT, cF, mhas_T, hmh, Option.isSome_none, Bool.not_true, Bool.true_or]
    | some k =>
      rw [hf] at hmh
      have hmf : (mfT z72 (kp x.f2) (idxL 0 l)).f1 = (k : Int) := idx_find hf
      have hkl := fndO_lt hf
      have hfi : fi l x.f2 = (k : Int) := by unfold fi; rw [hf]
      have d3 : decide ((0 : Int) ≤ (k : Int)) = true := dT (by omega)
      have d4 : decide ((k : Int) < (l.length : Int)) = true := dT (by omega)
      have d5 : decide (((rows.getD i []).length + ((k : Int) :: ([] : List Int)).length) ≤ 274877906944) = true := dT (by simp only [List.length_cons, List.length_nil]; omega)
      cases hc : (((l.getD k z53).f3 == 3) || !isE (l.getD k z53).f1) with
      | true =>
        simp only [F26.t29, hk, Bool.not_false, cT, cF, mhas_T, mfind_T, hmh, hmf, Option.isSome_some, Bool.not_true, Bool.false_or, d3, d4, Bool.and_self, Bool.or_true, Int.toNat_natCast, e0, hc]
      | false =>
        simp only [F26.t29, hk, Bool.not_false, cT, cF, mhas_T, mfind_T, hmh, hmf, Option.isSome_some, Bool.not_true, Bool.false_or, d1, d2, d3, d4, d5, Bool.and_self, Bool.or_true, Int.toNat_natCast, e0, hc, decTr, hfi]

theorem F26.l4_ok (l : List S53) (hl : l.length ≤ 5000) (hall : ∀ x ∈ l, featB x = true) : F26.l4 ((l.length : Int), 0, l, idxL 0 l, List.replicate l.length []) = some (Sum.elim (fun _ => .inr (l, rowsR l)) (fun q => .inl (6, [q.1.f0, q.2])) (goL (wrG l) l ())) := by
  have hz : upTo (tgR l) [] l 0 = List.replicate l.length [] := upTo_zero
  rw [← hz]
  exact lim_go (f := F26.l4.b) (fun i _ => ((l.length : Int), (i : Int), l, idxL 0 l, upTo (tgR l) [] l i)) l z53 (wrG l) (fun _ => True) (z := fun _ => .inr (l, rowsR l)) (o := fun q => .inl (6, [q.1.f0, q.2])) () trivial (fun _ _ _ _ _ _ => trivial)
    (fun i a hi _ => by
      have hx : featB (l.getD i z53) = true := hall _ (by rw [getD_lt hi]; exact List.getElem_mem hi)
      have hset := upTo_set (c := tgR l) (z := ([] : List Int)) (l := l) (d := z53) hi
      have hlen : (upTo (tgR l) ([] : List Int) l i).length = l.length := upTo_len (by omega)
      have hget : (upTo (tgR l) ([] : List Int) l i).getD i [] = [] := by
        have hlen2 : ((l.take i).map (tgR l)).length = i := by simp; omega
        unfold upTo
        rw [List.getD, List.getElem?_append_right (by omega), hlen2, Nat.sub_self, List.getElem?_replicate, if_pos (by omega)]
        rfl
      generalize upTo (tgR l) ([] : List Int) l i = rows at hset hlen hget
      generalize hxx : l.getD i z53 = x at hx hset
      have d : decide ((i : Int) < (l.length : Int)) = true := dT (by omega)
      have d2 : decide ((0 : Int) ≤ (i : Int)) = true := dT (by omega)
      have d3 : decide ((i : Int) < (rows.length : Int)) = true := dT (by omega)
      have w : Go.IntKind.wrap .i64 ((i : Int) + 1) = ((i + 1 : Nat) : Int) := by rw [w64 (by omega) (by omega)]; rfl
      have e0 : ∀ s : ByteArray, (ByteArray.toList s == ByteArray.toList (ByteArray.mk (Array.mk ([] : List UInt8)))) = isE s := fun s => rfl
      obtain ⟨hk, hk2⟩ := feat_kind hx
      unfold wrG wrO
      cases he : isE x.f1 with
      | true =>
        have t29 := F26.t29_ok l hl hx i hi (l.length : Int) rows hlen (by rw [hget]; simp)
        have htg : (bif isE x.f2 then rows else rows.set i (rows.getD i [] ++ [fi l x.f2])) = upTo (tgR l) ([] : List Int) l (i + 1) := by
          rw [← hset, hget]
          unfold tgR
          rw [he]
          cases isE x.f2 with
          | true => rw [cT, cT, cT]; show rows = rows.set i []; conv => lhs; rw [← set_self (l := rows) (i := i) (d := []), hget]
          | false => rfl
        rw [htg] at t29
        cases hw : wr2 l x with
        | some wd =>
          rw [hw] at t29
          simp only [F26.l4.b, d, d2, Bool.and_self, cT, cF, Int.toNat_natCast, hxx, e0, he, Bool.not_true, t29, bS, hw]
        | none =>
          rw [hw] at t29
          simp only [F26.l4.b, d, d2, Bool.and_self, cT, cF, Int.toNat_natCast, hxx, e0, he, Bool.not_true, t29, bS, hw, w]
      | false =>
        have he2 := hk2 he
        have hwr2 : wr2 l x = none := by unfold wr2; rw [he2]; rfl
        have hmh : (idxL 0 l).any (kp x.f1) = (fndO x.f1 0 l).isSome := by rw [idx_any]; exact any_fnd
        cases hf : fndO x.f1 0 l with
        | none =>
          rw [hf] at hmh
          simp only [F26.l4.b, d, d2, Bool.and_self, cT, cF, Int.toNat_natCast, hxx, e0, he, Bool.not_false, mhas_T, hmh, Option.isSome_none]
        | some k =>
          rw [hf] at hmh
          have hmf : (mfT z72 (kp x.f1) (idxL 0 l)).f1 = (k : Int) := idx_find hf
          have hfi : fi l x.f1 = (k : Int) := by unfold fi; rw [hf]
          have d5 : decide ((([] : List Int).length + ((k : Int) :: ([] : List Int)).length) ≤ 274877906944) = true := dT (by simp)
          have t29 := F26.t29_ok l hl hx i hi (l.length : Int) (rows.set i [(k : Int)]) (by simpa using hlen) (by rw [getD_set (by omega)]; simp)
          rw [hwr2, he2] at t29
          have htg : rows.set i [(k : Int)] = upTo (tgR l) ([] : List Int) l (i + 1) := by
            rw [← hset]
            unfold tgR
            rw [he, he2, hfi]
            rfl
          simp only [cT] at t29
          rw [htg] at t29
          simp only [F26.l4.b, d, d2, d3, Bool.and_self, cT, cF, Int.toNat_natCast, hxx, e0, he, Bool.not_false, Bool.not_true, mhas_T, mfind_T, hmh, hmf, Option.isSome_some, hget, d5, decTr, List.nil_append, htg, t29, bS, hwr2, w])
    (fun a _ => by
      have d : decide ((l.length : Int) < (l.length : Int)) = false := dF (by omega)
      simp only [F26.l4.b, d, cF, upTo_all]
      rfl)

/-- Each leads to one at most. -/
theorem rows_fg {l : List S53} (hl : l.length ≤ 1000) (hall : ∀ x ∈ l, featB x = true) (hw : ∀ x ∈ l, wrO l x = none) : FG (rowsR l) := by
  refine ⟨by unfold rowsR; simpa using hl, fun i => ?_⟩
  have hlen : (rowsR l).length = l.length := by simp [rowsR]
  by_cases hi : i < l.length
  · have e : (rowsR l).getD i [] = tgR l l[i] := by rw [getD_lt (by omega)]; simp [rowsR]
    rw [e, hlen]
    have hx := hall l[i] (List.getElem_mem hi)
    have hwx := hw l[i] (List.getElem_mem hi)
    generalize l[i] = x at hx hwx
    obtain ⟨_, hk⟩ := feat_kind hx
    unfold wrO at hwx
    unfold tgR
    cases he : isE x.f1 with
    | true =>
      rw [he, cT] at hwx
      cases he2 : isE x.f2 with
      | true => exact .inl rfl
      | false =>
        unfold wr2 at hwx
        rw [he2, cF] at hwx
        cases hf : fndO x.f2 0 l with
        | none => rw [hf] at hwx; cases hwx
        | some k =>
          have := fndO_lt hf
          exact .inr ⟨k, by omega, by unfold fi; rw [hf]; rfl⟩
    | false =>
      rw [he, cF] at hwx
      rw [hk he]
      cases hf : fndO x.f1 0 l with
      | none => rw [hf] at hwx; cases hwx
      | some k =>
        have := fndO_lt hf
        exact .inr ⟨k, by omega, by unfold fi; rw [hf]; rfl⟩
  · left
    rw [List.getD, List.getElem?_eq_none (by omega)]; rfl

/- The circle's numbers. -/
theorem circ_in {to : List (List Int)} (hg : FG to) {s : Nat} (hs : s < to.length) {r : List Int} (h : CircOf (nx to) s r) : (∀ x ∈ r, ∃ i : Nat, i < to.length ∧ x = (i : Int)) ∧ r.length ≤ to.length + 1 := by
  rcases h with ⟨rfl, _⟩ | ⟨m, rfl, h7⟩
  · exact ⟨fun x hx => by simp at hx, by simp⟩
  · have run : ∀ k, k ≤ m → ∃ b, it (nx to) k s = some b ∧ b < to.length := fun k hk => by
      cases hi : it (nx to) k s with
      | none => have := it_none hi (m + 1) (by omega); rw [(h7.2 (by omega)).1] at this; cases this
      | some b => exact ⟨b, rfl, hg.it_lt hs hi⟩
    refine ⟨fun x hx => ?_, ?_⟩
    · unfold pth at hx
      obtain ⟨k, hk, rfl⟩ := List.mem_map.1 hx
      obtain ⟨b, e, hb⟩ := run k (by have := List.mem_range.1 hk; omega)
      exact ⟨b, hb, by rw [e]; rfl⟩
    · rw [pth_len]
      apply Classical.byContradiction
      intro hc
      obtain ⟨p, q, hp, hq, hpq⟩ := pigeon to.length (fun k => (it (nx to) k s).getD 0) (fun k hk => by
        obtain ⟨b, e, hb⟩ := run k (by omega)
        rw [e]; exact hb)
      obtain ⟨x, ex, _⟩ := run p (by omega)
      obtain ⟨y, ey, _⟩ := run q (by omega)
      rw [ex, ey] at hpq
      have hxy : x = y := hpq
      subst hxy
      have e1 : it (nx to) (m + 1 - q) x = some s := by
        have := (h7.2 (by omega)).1
        rw [show m + 1 = q + (m + 1 - q) by omega, it_add, ey] at this
        exact this
      have e2 : it (nx to) (p + (m + 1 - q)) s = some s := by rw [it_add, ex]; exact e1
      exact (h7.2 (by omega)).2 (p + (m + 1 - q)) (by omega) (by omega) e2

theorem bestF_in {to : List (List Int)} (hg : FG to) : ∀ {m s : Nat} {b : List Int}, s + m = to.length → ((∀ x ∈ b, ∃ i : Nat, i < to.length ∧ x = (i : Int)) ∧ b.length ≤ to.length + 1) → (∀ x ∈ bestF to m s b, ∃ i : Nat, i < to.length ∧ x = (i : Int)) ∧ (bestF to m s b).length ≤ to.length + 1
  | 0, s, b, _, h => h
  | m + 1, s, b, hs, h => by
    refine bestF_in hg (m := m) (s := s + 1) (b := betC to b s) (by omega) ?_
    unfold betC
    split
    · exact circ_in hg (by omega) (circL_ok hg (by omega)).2
    · exact h

/-- Names of numbers. -/
def nmL (l : List S53) (r : List Int) : List ByteArray := r.map fun i => (l.getD i.toNat z53).f0

theorem F23.l6_ok {l : List S53} {to : List (List Int)} (hg : FG to) (hlt : to.length = l.length) : ∀ (m s : Nat) (b : List Int), s + m = to.length → F23.l6 ((s : Int), l, to, b) = some (l, to, bestF to m s b)
  | 0, s, b, hs => by
    have d : decide ((s : Int) < (l.length : Int)) = false := dF (by omega)
    unfold F23.l6
    exact lim_out (by simp only [F23.l6.b, d, cF, bestF])
  | m + 1, s, b, hs => by
    have hn0 := hg.n
    have d : decide ((s : Int) < (l.length : Int)) = true := dT (by omega)
    have w : Go.IntKind.wrap .i64 ((s : Int) + 1) = ((s + 1 : Nat) : Int) := by rw [w64 (by omega) (by omega)]; rfl
    have hc := (circL_ok hg (s := s) (by omega)).1
    have hcond : ((decide (((circL to s).length : Int) > 0)) && (((b.length : Int) == 0) || (decide (((circL to s).length : Int) < (b.length : Int))))) = decide ((circL to s).length > 0 ∧ (b.length = 0 ∨ (circL to s).length < b.length)) := by
      by_cases h1 : (circL to s).length > 0
      · rw [dT (show ((circL to s).length : Int) > 0 by omega), Bool.true_and]
        by_cases h2 : b.length = 0
        · rw [qT (show (b.length : Int) = 0 by omega), Bool.true_or, dT ⟨h1, .inl h2⟩]
        · rw [qF (show ¬ (b.length : Int) = 0 by omega), Bool.false_or]
          by_cases h3 : (circL to s).length < b.length
          · rw [dT (show ((circL to s).length : Int) < (b.length : Int) by omega), dT ⟨h1, .inr h3⟩]
          · rw [dF (show ¬ ((circL to s).length : Int) < (b.length : Int) by omega), dF (fun h => h.2.elim h2 h3)]
      · rw [dF (show ¬ ((circL to s).length : Int) > 0 by omega), Bool.false_and, dF (fun h => h1 h.1)]
    simp only [bestF]
    rw [← F23.l6_ok hg hlt m (s + 1) (betC to b s) (by omega)]
    unfold F23.l6 betC
    by_cases hcc : (circL to s).length > 0 ∧ (b.length = 0 ∨ (circL to s).length < b.length)
    · rw [dT hcc] at hcond
      rw [if_pos hcc]
      exact lim_in (by simp only [F23.l6.b, d, cT, hc, bS, hcond, w])
    · rw [dF hcc] at hcond
      rw [if_neg hcc]
      exact lim_in (by simp only [F23.l6.b, d, cT, cF, hc, bS, hcond, w])

theorem F23.l8_ok {l : List S53} {to : List (List Int)} {r : List Int} (hr : ∀ x ∈ r, ∃ i : Nat, i < l.length ∧ x = (i : Int)) (hrl : r.length ≤ 5000) : F23.l8 (0, l, to, r, []) = some (to, r, nmL l r) := by
  have := lim_run (f := F23.l8.b) (fun i => ((i : Int), l, to, r, (r.take i).map fun i => (l.getD i.toNat z53).f0)) r.length (y := (to, r, nmL l r)) (fun i hi => by
    obtain ⟨j, hj, e⟩ := hr (r.getD i 0) (by rw [getD_lt hi]; exact List.getElem_mem hi)
    have d : decide ((i : Int) < (r.length : Int)) = true := dT (by omega)
    have d2 : decide ((0 : Int) ≤ (i : Int)) = true := dT (by omega)
    have d3 : decide ((0 : Int) ≤ (j : Int)) = true := dT (by omega)
    have d4 : decide ((j : Int) < (l.length : Int)) = true := dT (by omega)
    have d5 : decide ((((r.take i).map fun i => (l.getD i.toNat z53).f0).length + ((l.getD j z53).f0 :: ([] : List ByteArray)).length) ≤ 274877906944) = true := dT (by simp only [List.length_map, List.length_take, List.length_cons, List.length_nil]; omega)
    have w : Go.IntKind.wrap .i64 ((i : Int) + 1) = ((i + 1 : Nat) : Int) := by rw [w64 (by omega) (by omega)]; rfl
    have hm := map_take_succ (f := fun i : Int => (l.getD i.toNat z53).f0) (d := 0) hi
    rw [e, Int.toNat_natCast] at hm
    simp only [F23.l8.b, d, d2, d3, d4, d5, Bool.and_self, cT, Int.toNat_natCast, e, hm, w])
    (by
      have d : decide ((r.length : Int) < (r.length : Int)) = false := dF (by omega)
      simp only [F23.l8.b, d, cF, List.take_length]
      rfl)
  exact this

theorem F26.l6_ok {l : List S53} {r : List Int} (hr : ∀ x ∈ r, ∃ i : Nat, i < l.length ∧ x = (i : Int)) (hrl : r.length ≤ 5000) : F26.l6 ((r.length : Int), 0, l, r, []) = some (nmL l r) := by
  have := lim_run (f := F26.l6.b) (fun i => ((r.length : Int), (i : Int), l, r, (r.take i).map fun i => (l.getD i.toNat z53).f0)) r.length (y := nmL l r) (fun i hi => by
    obtain ⟨j, hj, e⟩ := hr (r.getD i 0) (by rw [getD_lt hi]; exact List.getElem_mem hi)
    have d : decide ((i : Int) < (r.length : Int)) = true := dT (by omega)
    have d2 : decide ((0 : Int) ≤ (i : Int)) = true := dT (by omega)
    have d3 : decide ((0 : Int) ≤ (j : Int)) = true := dT (by omega)
    have d4 : decide ((j : Int) < (l.length : Int)) = true := dT (by omega)
    have d5 : decide ((((r.take i).map fun i => (l.getD i.toNat z53).f0).length + ((l.getD j z53).f0 :: ([] : List ByteArray)).length) ≤ 274877906944) = true := dT (by simp only [List.length_map, List.length_take, List.length_cons, List.length_nil]; omega)
    have w : Go.IntKind.wrap .i64 ((i : Int) + 1) = ((i + 1 : Nat) : Int) := by rw [w64 (by omega) (by omega)]; rfl
    have hm := map_take_succ (f := fun i : Int => (l.getD i.toNat z53).f0) (d := 0) hi
    rw [e, Int.toNat_natCast] at hm
    simp only [F26.l6.b, d, d2, d3, d4, d5, Bool.and_self, cT, Int.toNat_natCast, e, hm, w])
    (by
      have d : decide ((r.length : Int) < (r.length : Int)) = false := dF (by omega)
      simp only [F26.l6.b, d, cF, List.take_length]
      rfl)
  exact this
theorem F9.l0_ok {l : List S53} {r : List Int} (hr : ∀ x ∈ r, ∃ i : Nat, i < l.length ∧ x = (i : Int)) (hrl : r.length ≤ 5000) : F9.l0 ((r.length : Int), 0, l, r, []) = some (nmL l r) := by
  have := lim_run (f := F9.l0.b) (fun i => ((r.length : Int), (i : Int), l, r, (r.take i).map fun i => (l.getD i.toNat z53).f0)) r.length (y := nmL l r) (fun i hi => by
    obtain ⟨j, hj, e⟩ := hr (r.getD i 0) (by rw [getD_lt hi]; exact List.getElem_mem hi)
    have d : decide ((i : Int) < (r.length : Int)) = true := dT (by omega)
    have d2 : decide ((0 : Int) ≤ (i : Int)) = true := dT (by omega)
    have d3 : decide ((0 : Int) ≤ (j : Int)) = true := dT (by omega)
    have d4 : decide ((j : Int) < (l.length : Int)) = true := dT (by omega)
    have d5 : decide ((((r.take i).map fun i => (l.getD i.toNat z53).f0).length + ((l.getD j z53).f0 :: ([] : List ByteArray)).length) ≤ 274877906944) = true := dT (by simp only [List.length_map, List.length_take, List.length_cons, List.length_nil]; omega)
    have w : Go.IntKind.wrap .i64 ((i : Int) + 1) = ((i + 1 : Nat) : Int) := by rw [w64 (by omega) (by omega)]; rfl
    have hm := map_take_succ (f := fun i : Int => (l.getD i.toNat z53).f0) (d := 0) hi
    rw [e, Int.toNat_natCast] at hm
    simp only [F9.l0.b, d, d2, d3, d4, d5, Bool.and_self, cT, Int.toNat_natCast, e, hm, w])
    (by
      have d : decide ((r.length : Int) < (r.length : Int)) = false := dF (by omega)
      simp only [F9.l0.b, d, cF, List.take_length]
      rfl)
  exact this
theorem F7.l0_ok {l : List S53} {r : List Int} (hr : ∀ x ∈ r, ∃ i : Nat, i < l.length ∧ x = (i : Int)) (hrl : r.length ≤ 5000) : F7.l0 (0, l, r, []) = some (nmL l r) := by
  have := lim_run (f := F7.l0.b) (fun i => ((i : Int), l, r, (r.take i).map fun i => (l.getD i.toNat z53).f0)) r.length (y := nmL l r) (fun i hi => by
    obtain ⟨j, hj, e⟩ := hr (r.getD i 0) (by rw [getD_lt hi]; exact List.getElem_mem hi)
    have d : decide ((i : Int) < (r.length : Int)) = true := dT (by omega)
    have d2 : decide ((0 : Int) ≤ (i : Int)) = true := dT (by omega)
    have d3 : decide ((0 : Int) ≤ (j : Int)) = true := dT (by omega)
    have d4 : decide ((j : Int) < (l.length : Int)) = true := dT (by omega)
    have d5 : decide ((((r.take i).map fun i => (l.getD i.toNat z53).f0).length + ((l.getD j z53).f0 :: ([] : List ByteArray)).length) ≤ 274877906944) = true := dT (by simp only [List.length_map, List.length_take, List.length_cons, List.length_nil]; omega)
    have w : Go.IntKind.wrap .i64 ((i : Int) + 1) = ((i + 1 : Nat) : Int) := by rw [w64 (by omega) (by omega)]; rfl
    have hm := map_take_succ (f := fun i : Int => (l.getD i.toNat z53).f0) (d := 0) hi
    rw [e, Int.toNat_natCast] at hm
    simp only [F7.l0.b, d, d2, d3, d4, d5, Bool.and_self, cT, Int.toNat_natCast, e, hm, w])
    (by
      have d : decide ((r.length : Int) < (r.length : Int)) = false := dF (by omega)
      simp only [F7.l0.b, d, cF, List.take_length]
      rfl)
  exact this

/-- What is wrong with features. -/
noncomputable def errR (l : List S53) : Option (Int × List ByteArray) :=
  if l.length > 4096 then some (2, []) else if l.length > 30 then some (10, []) else
  match goL badG l () with
  | .inr x => some (1, [x.f0])
  | .inl _ => match dupG [] l with
    | some x => some (7, [x.f0])
    | none => match goL (wrG l) l () with
      | .inr q => some (6, [q.1.f0, q.2])
      | .inl _ => if (bestR (rowsR l)).length = 0 then none else some (9, nmL l (bestR (rowsR l)))

theorem errR_ne {l : List S53} {e : Int × List ByteArray} (h : errR l = some e) : e.1 ≠ 0 := by
  unfold errR at h
  split at h
  · injection h with h; subst h; simp
  · split at h
    · injection h with h; subst h; simp
    · split at h
      · injection h with h; subst h; simp
      · split at h
        · injection h with h; subst h; simp
        · split at h
          · injection h with h; subst h; simp
          · split at h
            · cases h
            · injection h with h; subst h; simp

theorem errR_none {l : List S53} (h : errR l = none) : l.length ≤ 30 ∧ FG (rowsR l) ∧ (bestR (rowsR l)).length = 0 := by
  unfold errR at h
  split at h
  · cases h
  · split at h
    · cases h
    · split at h
      · cases h
      · rename_i u hb
        split at h
        · cases h
        · split at h
          · cases h
          · rename_i u' hw
            split at h
            · rename_i hz
              exact ⟨by omega, rows_fg (by omega) (badG_all hb) (wrG_all hw), hz⟩
            · cases h

theorem F23.ok (l : List S53) : F23.F l = some (match errR l with | some e => ([], e.1, e.2) | none => (rowsR l, 0, [])) := by
  unfold errR
  by_cases h1 : l.length > 4096
  · have d : decide ((l.length : Int) > 4096) = true := dT (by omega)
    rw [if_pos h1]
    simp only [F23.F, d, cT]
  · have d : decide ((l.length : Int) > 4096) = false := dF (by omega)
    rw [if_neg h1]
    by_cases h2 : l.length > 30
    · have d2 : decide ((l.length : Int) > 30) = true := dT (by omega)
      rw [if_pos h2]
      simp only [F23.F, d, d2, cT, cF]
    · have d2 : decide ((l.length : Int) > 30) = false := dF (by omega)
      rw [if_neg h2]
      have l0 := F23.l0_ok l (by omega)
      cases hb : goL badG l () with
      | inr x => rw [hb] at l0; simp only [F23.F, d, d2, cF, l0, bS, Sum.elim_inr]
      | inl u =>
        rw [hb] at l0
        have l2 := F23.l2_ok l (by omega) l.length 0 (by omega)
        rw [show ((0 : Nat) : Int) = 0 from rfl, List.take_zero, List.drop_zero] at l2
        cases hd : dupG [] l with
        | some x => rw [hd] at l2; simp only [F23.F, d, d2, cF, l0, l2, bS, Sum.elim_inl]
        | none =>
          rw [hd] at l2
          have l4 := F23.l4_ok l (by omega)
          cases hw : goL (wrG l) l () with
          | inr q => rw [hw] at l4; simp only [F23.F, d, d2, cF, l0, l2, l4, bS, Sum.elim_inl, Sum.elim_inr]
          | inl u' =>
            rw [hw] at l4
            have hg := rows_fg (by omega) (badG_all hb) (wrG_all hw)
            have hlen : (rowsR l).length = l.length := by simp [rowsR]
            have l6 := F23.l6_ok (l := l) hg hlen (rowsR l).length 0 [] (by omega)
            rw [show ((0 : Nat) : Int) = 0 from rfl, show bestF (rowsR l) (rowsR l).length 0 [] = bestR (rowsR l) from rfl] at l6
            obtain ⟨hin, hbl⟩ := bestF_in hg (m := (rowsR l).length) (s := 0) (b := []) (by omega) ⟨fun x hx => by simp at hx, by simp⟩
            rw [show bestF (rowsR l) (rowsR l).length 0 [] = bestR (rowsR l) from rfl] at hin hbl
            rw [hlen] at hin hbl
            have l8 := F23.l8_ok (to := rowsR l) hin (by omega)
            by_cases hz : (bestR (rowsR l)).length = 0
            · have d3 : decide (((bestR (rowsR l)).length : Int) > 0) = false := dF (by omega)
              have hnil : bestR (rowsR l) = [] := List.length_eq_zero_iff.1 hz
              dsimp only
              rw [if_pos hz]
              simp only [F23.F, d, d2, cF, l0, l2, l4, l6, l8, bS, Sum.elim_inl, d3]
              rw [hnil]; rfl
            · have d3 : decide (((bestR (rowsR l)).length : Int) > 0) = true := dT (by omega)
              dsimp only
              rw [if_neg hz]
              simp only [F23.F, d, d2, cF, cT, l0, l2, l4, l6, l8, bS, Sum.elim_inl, d3]

theorem F26.ok (l : List S53) : F26.F l = some (match errR l with | some e => ([], e.1, e.2) | none => (ordR (rowsR l), 0, [])) := by
  unfold errR
  by_cases h1 : l.length > 4096
  · have d : decide ((l.length : Int) > 4096) = true := dT (by omega)
    rw [if_pos h1]
    simp only [F26.F, d, cT]
  · have d : decide ((l.length : Int) > 4096) = false := dF (by omega)
    rw [if_neg h1]
    by_cases h2 : l.length > 30
    · have d2 : decide ((l.length : Int) > 30) = true := dT (by omega)
      rw [if_pos h2]
      simp only [F26.F, d, d2, cT, cF]
    · have d2 : decide ((l.length : Int) > 30) = false := dF (by omega)
      rw [if_neg h2]
      have l0 := F26.l0_ok l (by omega)
      cases hb : goL badG l () with
      | inr x => rw [hb] at l0; simp only [F26.F, d, d2, cF, l0, bS, Sum.elim_inr]
      | inl u =>
        rw [hb] at l0
        have l2 := F26.l2_ok l (by omega) l.length 0 (by omega)
        rw [show ((0 : Nat) : Int) = 0 from rfl, List.take_zero, List.drop_zero, show idxL 0 ([] : List S53) = [] from rfl] at l2
        cases hd : dupG [] l with
        | some x => rw [hd] at l2; simp only [F26.F, d, d2, cF, l0, l2, bS, Sum.elim_inl]
        | none =>
          rw [hd] at l2
          have l4 := F26.l4_ok l (by omega) (badG_all hb)
          have d0 : (((decide (0 ≤ (l.length : Int))) && (decide ((l.length : Int) ≤ (l.length : Int)))) && (decide ((l.length : Int) ≤ 274877906944))) = true := by simp; omega
          cases hw : goL (wrG l) l () with
          | inr q => rw [hw] at l4; simp only [F26.F, d, d2, d0, cF, cT, Int.toNat_natCast, l0, l2, l4, bS, Sum.elim_inl, Sum.elim_inr]
          | inl u' =>
            rw [hw] at l4
            have hg := rows_fg (by omega) (badG_all hb) (wrG_all hw)
            have hlen : (rowsR l).length = l.length := by simp [rowsR]
            have f42 := F42.ok hg
            obtain ⟨hin, hbl⟩ := bestF_in hg (m := (rowsR l).length) (s := 0) (b := []) (by omega) ⟨fun x hx => by simp at hx, by simp⟩
            rw [show bestF (rowsR l) (rowsR l).length 0 [] = bestR (rowsR l) from rfl] at hin hbl
            rw [hlen] at hin hbl
            by_cases hz : (bestR (rowsR l)).length = 0
            · rw [if_pos hz] at f42
              have l8 := F26.l8_ok hg (no_circle hg hz) l hlen.symm (rowsR l).length [] (List.replicate (rowsR l).length false) (unseen_rep _) (by simp) (by simp)
              rw [show ordF (rowsR l) (rowsR l).length [] (List.replicate (rowsR l).length false) = ordR (rowsR l) from rfl, hlen] at l8
              dsimp only
              rw [if_pos hz]
              simp only [F26.F, d, d2, d0, cF, cT, Int.toNat_natCast, l0, l2, l4, f42, l8, bS, Sum.elim_inl]
            · rw [if_neg hz] at f42
              have l6 := F26.l6_ok (l := l) hin (by omega)
              have d3 : decide (0 < ((bestR (rowsR l)).length : Int)) = true := dT (by omega)
              dsimp only
              rw [if_neg hz]
              simp only [F26.F, d, d2, d0, d3, cF, cT, Int.toNat_natCast, l0, l2, l4, f42, l6, bS, Sum.elim_inl]

theorem ord_in {to : List (List Int)} : (∀ x ∈ ordR to, ∃ i : Nat, i < to.length ∧ x = (i : Int)) ∧ (ordR to).length ≤ to.length := by
  refine ⟨ordF_lt fun x hx => by simp at hx, ?_⟩
  have := ordF_len (to := to) (m := to.length) (order := []) (done := List.replicate to.length false)
  unfold ordR
  simpa using this

/-- What is answered of features. -/
noncomputable def ansR (l : List S53) : List ByteArray × Int × List ByteArray := match errR l with
  | some e => ([], e.1, e.2)
  | none => (nmL l (ordR (rowsR l)), 0, [])

theorem F7.ok (l : List S53) : F7.F l = some (ansR l) := by
  have f23 := F23.ok l
  unfold ansR
  cases he : errR l with
  | some e =>
    rw [he] at f23
    have q : (e.1 != 0) = true := nT (errR_ne he)
    simp only [F7.F, f23, bS, q, cT]
  | none =>
    rw [he] at f23
    obtain ⟨h1, hg, hz⟩ := errR_none he
    have hlen : (rowsR l).length = l.length := by simp [rowsR]
    have q : ((0 : Int) != 0) = false := rfl
    have f24 := F24.ok hg (no_circle hg hz)
    obtain ⟨o1, o2⟩ := ord_in (to := rowsR l)
    rw [hlen] at o1 o2
    have l0 := F7.l0_ok (l := l) o1 (by omega)
    simp only [F7.F, f23, bS, q, cF, f24, l0]

theorem F9.ok (l : List S53) : F9.F l = some (ansR l) := by
  have f26 := F26.ok l
  unfold ansR
  cases he : errR l with
  | some e =>
    rw [he] at f26
    have q : (e.1 != 0) = true := nT (errR_ne he)
    simp only [F9.F, f26, bS, q, cT]
  | none =>
    rw [he] at f26
    obtain ⟨h1, hg, hz⟩ := errR_none he
    have hlen : (rowsR l).length = l.length := by simp [rowsR]
    have q : ((0 : Int) != 0) = false := rfl
    obtain ⟨o1, o2⟩ := ord_in (to := rowsR l)
    rw [hlen] at o1 o2
    have l0 := F9.l0_ok (l := l) o1 (by omega)
    simp only [F9.F, f26, bS, q, cF, l0]

end Go.Proofs.YtiogkndjoinpoaaDoor.AX

/- The function 3 of the program in the small machine. No conditions. -/
namespace Go.Proofs.YtiogkndjoinpoaaDoor.AX.F3
open Go Go.Proofs.Tryd
noncomputable def code : Code := bodyOf f3
abbrev Y : Type := Bool
def cp : Cod uni (List S45) := (cod1 (iRow 0))
def cr : Coz uni Bool := (cozR (cod1 iBool) (codD cod0))
noncomputable def es : List (Ent prog uni) := [F6.ent, F8.ent, F7.ent, F9.ent, F10.ent, F11.ent, F12.ent, F13.ent, F14.ent]
theorem get : prog.funcs[3]? = some f3 := by kernel_rfl

noncomputable def F : (List S45) → Option (Bool)
  | p0 =>
  (F6.F (p0, 1048576)).bind fun y6 =>
  cond (decide (y6 < 0)) (
   some true) (
   (F8.F p0).bind fun y8 =>
   (F7.F y8).bind fun y7 =>
   (F8.F p0).bind fun y8x2 =>
   (F9.F y8x2).bind fun y9 =>
   (F10.F (y9.1, y7.1)).bind fun y10 =>
   let x7 := ((!y10) || (y9.2.1 != y7.2.1))
   let x8 := (F10.F (y9.2.2, y7.2.2))
   cond (!x7) (
    x8.bind fun y10x2 =>
    cond (x7 || (!y10x2)) (
     some false) (
     (F8.F p0).bind fun y8x3 =>
     (F11.F (y8x2, y8x3)).bind fun y11 =>
     cond (!y11) (
      some false) (
      (F12.F (y8x2, 1)).bind fun y12 =>
      cond (!(decide (y12.1 < 0))) (
       (F10.F (y9.1, y7.1)).bind fun y10x3 =>
       let x0 := (((decide (y12.1 < 0)) || (!y10x3)) || (y9.2.1 != y7.2.1))
       cond (!x0) (
        x8.bind fun y10x4 =>
        cond (x0 || (!y10x4)) (
         some false) (
         (F13.F (y9.1, 1)).bind fun y13 =>
         (F13.F (y9.2.2, y13.1)).bind fun y13x2 =>
         (F14.F (y13.2.1, 1)).bind fun y14 =>
         cond (decide (y14 < 0)) (
          some false) (
          (F14.F (y13x2.2.1, y14)).bind fun y14x2 =>
          cond (decide (y14x2 < 0)) (
           some false) (
           cond (y14x2 != y13x2.1) (
            some false) (
            (F8.F p0).bind fun y8x4 =>
            (F9.F y8x4).bind fun y9x2 =>
            (F10.F (y9x2.1, y7.1)).bind fun y10x5 =>
            let x3 := ((!y10x5) || (y9x2.2.1 != y7.2.1))
            cond (!x3) (
             (F10.F (y9x2.2.2, y7.2.2)).bind fun y10x6 =>
             cond (x3 || (!y10x6)) (
              some false) (
              (F14.F (y13.2.1, 1)).bind fun y14x3 =>
              cond (decide (y14x3 < 0)) (
               some false) (
               (F14.F (y13x2.2.1, y14x3)).bind fun y14x4 =>
               cond (decide (y14x4 < 0)) (
                some false) (
                cond (y14x4 != y13x2.1) (
                 some false) (
                 some true))))) (
             cond (x3 || true) (
              some false) (
              (F14.F (y13.2.1, 1)).bind fun y14x3 =>
              cond (decide (y14x3 < 0)) (
               some false) (
               (F14.F (y13x2.2.1, y14x3)).bind fun y14x4 =>
               cond (decide (y14x4 < 0)) (
                some false) (
                cond (y14x4 != y13x2.1) (
                 some false) (
                 some true)))))))))) (
        cond (x0 || true) (
         some false) (
         (F13.F (y9.1, 1)).bind fun y13 =>
         (F13.F (y9.2.2, y13.1)).bind fun y13x2 =>
         (F14.F (y13.2.1, 1)).bind fun y14 =>
         cond (decide (y14 < 0)) (
          some false) (
          (F14.F (y13x2.2.1, y14)).bind fun y14x2 =>
          cond (decide (y14x2 < 0)) (
           some false) (
           cond (y14x2 != y13x2.1) (
            some false) (
            (F8.F p0).bind fun y8x4 =>
            (F9.F y8x4).bind fun y9x2 =>
            (F10.F (y9x2.1, y7.1)).bind fun y10x4 =>
            let x4 := ((!y10x4) || (y9x2.2.1 != y7.2.1))
            cond (!x4) (
             (F10.F (y9x2.2.2, y7.2.2)).bind fun y10x5 =>
             cond (x4 || (!y10x5)) (
              some false) (
              (F14.F (y13.2.1, 1)).bind fun y14x3 =>
              cond (decide (y14x3 < 0)) (
               some false) (
               (F14.F (y13x2.2.1, y14x3)).bind fun y14x4 =>
               cond (decide (y14x4 < 0)) (
                some false) (
                cond (y14x4 != y13x2.1) (
                 some false) (
                 some true))))) (
             cond (x4 || true) (
              some false) (
              (F14.F (y13.2.1, 1)).bind fun y14x3 =>
              cond (decide (y14x3 < 0)) (
               some false) (
               (F14.F (y13x2.2.1, y14x3)).bind fun y14x4 =>
               cond (decide (y14x4 < 0)) (
                some false) (
                cond (y14x4 != y13x2.1) (
                 some false) (
                 some true))))))))))) (
       let x2 := (((decide (y12.1 < 0)) || true) || (y9.2.1 != y7.2.1))
       cond (!x2) (
        x8.bind fun y10x3 =>
        cond (x2 || (!y10x3)) (
         some false) (
         (F13.F (y9.1, 1)).bind fun y13 =>
         (F13.F (y9.2.2, y13.1)).bind fun y13x2 =>
         (F14.F (y13.2.1, 1)).bind fun y14 =>
         cond (decide (y14 < 0)) (
          some false) (
          (F14.F (y13x2.2.1, y14)).bind fun y14x2 =>
          cond (decide (y14x2 < 0)) (
           some false) (
           cond (y14x2 != y13x2.1) (
            some false) (
            (F8.F p0).bind fun y8x4 =>
            (F9.F y8x4).bind fun y9x2 =>
            (F10.F (y9x2.1, y7.1)).bind fun y10x4 =>
            let x4 := ((!y10x4) || (y9x2.2.1 != y7.2.1))
            cond (!x4) (
             (F10.F (y9x2.2.2, y7.2.2)).bind fun y10x5 =>
             cond (x4 || (!y10x5)) (
              some false) (
              (F14.F (y13.2.1, 1)).bind fun y14x3 =>
              cond (decide (y14x3 < 0)) (
               some false) (
               (F14.F (y13x2.2.1, y14x3)).bind fun y14x4 =>
               cond (decide (y14x4 < 0)) (
                some false) (
                cond (y14x4 != y13x2.1) (
                 some false) (
                 some true))))) (
             cond (x4 || true) (
              some false) (
              (F14.F (y13.2.1, 1)).bind fun y14x3 =>
              cond (decide (y14x3 < 0)) (
               some false) (
               (F14.F (y13x2.2.1, y14x3)).bind fun y14x4 =>
               cond (decide (y14x4 < 0)) (
                some false) (
                cond (y14x4 != y13x2.1) (
                 some false) (
                 some true)))))))))) (
        cond (x2 || true) (
         some false) (
         (F13.F (y9.1, 1)).bind fun y13 =>
         (F13.F (y9.2.2, y13.1)).bind fun y13x2 =>
         (F14.F (y13.2.1, 1)).bind fun y14 =>
         cond (decide (y14 < 0)) (
          some false) (
          (F14.F (y13x2.2.1, y14)).bind fun y14x2 =>
          cond (decide (y14x2 < 0)) (
           some false) (
           cond (y14x2 != y13x2.1) (
            some false) (
            (F8.F p0).bind fun y8x4 =>
            (F9.F y8x4).bind fun y9x2 =>
            (F10.F (y9x2.1, y7.1)).bind fun y10x3 =>
            let x5 := ((!y10x3) || (y9x2.2.1 != y7.2.1))
            cond (!x5) (
             (F10.F (y9x2.2.2, y7.2.2)).bind fun y10x4 =>
             cond (x5 || (!y10x4)) (
              some false) (
              (F14.F (y13.2.1, 1)).bind fun y14x3 =>
              cond (decide (y14x3 < 0)) (
               some false) (
               (F14.F (y13x2.2.1, y14x3)).bind fun y14x4 =>
               cond (decide (y14x4 < 0)) (
                some false) (
                cond (y14x4 != y13x2.1) (
                 some false) (
                 some true))))) (
             cond (x5 || true) (
              some false) (
              (F14.F (y13.2.1, 1)).bind fun y14x3 =>
              cond (decide (y14x3 < 0)) (
               some false) (
               (F14.F (y13x2.2.1, y14x3)).bind fun y14x4 =>
               cond (decide (y14x4 < 0)) (
                some false) (
                cond (y14x4 != y13x2.1) (
                 some false) (
                 some true)))))))))))))) (
    cond (x7 || true) (
     some false) (
     (F8.F p0).bind fun y8x3 =>
     (F11.F (y8x2, y8x3)).bind fun y11 =>
     cond (!y11) (
      some false) (
      (F12.F (y8x2, 1)).bind fun y12 =>
      cond (!(decide (y12.1 < 0))) (
       (F10.F (y9.1, y7.1)).bind fun y10x2 =>
       let x1 := (((decide (y12.1 < 0)) || (!y10x2)) || (y9.2.1 != y7.2.1))
       cond (!x1) (
        x8.bind fun y10x3 =>
        cond (x1 || (!y10x3)) (
         some false) (
         (F13.F (y9.1, 1)).bind fun y13 =>
         (F13.F (y9.2.2, y13.1)).bind fun y13x2 =>
         (F14.F (y13.2.1, 1)).bind fun y14 =>
         cond (decide (y14 < 0)) (
          some false) (
          (F14.F (y13x2.2.1, y14)).bind fun y14x2 =>
          cond (decide (y14x2 < 0)) (
           some false) (
           cond (y14x2 != y13x2.1) (
            some false) (
            (F8.F p0).bind fun y8x4 =>
            (F9.F y8x4).bind fun y9x2 =>
            (F10.F (y9x2.1, y7.1)).bind fun y10x4 =>
            let x4 := ((!y10x4) || (y9x2.2.1 != y7.2.1))
            cond (!x4) (
             (F10.F (y9x2.2.2, y7.2.2)).bind fun y10x5 =>
             cond (x4 || (!y10x5)) (
              some false) (
              (F14.F (y13.2.1, 1)).bind fun y14x3 =>
              cond (decide (y14x3 < 0)) (
               some false) (
               (F14.F (y13x2.2.1, y14x3)).bind fun y14x4 =>
               cond (decide (y14x4 < 0)) (
                some false) (
                cond (y14x4 != y13x2.1) (
                 some false) (
                 some true))))) (
             cond (x4 || true) (
              some false) (
              (F14.F (y13.2.1, 1)).bind fun y14x3 =>
              cond (decide (y14x3 < 0)) (
               some false) (
               (F14.F (y13x2.2.1, y14x3)).bind fun y14x4 =>
               cond (decide (y14x4 < 0)) (
                some false) (
                cond (y14x4 != y13x2.1) (
                 some false) (
                 some true)))))))))) (
        cond (x1 || true) (
         some false) (
         (F13.F (y9.1, 1)).bind fun y13 =>
         (F13.F (y9.2.2, y13.1)).bind fun y13x2 =>
         (F14.F (y13.2.1, 1)).bind fun y14 =>
         cond (decide (y14 < 0)) (
          some false) (
          (F14.F (y13x2.2.1, y14)).bind fun y14x2 =>
          cond (decide (y14x2 < 0)) (
           some false) (
           cond (y14x2 != y13x2.1) (
            some false) (
            (F8.F p0).bind fun y8x4 =>
            (F9.F y8x4).bind fun y9x2 =>
            (F10.F (y9x2.1, y7.1)).bind fun y10x3 =>
            let x5 := ((!y10x3) || (y9x2.2.1 != y7.2.1))
            cond (!x5) (
             (F10.F (y9x2.2.2, y7.2.2)).bind fun y10x4 =>
             cond (x5 || (!y10x4)) (
              some false) (
              (F14.F (y13.2.1, 1)).bind fun y14x3 =>
              cond (decide (y14x3 < 0)) (
               some false) (
               (F14.F (y13x2.2.1, y14x3)).bind fun y14x4 =>
               cond (decide (y14x4 < 0)) (
                some false) (
                cond (y14x4 != y13x2.1) (
                 some false) (
                 some true))))) (
             cond (x5 || true) (
              some false) (
              (F14.F (y13.2.1, 1)).bind fun y14x3 =>
              cond (decide (y14x3 < 0)) (
               some false) (
               (F14.F (y13x2.2.1, y14x3)).bind fun y14x4 =>
               cond (decide (y14x4 < 0)) (
                some false) (
                cond (y14x4 != y13x2.1) (
                 some false) (
                 some true))))))))))) (
       let x2 := (((decide (y12.1 < 0)) || true) || (y9.2.1 != y7.2.1))
       cond (!x2) (
        x8.bind fun y10x2 =>
        cond (x2 || (!y10x2)) (
         some false) (
         (F13.F (y9.1, 1)).bind fun y13 =>
         (F13.F (y9.2.2, y13.1)).bind fun y13x2 =>
         (F14.F (y13.2.1, 1)).bind fun y14 =>
         cond (decide (y14 < 0)) (
          some false) (
          (F14.F (y13x2.2.1, y14)).bind fun y14x2 =>
          cond (decide (y14x2 < 0)) (
           some false) (
           cond (y14x2 != y13x2.1) (
            some false) (
            (F8.F p0).bind fun y8x4 =>
            (F9.F y8x4).bind fun y9x2 =>
            (F10.F (y9x2.1, y7.1)).bind fun y10x3 =>
            let x5 := ((!y10x3) || (y9x2.2.1 != y7.2.1))
            cond (!x5) (
             (F10.F (y9x2.2.2, y7.2.2)).bind fun y10x4 =>
             cond (x5 || (!y10x4)) (
              some false) (
              (F14.F (y13.2.1, 1)).bind fun y14x3 =>
              cond (decide (y14x3 < 0)) (
               some false) (
               (F14.F (y13x2.2.1, y14x3)).bind fun y14x4 =>
               cond (decide (y14x4 < 0)) (
                some false) (
                cond (y14x4 != y13x2.1) (
                 some false) (
                 some true))))) (
             cond (x5 || true) (
              some false) (
              (F14.F (y13.2.1, 1)).bind fun y14x3 =>
              cond (decide (y14x3 < 0)) (
               some false) (
               (F14.F (y13x2.2.1, y14x3)).bind fun y14x4 =>
               cond (decide (y14x4 < 0)) (
                some false) (
                cond (y14x4 != y13x2.1) (
                 some false) (
                 some true)))))))))) (
        cond (x2 || true) (
         some false) (
         (F13.F (y9.1, 1)).bind fun y13 =>
         (F13.F (y9.2.2, y13.1)).bind fun y13x2 =>
         (F14.F (y13.2.1, 1)).bind fun y14 =>
         cond (decide (y14 < 0)) (
          some false) (
          (F14.F (y13x2.2.1, y14)).bind fun y14x2 =>
          cond (decide (y14x2 < 0)) (
           some false) (
           cond (y14x2 != y13x2.1) (
            some false) (
            (F8.F p0).bind fun y8x4 =>
            (F9.F y8x4).bind fun y9x2 =>
            (F10.F (y9x2.1, y7.1)).bind fun y10x2 =>
            let x6 := ((!y10x2) || (y9x2.2.1 != y7.2.1))
            cond (!x6) (
             (F10.F (y9x2.2.2, y7.2.2)).bind fun y10x3 =>
             cond (x6 || (!y10x3)) (
              some false) (
              (F14.F (y13.2.1, 1)).bind fun y14x3 =>
              cond (decide (y14x3 < 0)) (
               some false) (
               (F14.F (y13x2.2.1, y14x3)).bind fun y14x4 =>
               cond (decide (y14x4 < 0)) (
                some false) (
                cond (y14x4 != y13x2.1) (
                 some false) (
                 some true))))) (
             cond (x6 || true) (
              some false) (
              (F14.F (y13.2.1, 1)).bind fun y14x3 =>
              cond (decide (y14x3 < 0)) (
               some false) (
               (F14.F (y13x2.2.1, y14x3)).bind fun y14x4 =>
               cond (decide (y14x4 < 0)) (
                some false) (
                cond (y14x4 != y13x2.1) (
                 some false) (
                 some true)))))))))))))))
theorem F.eq : ∀ x, F x = runF (mkE tab es 133 [] []) code [.row 0 0] [.sc] [.tmp 2] (Coz.dec cr) (cp.enc x) := fun x => by kernel_rfl
theorem F.owed : owed (mkE (R := Bool) tab es 133 [] []) code = [] := by kernel_rfl
theorem con : ∀ x y, F x = some y → Con prog 3 [.row 0 0] [.sc] (cp.enc x) (cr.enc y).1 (cr.enc y).2 :=
  func_ok (c := code) (n := 133) (pf := [.row 0 0]) (res := [.tmp 2]) tabOk uniOk mixed get (by kernel_rfl) (by kernel_rfl) (by kernel_rfl) (by decide) F.eq fun w0 M h x hx => by rw [F.owed] at hx; exact absurd hx List.not_mem_nil
noncomputable def ent : Ent prog uni := Ent.of 3 [.row 0 0] [.sc] cp cr F con fun args w => enters_of get (by kernel_rfl) rfl args w
end Go.Proofs.YtiogkndjoinpoaaDoor.AX.F3

/- What the functions of the laws of features answer. No conditions. -/
namespace Go.Proofs.YtiogkndjoinpoaaDoor.AX
open Go

def c45 (x : S45) : S53 := ⟨x.f0, x.f1, x.f2, x.f3, x.f4, x.f5, x.f6, x.f7, x.f8, x.f9, x.f10, x.f11, x.f12, x.f13, x.f14⟩
theorem F8.ok (l : List S45) (h : l.length ≤ 1048576) : F8.F l = some (l.map c45) := by
  have := lim_run (f := F8.l0.b) (fun i => ((i : Int), l, upTo c45 z53 l i)) l.length (y := l.map c45) (fun i hi => by
    have e := upTo_set (c := c45) (z := z53) (d := z45) hi
    have d1 : decide ((i : Int) < (l.length : Int)) = true := dT (by omega)
    have d2 : decide ((0 : Int) ≤ (i : Int)) = true := dT (by omega)
    have d3 : decide ((i : Int) < ((upTo c45 z53 l i).length : Int)) = true := dT (by rw [upTo_len (by omega)]; omega)
    have w : Go.IntKind.wrap .i64 ((i : Int) + 1) = ((i + 1 : Nat) : Int) := by rw [w64 (by omega) (by omega)]; rfl
    
    simp only [F8.l0.b, F25.F, F40.F, d1, d2, d3, w, Bool.and_self, cT, bS, Int.toNat_natCast]
    exact congrArg (fun q => some (Sum.inl (((i + 1 : Nat) : Int), l, q))) e)
    (by
      have d1 : decide ((l.length : Int) < (l.length : Int)) = false := dF (by omega)
      simp only [F8.l0.b, d1, cF, upTo_all])
  have d0 : (((decide (0 ≤ (l.length : Int))) && (decide ((l.length : Int) ≤ (l.length : Int)))) && (decide ((l.length : Int) ≤ 274877906944))) = true := by simp; omega
  simp only [F8.F, d0, cT, Int.toNat_natCast, ← upTo_zero (c := c45) (z := z53) (l := l)]
  exact congrArg (fun q => Option.bind q fun y => some y) this

theorem beqS (s : ByteArray) : (s.toList == s.toList) = true := by simp
theorem F43.ok (a b c d e f : Int) : F43.F ((a, b, c, d, e, f), (a, b, c, d, e, f)) = some true := by simp (disch := rfl) only [F43.F, nF, cF]
theorem F27.ok (x : S53) : F27.F ((x.f0, x.f1, x.f2, x.f3, x.f4, x.f5, x.f6, x.f7, x.f8, x.f9, x.f10, x.f11, x.f12, x.f13, x.f14), (x.f0, x.f1, x.f2, x.f3, x.f4, x.f5, x.f6, x.f7, x.f8, x.f9, x.f10, x.f11, x.f12, x.f13, x.f14)) = some true := by
  simp (disch := rfl) only [F27.F, F43.ok, beqS, nF, cF, bS, Bool.not_true]
theorem F10.ok (p : List ByteArray) (h : p.length ≤ 1048576) : F10.F (p, p) = some true := by
  have := lim_run (f := F10.l0.b) (fun i => ((i : Int), p, p)) p.length (y := .inr ()) (fun i hi => by
    have d1 : decide ((i : Int) < (p.length : Int)) = true := dT (by omega)
    have d2 : decide ((0 : Int) ≤ (i : Int)) = true := dT (by omega)
    have w : Go.IntKind.wrap .i64 ((i : Int) + 1) = ((i + 1 : Nat) : Int) := by rw [w64 (by omega) (by omega)]; rfl
    simp only [F10.l0.b, d1, d2, beqS, w, Bool.and_self, cT, cF, bS, Bool.not_true])
    (by
      have d1 : decide ((p.length : Int) < (p.length : Int)) = false := dF (by omega)
      simp only [F10.l0.b, d1, cF])
  have n0 : (((p.length : Int)) != (p.length : Int)) = false := nF rfl
  simp only [F10.F, n0, cF]
  exact congrArg (fun q : Option (Bool ⊕ Unit) => q.bind fun q => match q with | .inl y => some y | .inr y => some true) this

theorem F11.ok (p : List S53) (h : p.length ≤ 1048576) : F11.F (p, p) = some true := by
  have := lim_run (f := F11.l0.b) (fun i => ((i : Int), p, p)) p.length (y := .inr ()) (fun i hi => by
    have d1 : decide ((i : Int) < (p.length : Int)) = true := dT (by omega)
    have d2 : decide ((0 : Int) ≤ (i : Int)) = true := dT (by omega)
    have w : Go.IntKind.wrap .i64 ((i : Int) + 1) = ((i + 1 : Nat) : Int) := by rw [w64 (by omega) (by omega)]; rfl
    simp only [F11.l0.b, d1, d2, F27.ok, w, Bool.and_self, cT, cF, bS, Bool.not_true])
    (by
      have d1 : decide ((p.length : Int) < (p.length : Int)) = false := dF (by omega)
      simp only [F11.l0.b, d1, cF])
  have n0 : (((p.length : Int)) != (p.length : Int)) = false := nF rfl
  simp only [F11.F, n0, cF]
  exact congrArg (fun q : Option (Bool ⊕ Unit) => q.bind fun q => match q with | .inl y => some y | .inr y => some true) this

/- marks -/
theorem F28.l0_ok : ∀ (n : Nat) (k : Int) (t : ByteArray), 0 ≤ k → k.toNat ≤ n → k ≤ 1000000000 → t.size + k.toNat ≤ 2000000000 → ∃ t', F28.l0 (k, t) = some t' ∧ t'.size ≤ 2000000000
  | n, k, t, hk, hn, hk2, ht => by
    by_cases h0 : k > 0
    · cases n with
      | zero => omega
      | succ n =>
        have hs : (strRow (U := uni) 3 ((Go.IntKind.wrap (Go.IntKind.u8 ) (Go.IntKind.wrap (Go.IntKind.i64 ) (48 + (Int.tmod k 10)))) :: [])).size = 1 := by
          unfold strRow; rw [strOfNums_size]; rfl
        have hd : 0 ≤ Int.tdiv k 10 ∧ Int.tdiv k 10 < k := by rw [Int.tdiv_eq_ediv_of_nonneg hk]; omega
        have w : Go.IntKind.wrap .i64 (Int.tdiv k 10) = Int.tdiv k 10 := w64 (by omega) (by omega)
        obtain ⟨t', h1, h2⟩ := F28.l0_ok n (Int.tdiv k 10) (strRow (U := uni) 3 ((Go.IntKind.wrap (Go.IntKind.u8 ) (Go.IntKind.wrap (Go.IntKind.i64 ) (48 + (Int.tmod k 10)))) :: []) ++ t) hd.1 (by omega) (by omega) (by rw [ByteArray.size_append, hs]; omega)
        refine ⟨t', ?_, h2⟩
        rw [← h1]
        have d : decide (((strRow (U := uni) 3 ((Go.IntKind.wrap (Go.IntKind.u8 ) (Go.IntKind.wrap (Go.IntKind.i64 ) (48 + (Int.tmod k 10)))) :: [])).size + t.size) ≤ 274877906944) = true := dT (by rw [hs]; omega)
        unfold F28.l0
        exact lim_in (by simp only [F28.l0.b, dT h0, cT, d, w])
    · exact ⟨t, by unfold F28.l0; exact lim_out (by simp only [F28.l0.b, dF h0, cF]), by omega⟩

theorem F28.ex (k : Int) (hk : 0 ≤ k) (hk2 : k ≤ 1000000000) : ∃ t, F28.F k = some t := by
  by_cases h0 : k ≤ 0
  · exact ⟨_, by simp only [F28.F, dT h0, cT]; rfl⟩
  · have hz : (ByteArray.mk (Array.mk ([] : List UInt8))).size = 0 := rfl
    obtain ⟨t, h1, h2⟩ := F28.l0_ok k.toNat k (ByteArray.mk (Array.mk ([] : List UInt8))) hk (Nat.le_refl _) hk2 (by rw [hz]; omega)
    have d : decide (((ByteArray.size (ByteArray.mk (Array.mk (109 :: [])))) + (ByteArray.size t)) ≤ 274877906944) = true := dT (by rw [show (ByteArray.mk (Array.mk ((109 : UInt8) :: []))).size = 1 from rfl]; omega)
    exact ⟨_, by simp only [F28.F, dF h0, cF, h1, bS, d, cT]; rfl⟩
/-- A mark's text. -/
noncomputable def mT (k : Int) : ByteArray := (F28.F k).getD E0
theorem F28.ok {k : Int} (hk : 0 ≤ k) (hk2 : k ≤ 1000000000) : F28.F k = some (mT k) := by
  obtain ⟨t, h⟩ := F28.ex k hk hk2
  unfold mT
  rw [h]; rfl

noncomputable def gT (k : Int) (_ : ByteArray) : ByteArray := mT k
theorem F13.ok (l : List ByteArray) (k : Int) (h : l.length ≤ 1048576) (hk : 0 ≤ k) (hk2 : k ≤ 100000000) : F13.F (l, k) = some (k + (l.length : Int), mkL gT (fun _ => 1) k l, ()) := by
  have := lim_run (f := F13.l0.b) (fun i => (mkK (fun _ => 1) k (l.take i), (i : Int), mkAt gT (fun _ => 1) k l i)) l.length (y := (k + (l.length : Int), mkL gT (fun _ => 1) k l)) (fun i hi => by
    have e := mkAt_set (g := gT) (c := fun _ => 1) (k := k) (d := E0) hi
    have e2 : mkK (fun _ => (1 : Int)) k (l.take i) = k + i := by rw [mkK_const]; simp; omega
    have e3 : mkK (fun _ => (1 : Int)) k (l.take (i + 1)) = k + (i + 1 : Nat) := by rw [mkK_const]; simp; omega
    have hl : (mkAt gT (fun _ => 1) k l i).length = l.length := mkAt_len
    rw [e2] at e ⊢
    rw [e3]
    have hm : F28.F (k + (i : Int)) = some (gT (k + (i : Int)) (l.getD i E0)) := F28.ok (by omega) (by omega)
    have d1 : decide ((i : Int) < ((mkAt gT (fun _ => 1) k l i).length : Int)) = true := dT (by omega)
    have d2 : decide ((0 : Int) ≤ (i : Int)) = true := dT (by omega)
    have w : Go.IntKind.wrap .i64 ((i : Int) + 1) = ((i + 1 : Nat) : Int) := by rw [w64 (by omega) (by omega)]; rfl
    have w2 : Go.IntKind.wrap .i64 (k + (i : Int) + 1) = k + ((i + 1 : Nat) : Int) := by rw [w64 (by omega) (by omega)]; omega
    simp only [F13.l0.b, d1, d2, Bool.and_self, cT, hm, bS, w, w2, Int.toNat_natCast, e])
    (by
      have d1 : decide ((l.length : Int) < ((mkL gT (fun _ => 1) k l).length : Int)) = false := dF (by rw [mkL_len]; omega)
      simp only [F13.l0.b, mkAt_all, d1, cF, List.take_length, mkK_const, Int.one_mul])
  simp only [F13.F]
  exact congrArg (fun q : Option (Int × List ByteArray) => q.bind fun y => some (y.1, y.2, ())) (by simpa [mkAt_zero, mkK] using this)

theorem F14.ok (l : List ByteArray) (k : Int) (h : l.length ≤ 1048576) (hk : 0 ≤ k) (hk2 : k ≤ 100000000) : F14.F (mkL gT (fun _ => 1) k l, k) = some (k + (l.length : Int)) := by
  have := lim_run (f := F14.l0.b) (fun i => (mkK (fun _ => 1) k (l.take i), (i : Int), mkL gT (fun _ => 1) k l)) l.length (y := .inr (k + (l.length : Int))) (fun i hi => by
    have e := mkL_get (g := gT) (c := fun _ => 1) (k := k) (d := E0) hi
    have e2 : mkK (fun _ => (1 : Int)) k (l.take i) = k + i := by rw [mkK_const]; simp; omega
    have e3 : mkK (fun _ => (1 : Int)) k (l.take (i + 1)) = k + (i + 1 : Nat) := by rw [mkK_const]; simp; omega
    rw [e2] at e ⊢
    rw [e3]
    have hm : F28.F (k + (i : Int)) = some (gT (k + (i : Int)) (l.getD i E0)) := F28.ok (by omega) (by omega)
    have d1 : decide ((i : Int) < ((mkL gT (fun _ => 1) k l).length : Int)) = true := dT (by rw [mkL_len]; omega)
    have d2 : decide ((0 : Int) ≤ (i : Int)) = true := dT (by omega)
    have w : Go.IntKind.wrap .i64 ((i : Int) + 1) = ((i + 1 : Nat) : Int) := by rw [w64 (by omega) (by omega)]; rfl
    have w2 : Go.IntKind.wrap .i64 (k + (i : Int) + 1) = k + ((i + 1 : Nat) : Int) := by rw [w64 (by omega) (by omega)]; omega
    simp only [F14.l0.b, d1, d2, Bool.and_self, cT, cF, hm, bS, w, w2, Int.toNat_natCast, e, beqS, Bool.not_true])
    (by
      have d1 : decide ((l.length : Int) < ((mkL gT (fun _ => 1) k l).length : Int)) = false := dF (by rw [mkL_len]; omega)
      simp only [F14.l0.b, d1, cF, List.take_length, mkK_const, Int.one_mul])
  simp only [F14.F]
  exact congrArg (fun q : Option (Int ⊕ Int) => q.bind fun q => match q with | .inl y => some y | .inr y => some y) (by simpa [mkK] using this)

theorem F12.t32_ex (k : Int) (i : Nat) (row : List S53) (hi : i < row.length) (hl : row.length ≤ 1048576) (hk : 0 ≤ k) (hk2 : k ≤ 500000099) : ∃ r, F12.t32 (k, (i : Int), row) = some (k + 1, (i : Int), r) ∧ r.length = row.length := by
  have d1 : decide ((0 : Int) ≤ (i : Int)) = true := dT (by omega)
  have d2 : decide ((i : Int) < (row.length : Int)) = true := dT (by omega)
  have w0 : Go.IntKind.wrap .i64 (k + 1) = k + 1 := w64 (by omega) (by omega)
  exact ⟨_, by
    simp (disch := (first | omega | (simp only [List.length_set]; omega))) only [F12.t32, d1, d2, Bool.and_self, cT, Int.toNat_natCast, List.length_set, w0, bS]
    rfl, by simp (disch := (first | omega | (simp only [List.length_set]; omega))) only [List.length_set]⟩
noncomputable def F12.n32 (k : Int) (i : Nat) (row : List S53) : List S53 := ((F12.t32 (k, (i : Int), row)).getD (0, 0, [])).2.2
theorem F12.t32_eq (k : Int) (i : Nat) (row : List S53) (hi : i < row.length) (hl : row.length ≤ 1048576) (hk : 0 ≤ k) (hk2 : k ≤ 500000099) : F12.t32 (k, (i : Int), row) = some (k + 1, (i : Int), F12.n32 k i row) := by
  obtain ⟨r, h, _⟩ := F12.t32_ex k i row hi hl hk hk2
  unfold F12.n32
  rw [h]; rfl
theorem F12.n32_len (k : Int) (i : Nat) (row : List S53) (hi : i < row.length) (hl : row.length ≤ 1048576) (hk : 0 ≤ k) (hk2 : k ≤ 500000099) : (F12.n32 k i row).length = row.length := by
  obtain ⟨r, h, hr⟩ := F12.t32_ex k i row hi hl hk hk2
  unfold F12.n32
  rw [h]; exact hr
theorem F12.t29_ex (k : Int) (i : Nat) (row : List S53) (hi : i < row.length) (hl : row.length ≤ 1048576) (hk : 0 ≤ k) (hk2 : k ≤ 500000097) : ∃ r, F12.t29 (k, (i : Int), row) = some (k + 1 + 1 + 1, (i : Int), r) ∧ r.length = row.length := by
  have d1 : decide ((0 : Int) ≤ (i : Int)) = true := dT (by omega)
  have d2 : decide ((i : Int) < (row.length : Int)) = true := dT (by omega)
  have w0 : Go.IntKind.wrap .i64 (k + 1) = k + 1 := w64 (by omega) (by omega) 
  have w1 : Go.IntKind.wrap .i64 (k + 1 + 1) = k + 1 + 1 := w64 (by omega) (by omega)
  exact ⟨_, by
    simp (disch := (first | omega | (simp only [List.length_set]; omega))) only [F12.t29, d1, d2, Bool.and_self, cT, Int.toNat_natCast, List.length_set, w0, w1, bS, F12.t32_eq]
    rfl, by simp (disch := (first | omega | (simp only [List.length_set]; omega))) only [List.length_set, F12.n32_len]⟩
noncomputable def F12.n29 (k : Int) (i : Nat) (row : List S53) : List S53 := ((F12.t29 (k, (i : Int), row)).getD (0, 0, [])).2.2
theorem F12.t29_eq (k : Int) (i : Nat) (row : List S53) (hi : i < row.length) (hl : row.length ≤ 1048576) (hk : 0 ≤ k) (hk2 : k ≤ 500000097) : F12.t29 (k, (i : Int), row) = some (k + 1 + 1 + 1, (i : Int), F12.n29 k i row) := by
  obtain ⟨r, h, _⟩ := F12.t29_ex k i row hi hl hk hk2
  unfold F12.n29
  rw [h]; rfl
theorem F12.n29_len (k : Int) (i : Nat) (row : List S53) (hi : i < row.length) (hl : row.length ≤ 1048576) (hk : 0 ≤ k) (hk2 : k ≤ 500000097) : (F12.n29 k i row).length = row.length := by
  obtain ⟨r, h, hr⟩ := F12.t29_ex k i row hi hl hk hk2
  unfold F12.n29
  rw [h]; exact hr
theorem F12.t26_ex (k : Int) (i : Nat) (row : List S53) (hi : i < row.length) (hl : row.length ≤ 1048576) (hk : 0 ≤ k) (hk2 : k ≤ 500000096) : ∃ r, F12.t26 (k, (i : Int), row) = some (k + 1 + 1 + 1 + 1, (i : Int), r) ∧ r.length = row.length := by
  have d1 : decide ((0 : Int) ≤ (i : Int)) = true := dT (by omega)
  have d2 : decide ((i : Int) < (row.length : Int)) = true := dT (by omega)
  have w0 : Go.IntKind.wrap .i64 (k + 1) = k + 1 := w64 (by omega) (by omega)
  exact ⟨_, by
    simp (disch := (first | omega | (simp only [List.length_set]; omega))) only [F12.t26, d1, d2, Bool.and_self, cT, Int.toNat_natCast, List.length_set, w0, bS, F12.t29_eq]
    rfl, by simp (disch := (first | omega | (simp only [List.length_set]; omega))) only [List.length_set, F12.n29_len]⟩
noncomputable def F12.n26 (k : Int) (i : Nat) (row : List S53) : List S53 := ((F12.t26 (k, (i : Int), row)).getD (0, 0, [])).2.2
theorem F12.t26_eq (k : Int) (i : Nat) (row : List S53) (hi : i < row.length) (hl : row.length ≤ 1048576) (hk : 0 ≤ k) (hk2 : k ≤ 500000096) : F12.t26 (k, (i : Int), row) = some (k + 1 + 1 + 1 + 1, (i : Int), F12.n26 k i row) := by
  obtain ⟨r, h, _⟩ := F12.t26_ex k i row hi hl hk hk2
  unfold F12.n26
  rw [h]; rfl
theorem F12.n26_len (k : Int) (i : Nat) (row : List S53) (hi : i < row.length) (hl : row.length ≤ 1048576) (hk : 0 ≤ k) (hk2 : k ≤ 500000096) : (F12.n26 k i row).length = row.length := by
  obtain ⟨r, h, hr⟩ := F12.t26_ex k i row hi hl hk hk2
  unfold F12.n26
  rw [h]; exact hr
theorem F12.t23_ex (k : Int) (i : Nat) (row : List S53) (hi : i < row.length) (hl : row.length ≤ 1048576) (hk : 0 ≤ k) (hk2 : k ≤ 500000094) : ∃ r, F12.t23 (k, (i : Int), row) = some (k + 1 + 1 + 1 + 1 + 1 + 1, (i : Int), r) ∧ r.length = row.length := by
  have d1 : decide ((0 : Int) ≤ (i : Int)) = true := dT (by omega)
  have d2 : decide ((i : Int) < (row.length : Int)) = true := dT (by omega)
  have w0 : Go.IntKind.wrap .i64 (k + 1) = k + 1 := w64 (by omega) (by omega) 
  have w1 : Go.IntKind.wrap .i64 (k + 1 + 1) = k + 1 + 1 := w64 (by omega) (by omega)
  exact ⟨_, by
    simp (disch := (first | omega | (simp only [List.length_set]; omega))) only [F12.t23, d1, d2, Bool.and_self, cT, Int.toNat_natCast, List.length_set, w0, w1, bS, F12.t26_eq]
    rfl, by simp (disch := (first | omega | (simp only [List.length_set]; omega))) only [List.length_set, F12.n26_len]⟩
noncomputable def F12.n23 (k : Int) (i : Nat) (row : List S53) : List S53 := ((F12.t23 (k, (i : Int), row)).getD (0, 0, [])).2.2
theorem F12.t23_eq (k : Int) (i : Nat) (row : List S53) (hi : i < row.length) (hl : row.length ≤ 1048576) (hk : 0 ≤ k) (hk2 : k ≤ 500000094) : F12.t23 (k, (i : Int), row) = some (k + 1 + 1 + 1 + 1 + 1 + 1, (i : Int), F12.n23 k i row) := by
  obtain ⟨r, h, _⟩ := F12.t23_ex k i row hi hl hk hk2
  unfold F12.n23
  rw [h]; rfl
theorem F12.n23_len (k : Int) (i : Nat) (row : List S53) (hi : i < row.length) (hl : row.length ≤ 1048576) (hk : 0 ≤ k) (hk2 : k ≤ 500000094) : (F12.n23 k i row).length = row.length := by
  obtain ⟨r, h, hr⟩ := F12.t23_ex k i row hi hl hk hk2
  unfold F12.n23
  rw [h]; exact hr
theorem F12.t20_ex (k : Int) (i : Nat) (row : List S53) (hi : i < row.length) (hl : row.length ≤ 1048576) (hk : 0 ≤ k) (hk2 : k ≤ 500000093) : ∃ r, F12.t20 (k, (i : Int), row) = some (k + 1 + 1 + 1 + 1 + 1 + 1 + 1, (i : Int), r) ∧ r.length = row.length := by
  have d1 : decide ((0 : Int) ≤ (i : Int)) = true := dT (by omega)
  have d2 : decide ((i : Int) < (row.length : Int)) = true := dT (by omega)
  have w0 : Go.IntKind.wrap .i64 (k + 1) = k + 1 := w64 (by omega) (by omega)
  exact ⟨_, by
    simp (disch := (first | omega | (simp only [List.length_set]; omega))) only [F12.t20, d1, d2, Bool.and_self, cT, Int.toNat_natCast, List.length_set, w0, bS, F12.t23_eq]
    rfl, by simp (disch := (first | omega | (simp only [List.length_set]; omega))) only [List.length_set, F12.n23_len]⟩
noncomputable def F12.n20 (k : Int) (i : Nat) (row : List S53) : List S53 := ((F12.t20 (k, (i : Int), row)).getD (0, 0, [])).2.2
theorem F12.t20_eq (k : Int) (i : Nat) (row : List S53) (hi : i < row.length) (hl : row.length ≤ 1048576) (hk : 0 ≤ k) (hk2 : k ≤ 500000093) : F12.t20 (k, (i : Int), row) = some (k + 1 + 1 + 1 + 1 + 1 + 1 + 1, (i : Int), F12.n20 k i row) := by
  obtain ⟨r, h, _⟩ := F12.t20_ex k i row hi hl hk hk2
  unfold F12.n20
  rw [h]; rfl
theorem F12.n20_len (k : Int) (i : Nat) (row : List S53) (hi : i < row.length) (hl : row.length ≤ 1048576) (hk : 0 ≤ k) (hk2 : k ≤ 500000093) : (F12.n20 k i row).length = row.length := by
  obtain ⟨r, h, hr⟩ := F12.t20_ex k i row hi hl hk hk2
  unfold F12.n20
  rw [h]; exact hr
theorem F12.t17_ex (k : Int) (i : Nat) (row : List S53) (hi : i < row.length) (hl : row.length ≤ 1048576) (hk : 0 ≤ k) (hk2 : k ≤ 500000091) : ∃ r, F12.t17 (k, (i : Int), row) = some (k + 1 + 1 + 1 + 1 + 1 + 1 + 1 + 1 + 1, (i : Int), r) ∧ r.length = row.length := by
  have d1 : decide ((0 : Int) ≤ (i : Int)) = true := dT (by omega)
  have d2 : decide ((i : Int) < (row.length : Int)) = true := dT (by omega)
  have w0 : Go.IntKind.wrap .i64 (k + 1) = k + 1 := w64 (by omega) (by omega) 
  have w1 : Go.IntKind.wrap .i64 (k + 1 + 1) = k + 1 + 1 := w64 (by omega) (by omega)
  exact ⟨_, by
    simp (disch := (first | omega | (simp only [List.length_set]; omega))) only [F12.t17, d1, d2, Bool.and_self, cT, Int.toNat_natCast, List.length_set, w0, w1, bS, F12.t20_eq]
    rfl, by simp (disch := (first | omega | (simp only [List.length_set]; omega))) only [List.length_set, F12.n20_len]⟩
noncomputable def F12.n17 (k : Int) (i : Nat) (row : List S53) : List S53 := ((F12.t17 (k, (i : Int), row)).getD (0, 0, [])).2.2
theorem F12.t17_eq (k : Int) (i : Nat) (row : List S53) (hi : i < row.length) (hl : row.length ≤ 1048576) (hk : 0 ≤ k) (hk2 : k ≤ 500000091) : F12.t17 (k, (i : Int), row) = some (k + 1 + 1 + 1 + 1 + 1 + 1 + 1 + 1 + 1, (i : Int), F12.n17 k i row) := by
  obtain ⟨r, h, _⟩ := F12.t17_ex k i row hi hl hk hk2
  unfold F12.n17
  rw [h]; rfl
theorem F12.n17_len (k : Int) (i : Nat) (row : List S53) (hi : i < row.length) (hl : row.length ≤ 1048576) (hk : 0 ≤ k) (hk2 : k ≤ 500000091) : (F12.n17 k i row).length = row.length := by
  obtain ⟨r, h, hr⟩ := F12.t17_ex k i row hi hl hk hk2
  unfold F12.n17
  rw [h]; exact hr
theorem F12.t14_ex (k : Int) (i : Nat) (row : List S53) (hi : i < row.length) (hl : row.length ≤ 1048576) (hk : 0 ≤ k) (hk2 : k ≤ 500000090) : ∃ r, F12.t14 (k, (i : Int), row) = some (k + 1 + 1 + 1 + 1 + 1 + 1 + 1 + 1 + 1 + 1, (i : Int), r) ∧ r.length = row.length := by
  have d1 : decide ((0 : Int) ≤ (i : Int)) = true := dT (by omega)
  have d2 : decide ((i : Int) < (row.length : Int)) = true := dT (by omega)
  have w0 : Go.IntKind.wrap .i64 (k + 1) = k + 1 := w64 (by omega) (by omega)
  exact ⟨_, by
    simp (disch := (first | omega | (simp only [List.length_set]; omega))) only [F12.t14, d1, d2, Bool.and_self, cT, Int.toNat_natCast, List.length_set, w0, bS, F12.t17_eq]
    rfl, by simp (disch := (first | omega | (simp only [List.length_set]; omega))) only [List.length_set, F12.n17_len]⟩
noncomputable def F12.n14 (k : Int) (i : Nat) (row : List S53) : List S53 := ((F12.t14 (k, (i : Int), row)).getD (0, 0, [])).2.2
theorem F12.t14_eq (k : Int) (i : Nat) (row : List S53) (hi : i < row.length) (hl : row.length ≤ 1048576) (hk : 0 ≤ k) (hk2 : k ≤ 500000090) : F12.t14 (k, (i : Int), row) = some (k + 1 + 1 + 1 + 1 + 1 + 1 + 1 + 1 + 1 + 1, (i : Int), F12.n14 k i row) := by
  obtain ⟨r, h, _⟩ := F12.t14_ex k i row hi hl hk hk2
  unfold F12.n14
  rw [h]; rfl
theorem F12.n14_len (k : Int) (i : Nat) (row : List S53) (hi : i < row.length) (hl : row.length ≤ 1048576) (hk : 0 ≤ k) (hk2 : k ≤ 500000090) : (F12.n14 k i row).length = row.length := by
  obtain ⟨r, h, hr⟩ := F12.t14_ex k i row hi hl hk hk2
  unfold F12.n14
  rw [h]; exact hr
theorem F12.t11_ex (k : Int) (i : Nat) (row : List S53) (hi : i < row.length) (hl : row.length ≤ 1048576) (hk : 0 ≤ k) (hk2 : k ≤ 500000088) : ∃ r, F12.t11 (k, (i : Int), row) = some (k + 1 + 1 + 1 + 1 + 1 + 1 + 1 + 1 + 1 + 1 + 1 + 1, (i : Int), r) ∧ r.length = row.length := by
  have d1 : decide ((0 : Int) ≤ (i : Int)) = true := dT (by omega)
  have d2 : decide ((i : Int) < (row.length : Int)) = true := dT (by omega)
  have w0 : Go.IntKind.wrap .i64 (k + 1) = k + 1 := w64 (by omega) (by omega) 
  have w1 : Go.IntKind.wrap .i64 (k + 1 + 1) = k + 1 + 1 := w64 (by omega) (by omega)
  exact ⟨_, by
    simp (disch := (first | omega | (simp only [List.length_set]; omega))) only [F12.t11, d1, d2, Bool.and_self, cT, Int.toNat_natCast, List.length_set, w0, w1, bS, F12.t14_eq]
    rfl, by simp (disch := (first | omega | (simp only [List.length_set]; omega))) only [List.length_set, F12.n14_len]⟩
noncomputable def F12.n11 (k : Int) (i : Nat) (row : List S53) : List S53 := ((F12.t11 (k, (i : Int), row)).getD (0, 0, [])).2.2
theorem F12.t11_eq (k : Int) (i : Nat) (row : List S53) (hi : i < row.length) (hl : row.length ≤ 1048576) (hk : 0 ≤ k) (hk2 : k ≤ 500000088) : F12.t11 (k, (i : Int), row) = some (k + 1 + 1 + 1 + 1 + 1 + 1 + 1 + 1 + 1 + 1 + 1 + 1, (i : Int), F12.n11 k i row) := by
  obtain ⟨r, h, _⟩ := F12.t11_ex k i row hi hl hk hk2
  unfold F12.n11
  rw [h]; rfl
theorem F12.n11_len (k : Int) (i : Nat) (row : List S53) (hi : i < row.length) (hl : row.length ≤ 1048576) (hk : 0 ≤ k) (hk2 : k ≤ 500000088) : (F12.n11 k i row).length = row.length := by
  obtain ⟨r, h, hr⟩ := F12.t11_ex k i row hi hl hk hk2
  unfold F12.n11
  rw [h]; exact hr
theorem F12.t8_ex (k : Int) (i : Nat) (row : List S53) (hi : i < row.length) (hl : row.length ≤ 1048576) (hk : 0 ≤ k) (hk2 : k ≤ 500000087) : ∃ r, F12.t8 (k, (i : Int), row) = some (k + 1 + 1 + 1 + 1 + 1 + 1 + 1 + 1 + 1 + 1 + 1 + 1 + 1, (i : Int), r) ∧ r.length = row.length := by
  have d1 : decide ((0 : Int) ≤ (i : Int)) = true := dT (by omega)
  have d2 : decide ((i : Int) < (row.length : Int)) = true := dT (by omega)
  have w0 : Go.IntKind.wrap .i64 (k + 1) = k + 1 := w64 (by omega) (by omega)
  have hm := F28.ok (k := k) (by omega) (by omega)
  exact ⟨_, by
    simp (disch := (first | omega | (simp only [List.length_set]; omega))) only [F12.t8, d1, d2, Bool.and_self, cT, Int.toNat_natCast, List.length_set, w0, hm, bS, F12.t11_eq]
    rfl, by simp (disch := (first | omega | (simp only [List.length_set]; omega))) only [List.length_set, F12.n11_len]⟩
noncomputable def F12.n8 (k : Int) (i : Nat) (row : List S53) : List S53 := ((F12.t8 (k, (i : Int), row)).getD (0, 0, [])).2.2
theorem F12.t8_eq (k : Int) (i : Nat) (row : List S53) (hi : i < row.length) (hl : row.length ≤ 1048576) (hk : 0 ≤ k) (hk2 : k ≤ 500000087) : F12.t8 (k, (i : Int), row) = some (k + 1 + 1 + 1 + 1 + 1 + 1 + 1 + 1 + 1 + 1 + 1 + 1 + 1, (i : Int), F12.n8 k i row) := by
  obtain ⟨r, h, _⟩ := F12.t8_ex k i row hi hl hk hk2
  unfold F12.n8
  rw [h]; rfl
theorem F12.n8_len (k : Int) (i : Nat) (row : List S53) (hi : i < row.length) (hl : row.length ≤ 1048576) (hk : 0 ≤ k) (hk2 : k ≤ 500000087) : (F12.n8 k i row).length = row.length := by
  obtain ⟨r, h, hr⟩ := F12.t8_ex k i row hi hl hk hk2
  unfold F12.n8
  rw [h]; exact hr

theorem F12.l0_ok : ∀ (m i : Nat) (k : Int) (row : List S53), i + m = row.length → row.length ≤ 1048576 → 0 ≤ k → k + 15 * (m : Int) ≤ 400000000 → ∃ r, F12.l0 (k, (i : Int), row) = some (k + 15 * (m : Int), r)
  | 0, i, k, row, hi, hl, hk, hk2 => by
    have d : decide ((i : Int) < (row.length : Int)) = false := dF (by omega)
    exact ⟨row, by unfold F12.l0; exact lim_out (by simp only [F12.l0.b, d, cF]; simp)⟩
  | m + 1, i, k, row, hi, hl, hk, hk2 => by
    have hlt : i < row.length := by omega
    have d : decide ((i : Int) < (row.length : Int)) = true := dT (by omega)
    have d2 : decide ((0 : Int) ≤ (i : Int)) = true := dT (by omega)
    have w : Go.IntKind.wrap .i64 ((i : Int) + 1) = ((i + 1 : Nat) : Int) := by rw [w64 (by omega) (by omega)]; rfl
    have w0 : Go.IntKind.wrap .i64 (k + 1) = k + 1 := w64 (by omega) (by omega)
    have w1 : Go.IntKind.wrap .i64 (k + 1 + 1) = k + 1 + 1 := w64 (by omega) (by omega)
    have hm := F28.ok (k := k) (by omega) (by omega)
    have hm1 := F28.ok (k := k + 1) (by omega) (by omega)
    have step : ∃ r, F12.l0.b (k, (i : Int), row) = some (.inl (k + 1 + 1 + 1 + 1 + 1 + 1 + 1 + 1 + 1 + 1 + 1 + 1 + 1 + 1 + 1, ((i + 1 : Nat) : Int), r)) ∧ r.length = row.length := by
      exact ⟨_, by
        simp (disch := (first | omega | (simp only [List.length_set]; omega))) only [F12.l0.b, d, d2, Bool.and_self, cT, Int.toNat_natCast, List.length_set, w, w0, w1, hm, hm1, bS, F12.t8_eq]
        rfl, by simp (disch := (first | omega | (simp only [List.length_set]; omega))) only [List.length_set, F12.n8_len]⟩
    obtain ⟨r, h1, h2⟩ := step
    obtain ⟨r', h3⟩ := F12.l0_ok m (i + 1) (k + 1 + 1 + 1 + 1 + 1 + 1 + 1 + 1 + 1 + 1 + 1 + 1 + 1 + 1 + 1) r (by omega) (by omega) (by omega) (by omega)
    refine ⟨r', ?_⟩
    rw [show k + 15 * ((m + 1 : Nat) : Int) = k + 1 + 1 + 1 + 1 + 1 + 1 + 1 + 1 + 1 + 1 + 1 + 1 + 1 + 1 + 1 + 15 * (m : Int) by omega, ← h3]
    unfold F12.l0
    exact lim_in h1
theorem F12.ok (l : List S53) (hl : l.length ≤ 1048576) : ∃ r, F12.F (l, 1) = some (1 + 15 * (l.length : Int), r, ()) := by
  obtain ⟨r, h⟩ := F12.l0_ok l.length 0 1 l (by omega) hl (by decide) (by omega)
  rw [show ((0 : Nat) : Int) = 0 from rfl] at h
  exact ⟨r, by simp only [F12.F, h, bS]⟩

/- sizes -/
def sz45 (x : S45) : Int := (x.f0.size : Int) + (x.f1.size : Int) + (x.f2.size : Int)
def totJ : List S45 → Int
  | [] => 0
  | x :: l => sz45 x + totJ l
theorem sz45_nn (x : S45) : 0 ≤ sz45 x := by unfold sz45; omega
theorem totJ_nn : ∀ l : List S45, 0 ≤ totJ l
  | [] => by simp [totJ]
  | x :: l => by have := totJ_nn l; have := sz45_nn x; simp only [totJ]; omega
def okSz (x : S45) : Prop := (x.f0.size : Int) ≤ 9223372036854775807 ∧ (x.f1.size : Int) ≤ 9223372036854775807 ∧ (x.f2.size : Int) ≤ 9223372036854775807
theorem F22.ok (x : S45) (k : Int) (h : okSz x) (hk : 0 ≤ k) (hk2 : k ≤ 1048576) : F22.F ((x.f0, x.f1, x.f2, x.f3, x.f4, x.f5, x.f6, x.f7, x.f8, x.f9, x.f10, x.f11, x.f12, x.f13, x.f14), k) = some (if k - sz45 x < 0 then -1 else k - sz45 x) := by
  obtain ⟨h0, h1, h2⟩ := h
  unfold sz45
  have w0 : Go.IntKind.wrap .i64 (k - (x.f0.size : Int)) = k - x.f0.size := w64 (by omega) (by omega)
  by_cases c0 : k - (x.f0.size : Int) < 0
  · rw [if_pos (by omega)]; simp only [F22.F, w0, dT c0, cT]
  have w1 : Go.IntKind.wrap .i64 (k - (x.f0.size : Int) - (x.f1.size : Int)) = k - x.f0.size - x.f1.size := w64 (by omega) (by omega)
  by_cases c1 : k - (x.f0.size : Int) - (x.f1.size : Int) < 0
  · rw [if_pos (by omega)]; simp only [F22.F, w0, w1, dF c0, dT c1, cT, cF]
  have w2 : Go.IntKind.wrap .i64 (k - (x.f0.size : Int) - (x.f1.size : Int) - (x.f2.size : Int)) = k - x.f0.size - x.f1.size - x.f2.size := w64 (by omega) (by omega)
  by_cases c2 : k - (x.f0.size : Int) - (x.f1.size : Int) - (x.f2.size : Int) < 0
  · rw [if_pos (by omega)]; simp only [F22.F, w0, w1, w2, dF c0, dF c1, dT c2, cT, cF]
  · rw [if_neg (by omega), show k - ((x.f0.size : Int) + (x.f1.size : Int) + (x.f2.size : Int)) = k - x.f0.size - x.f1.size - x.f2.size by omega]; simp only [F22.F, w0, w1, w2, dF c0, dF c1, dF c2, cF]

theorem F6.l0_ok (l : List S45) (hl : l.length ≤ 1048576) (h : ∀ x ∈ l, okSz x) : ∀ (n i : Nat) (k : Int), i + n = l.length → 0 ≤ k → k ≤ 1048576 →
    F6.l0 (k, (i : Int), l) = some (if k - totJ (l.drop i) < 0 then .inl (-1) else .inr (k - totJ (l.drop i)))
  | 0, i, k, hi, hk, hk2 => by
    rw [List.drop_eq_nil_of_le (by omega)]
    have d : decide ((i : Int) < (l.length : Int)) = false := dF (by omega)
    simp only [totJ, Int.sub_zero]
    rw [if_neg (by omega)]
    unfold F6.l0; exact lim_out (by simp only [F6.l0.b, d, cF])
  | n + 1, i, k, hi, hk, hk2 => by
    have hlt : i < l.length := by omega
    rw [drop_cons hlt]
    have hd := totJ_nn (l.drop (i + 1))
    have hg : l.getD i z45 = l[i] := getD_lt hlt
    have hx2 := h l[i] (List.getElem_mem hlt)
    generalize hx : l[i] = x at hg hx2 ⊢
    rw [show totJ (x :: l.drop (i + 1)) = sz45 x + totJ (l.drop (i + 1)) from rfl]
    have d : decide ((i : Int) < (l.length : Int)) = true := dT (by omega)
    have d2 : decide ((0 : Int) ≤ (i : Int)) = true := dT (by omega)
    have w : Go.IntKind.wrap .i64 ((i : Int) + 1) = ((i + 1 : Nat) : Int) := by rw [w64 (by omega) (by omega)]; rfl
    have hnn := sz45_nn x
    have e := F22.ok x k hx2 hk hk2
    by_cases h0 : k - sz45 x < 0
    · rw [if_pos h0] at e
      rw [if_pos (by omega)]
      have m1 : decide ((-1 : Int) < 0) = true := rfl
      unfold F6.l0; exact lim_out (by simp only [F6.l0.b, d, d2, Bool.and_self, cT, Int.toNat_natCast, hg, e, bS, m1])
    · rw [if_neg h0] at e
      have rc := F6.l0_ok l hl h n (i + 1) (k - sz45 x) (by omega) (by omega) (by omega)
      rw [show k - (sz45 x + totJ (l.drop (i + 1))) = k - sz45 x - totJ (l.drop (i + 1)) by omega, ← rc]
      unfold F6.l0; exact lim_in (by simp only [F6.l0.b, d, d2, Bool.and_self, cT, Int.toNat_natCast, hg, e, bS, dF h0, cF, w])

theorem F6.ok (l : List S45) (hl : (l.length : Int) ≤ 9223372036854775807) (h : ∀ x ∈ l, okSz x) (k : Int) (hk : 0 ≤ k) (hk2 : k ≤ 1048576) :
    F6.F (l, k) = some (if k - l.length < 0 then -1 else if k - l.length - totJ l < 0 then -1 else k - l.length - totJ l) := by
  have w : Go.IntKind.wrap .i64 (k - (l.length : Int)) = k - l.length := w64 (by omega) (by omega)
  by_cases h0 : k - (l.length : Int) < 0
  · rw [if_pos h0]; simp only [F6.F, w, dT h0, cT]
  · rw [if_neg h0]
    have e := F6.l0_ok l (by omega) h l.length 0 (k - l.length) (by omega) (by omega) (by omega)
    rw [List.drop_zero] at e
    have e : F6.l0 (k - l.length, 0, l) = _ := e
    by_cases h1 : k - (l.length : Int) - totJ l < 0
    · rw [if_pos h1] at e ⊢; simp only [F6.F, w, dF h0, cF, e, bS]
    · rw [if_neg h1] at e ⊢; simp only [F6.F, w, dF h0, cF, e, bS]

theorem nmL_len {l : List S53} {r : List Int} : (nmL l r).length = r.length := by simp [nmL]
theorem ansR_len (l : List S53) : (ansR l).1.length ≤ 5000 ∧ (ansR l).2.2.length ≤ 5000 := by
  unfold ansR
  cases he : errR l with
  | some e =>
    refine ⟨by simp, ?_⟩
    dsimp only
    unfold errR at he
    split at he
    · injection he with he; subst he; simp
    · split at he
      · injection he with he; subst he; simp
      · split at he
        · injection he with he; subst he; simp
        · rename_i u hb
          split at he
          · injection he with he; subst he; simp
          · split at he
            · injection he with he; subst he; simp
            · rename_i u' hw
              split at he
              · cases he
              · injection he with he; subst he
                have hg := rows_fg (by omega) (badG_all hb) (wrG_all hw)
                have hlen : (rowsR l).length = l.length := by simp [rowsR]
                obtain ⟨_, hbl⟩ := bestF_in hg (m := (rowsR l).length) (s := 0) (b := []) (by omega) ⟨fun x hx => by simp at hx, by simp⟩
                rw [show bestF (rowsR l) (rowsR l).length 0 [] = bestR (rowsR l) from rfl] at hbl
                rw [nmL_len]; omega
  | none =>
    obtain ⟨h1, hg, hz⟩ := errR_none he
    obtain ⟨_, o2⟩ := ord_in (to := rowsR l)
    have hlen : (rowsR l).length = l.length := by simp [rowsR]
    refine ⟨?_, by simp⟩
    dsimp only
    rw [nmL_len]; omega

theorem F3.law_of (l : List S45) (hl : (l.length : Int) ≤ 9223372036854775807) (h : ∀ x ∈ l, okSz x) : F3.F l = some true := by
  have e6 := F6.ok l hl h 1048576 (by decide) (by decide)
  have m1 : decide ((-1 : Int) < 0) = true := rfl
  by_cases h0 : 1048576 - (l.length : Int) < 0
  · rw [if_pos h0] at e6; simp only [F3.F, e6, bS, m1, cT]
  rw [if_neg h0] at e6
  by_cases h1 : 1048576 - (l.length : Int) - totJ l < 0
  · rw [if_pos h1] at e6; simp only [F3.F, e6, bS, m1, cT]
  rw [if_neg h1] at e6
  have e8 := F8.ok l (by omega)
  have e7 := F7.ok (l.map c45)
  have e9 := F9.ok (l.map c45)
  obtain ⟨n1, n2⟩ := ansR_len (l.map c45)
  generalize ansR (l.map c45) = q at e7 e9 n1 n2
  obtain ⟨q0, q1, q2⟩ := q
  dsimp only at n1 n2
  have e10 := F10.ok q0 (by omega)
  have e10' := F10.ok q2 (by omega)
  have e11 := F11.ok (l.map c45) (by simp; omega)
  obtain ⟨r, e12⟩ := F12.ok (l.map c45) (by simp; omega)
  have e13 := F13.ok q0 1 (by omega) (by decide) (by decide)
  have e13' := F13.ok q2 (1 + (q0.length : Int)) (by omega) (by omega) (by omega)
  have e14 := F14.ok q0 1 (by omega) (by decide) (by decide)
  have e14' := F14.ok q2 (1 + (q0.length : Int)) (by omega) (by omega) (by omega)
  have d1 : decide (1 + 15 * ((l.map c45).length : Int) < 0) = false := dF (by omega)
  have d2 : decide (1 + (q0.length : Int) < 0) = false := dF (by omega)
  have d3 : decide (1 + (q0.length : Int) + (q2.length : Int) < 0) = false := dF (by omega)
  have n1 : (q1 != q1) = false := nF rfl
  have n2 : (1 + (q0.length : Int) + (q2.length : Int) != 1 + (q0.length : Int) + (q2.length : Int)) = false := nF rfl
  simp only [F3.F, e6, dF h1, cF, bS, e8, e7, e9, e10, e10', e11, e12, d1, Bool.not_true, Bool.not_false, cT, n1, Bool.or_self, Bool.or_false, Bool.false_or, e13, e13', e14, e14', d2, d3, n2]

end Go.Proofs.YtiogkndjoinpoaaDoor.AX

/- What rows of features are. No conditions. -/
namespace Go.Proofs.YtiogkndjoinpoaaDoor.AX
open Go

theorem feats_row {l : List S45} (h : ∀ n, RowOk (U := uni) ky n 0 l) : (l.length : Int) ≤ 9223372036854775807 ∧ ∀ x ∈ l, okSz x := by
  have h0 : l.length ≤ maxLen := (h 0).1
  refine ⟨by unfold maxLen at h0; omega, fun x hx => ?_⟩
  have h1 : ElOk (U := uni) ky 1 0 x := (h 1).2 x hx
  have hs : x.f0.size ≤ maxLen := h1.1
  have hs1 : x.f1.size ≤ maxLen := h1.2.1
  have hs2 : x.f2.size ≤ maxLen := h1.2.2.1
  unfold maxLen at hs hs1 hs2
  exact ⟨by omega, by omega, by omega⟩

end Go.Proofs.YtiogkndjoinpoaaDoor.AX

/- The function 30 of the program in the small machine. No conditions. -/
namespace Go.Proofs.YtiogkndjoinpoaaDoor.AX.F30
open Go Go.Proofs.Tryd
noncomputable def code : Code := bodyOf f30
abbrev Y : Type := (List Int)
def cp : Cod uni Int := (cod1 (iInt .i64))
def cr : Coz uni (List Int) := (cozR (cod1 (iRow 3)) (codD cod0))
noncomputable def es : List (Ent prog uni) := []
theorem get : prog.funcs[30]? = some f30 := by kernel_rfl

noncomputable def F : Int → Option ((List Int))
  | p0 =>
  some ((Go.IntKind.wrap (Go.IntKind.u8 ) (Go.IntKind.wrap (Go.IntKind.i64 ) (Int.tdiv p0 256))) :: ((Go.IntKind.wrap (Go.IntKind.u8 ) (Int.tmod p0 256)) :: []))
theorem F.eq : ∀ x, F x = runF (mkE tab es 10 [] []) code [.sc] [.row 3] [.tmp 2] (Coz.dec cr) (cp.enc x) := fun x => by kernel_rfl
theorem F.owed : owed (mkE (R := (List Int)) tab es 10 [] []) code = [] := by kernel_rfl
theorem con : ∀ x y, F x = some y → Con prog 30 [.sc] [.row 3] (cp.enc x) (cr.enc y).1 (cr.enc y).2 :=
  func_ok (c := code) (n := 10) (pf := [.sc]) (res := [.tmp 2]) tabOk uniOk mixed get (by kernel_rfl) (by kernel_rfl) (by kernel_rfl) (by decide) F.eq fun w0 M h x hx => by rw [F.owed] at hx; exact absurd hx List.not_mem_nil
noncomputable def ent : Ent prog uni := Ent.of 30 [.sc] [.row 3] cp cr F con fun args w => enters_of get (by kernel_rfl) rfl args w
end Go.Proofs.YtiogkndjoinpoaaDoor.AX.F30

/- The function 44 of the program in the small machine. No conditions. -/
namespace Go.Proofs.YtiogkndjoinpoaaDoor.AX.F44
open Go Go.Proofs.Tryd
noncomputable def code : Code := bodyOf f44
abbrev Y : Type := Int
def cp : Cod uni (List Int) := (cod1 (iRow 3))
def cr : Coz uni Int := (cozR (cod1 (iInt .i64)) (codD cod0))
noncomputable def es : List (Ent prog uni) := []
theorem get : prog.funcs[44]? = some f44 := by kernel_rfl

def l0.A : Ann := ⟨[(0, .slc 5000000 []), (3, .sc), (4, .sc), (5, .sc)], [], [(5000000, false, 3)], []⟩
def l0.c : Cod uni (Int × Int × Int × (List Int)) := (codC (iInt .i64) (codC (iInt .i64) (codC (iInt .i64) (cod1 (iRow 3)))))
def l0.xs : List (AExit × Ann) := [((.exit 0), ⟨[(3, .sc), (4, .sc)], [], [], []⟩)]
def l0.y : Coy uni ((Int × Int)) := (coy1 (codC (iInt .i64) (cod1 (iInt .i64))))
noncomputable def l0.b : Int × Int × Int × (List Int) → Option ((Int × Int × Int × (List Int)) ⊕ ((Int × Int)))
  | (v3, v4, v5, r0) =>
  let x1 := (decide (v5 < ((List.length r0) : Int)))
  cond x1 (
   cond ((decide (0 ≤ v5)) && x1) (
    let x0 := (Int.tmod (Go.IntKind.wrap (Go.IntKind.i64 ) (v3 + (Go.IntKind.wrap (Go.IntKind.i64 ) (List.getD r0 (Int.toNat v5) 0)))) 251)
    some (.inl (x0, (Int.tmod (Go.IntKind.wrap (Go.IntKind.i64 ) (v4 + x0)) 251), (Go.IntKind.wrap (Go.IntKind.i64 ) (v5 + 1)), r0))) none) (
   some (.inr (v3, v4)))
noncomputable def l0 (x : Int × Int × Int × (List Int)) : Option ((Int × Int)) := lim l0.b x
theorem l0.eq : ∀ x, l0.b x = roundX (mkE tab es 28 [] []) (loopAt 0 code) (cutOf l0.A l0.c) (cutsOf l0.xs l0.y) x := fun x => by kernel_rfl
theorem l0.owed {R : Type} : owed (mkE (R := R) tab es 28 [] []) (loopAt 0 code) = [] := by kernel_rfl
theorem l0.ok (w0 : World) (M : Own) (h : Pinned M []) {R : Type} : SoundO prog w0 M 28 (.block 0 (.loop (loopAt 0 code))) (loopO (R := R) 0 (cutOf l0.A l0.c) (cutsOf l0.xs l0.y) l0) :=
  loop_ok tabOk uniOk mixed l0.eq (h.sub rfl) (h.sub rfl) fun x hx => by rw [l0.owed] at hx; exact absurd hx List.not_mem_nil

noncomputable def F : (List Int) → Option (Int)
  | p0 =>
  (l0 (1, 0, 0, p0)).bind fun yl0 =>
  some (Go.IntKind.wrap (Go.IntKind.i64 ) ((Go.IntKind.wrap (Go.IntKind.i64 ) (256 * yl0.2)) + yl0.1))
theorem F.eq : ∀ x, F x = runF (mkE tab es 28 [(0, some (loopO 0 (cutOf l0.A l0.c) (cutsOf l0.xs l0.y) l0))] []) code [.row 3 0] [.sc] [.tmp 2] (Coz.dec cr) (cp.enc x) := fun x => by kernel_rfl
theorem F.owed : owed (mkE (R := Int) tab es 28 [(0, some (loopO 0 (cutOf l0.A l0.c) (cutsOf l0.xs l0.y) l0))] []) code = [((.block 0 (.loop (loopAt 0 code))), (loopO (R := _) 0 (cutOf l0.A l0.c) (cutsOf l0.xs l0.y) l0))] := by kernel_rfl
theorem con : ∀ x y, F x = some y → Con prog 44 [.row 3 0] [.sc] (cp.enc x) (cr.enc y).1 (cr.enc y).2 :=
  func_ok (c := code) (n := 28) (pf := [.row 3 0]) (res := [.tmp 2]) tabOk uniOk mixed get (by kernel_rfl) (by kernel_rfl) (by kernel_rfl) (by decide) F.eq fun w0 M h x hx => by rw [F.owed] at hx; rcases List.mem_cons.1 hx with rfl | hx; exact l0.ok w0 M h; exact absurd hx List.not_mem_nil
noncomputable def ent : Ent prog uni := Ent.of 44 [.row 3 0] [.sc] cp cr F con fun args w => enters_of get (by kernel_rfl) rfl args w
end Go.Proofs.YtiogkndjoinpoaaDoor.AX.F44

/- The function 29 of the program in the small machine. No conditions. -/
namespace Go.Proofs.YtiogkndjoinpoaaDoor.AX.F29
open Go Go.Proofs.Tryd
noncomputable def code : Code := bodyOf f29
abbrev Y : Type := (List Int)
def cp : Cod uni (ByteArray × ByteArray × ByteArray × Int × Int × Int × Int × Int × Int × Int × Int × Int × Int × Int × Int) := (cod1 (iAgg (codC iStr (codC iStr (codC iStr (codC (iInt .i64) (codC (iInt .i64) (codC (iInt .i64) (codC (iInt .i64) (codC (iInt .i64) (codC (iInt .i64) (codC (iInt .i64) (codC (iInt .i64) (codC (iInt .i64) (codC (iInt .i64) (codC (iInt .i64) (cod1 (iInt .i64))))))))))))))))))
def cr : Coz uni (List Int) := (cozR (cod1 (iRow 3)) (codD cod0))
noncomputable def es : List (Ent prog uni) := [F30.ent, F44.ent]
theorem get : prog.funcs[29]? = some f29 := by kernel_rfl

def l0.A : Ann := ⟨[(1, .box 5000064 0), (4, .slc 5000256 []), (5, .slc 5000320 []), (6, .sc)], [(5000064, 54, [.sc, .sc, .sc, .sc, .sc, .sc, .sc, .sc, .sc, .sc, .sc, .sc, .sc, .sc, .sc])], [(5000256, true, 3), (5000320, true, 5)], []⟩
def l0.c : Cod uni (Int × ByteArray × ByteArray × ByteArray × Int × Int × Int × Int × Int × Int × Int × Int × Int × Int × Int × Int × (List Int) × (List Int)) := (codC (iInt .i64) (codC iStr (codC iStr (codC iStr (codC (iInt .i64) (codC (iInt .i64) (codC (iInt .i64) (codC (iInt .i64) (codC (iInt .i64) (codC (iInt .i64) (codC (iInt .i64) (codC (iInt .i64) (codC (iInt .i64) (codC (iInt .i64) (codC (iInt .i64) (codC (iInt .i64) (codC (iRow 3) (cod1 (iRow 5)))))))))))))))))))
def l0.xs : List (AExit × Ann) := [((.exit 0), ⟨[(1, .box 5000064 0), (4, .slc 5000256 [])], [(5000064, 54, [.sc, .sc, .sc, .sc, .sc, .sc, .sc, .sc, .sc, .sc, .sc, .sc, .sc, .sc, .sc])], [(5000256, true, 3)], []⟩)]
def l0.y : Coy uni ((ByteArray × ByteArray × ByteArray × Int × Int × Int × Int × Int × Int × Int × Int × Int × Int × Int × Int × (List Int))) := (coy1 (codC iStr (codC iStr (codC iStr (codC (iInt .i64) (codC (iInt .i64) (codC (iInt .i64) (codC (iInt .i64) (codC (iInt .i64) (codC (iInt .i64) (codC (iInt .i64) (codC (iInt .i64) (codC (iInt .i64) (codC (iInt .i64) (codC (iInt .i64) (codC (iInt .i64) (cod1 (iRow 3))))))))))))))))))
noncomputable def l0.b : Int × ByteArray × ByteArray × ByteArray × Int × Int × Int × Int × Int × Int × Int × Int × Int × Int × Int × Int × (List Int) × (List Int) → Option ((Int × ByteArray × ByteArray × ByteArray × Int × Int × Int × Int × Int × Int × Int × Int × Int × Int × Int × Int × (List Int) × (List Int)) ⊕ ((ByteArray × ByteArray × ByteArray × Int × Int × Int × Int × Int × Int × Int × Int × Int × Int × Int × Int × (List Int))))
  | (v6, b64_0, b64_1, b64_2, b64_3, b64_4, b64_5, b64_6, b64_7, b64_8, b64_9, b64_10, b64_11, b64_12, b64_13, b64_14, r256, r320) =>
  let x1 := (decide (v6 < ((List.length r320) : Int)))
  cond x1 (
   cond ((decide (0 ≤ v6)) && x1) (
    let x0 := ((Go.IntKind.wrap (Go.IntKind.u8 ) (Go.IntKind.wrap (Go.IntKind.i64 ) ((List.getD r320 (Int.toNat v6) 0) + 100))) :: [])
    cond (decide (((List.length r256) + (List.length x0)) ≤ 274877906944)) (
     some (.inl ((Go.IntKind.wrap (Go.IntKind.i64 ) (v6 + 1)), b64_0, b64_1, b64_2, b64_3, b64_4, b64_5, b64_6, b64_7, b64_8, b64_9, b64_10, b64_11, b64_12, b64_13, b64_14, (r256 ++ x0), r320))) none) none) (
   some (.inr (b64_0, b64_1, b64_2, b64_3, b64_4, b64_5, b64_6, b64_7, b64_8, b64_9, b64_10, b64_11, b64_12, b64_13, b64_14, r256)))
noncomputable def l0 (x : Int × ByteArray × ByteArray × ByteArray × Int × Int × Int × Int × Int × Int × Int × Int × Int × Int × Int × Int × (List Int) × (List Int)) : Option ((ByteArray × ByteArray × ByteArray × Int × Int × Int × Int × Int × Int × Int × Int × Int × Int × Int × Int × (List Int))) := lim l0.b x
theorem l0.eq : ∀ x, l0.b x = roundX (mkE tab es 93 [] []) (loopAt 0 code) (cutOf l0.A l0.c) (cutsOf l0.xs l0.y) x := fun x => by kernel_rfl
theorem l0.owed {R : Type} : owed (mkE (R := R) tab es 93 [] []) (loopAt 0 code) = [] := by kernel_rfl
theorem l0.ok (w0 : World) (M : Own) (h : Pinned M []) {R : Type} : SoundO prog w0 M 93 (.block 0 (.loop (loopAt 0 code))) (loopO (R := R) 0 (cutOf l0.A l0.c) (cutsOf l0.xs l0.y) l0) :=
  loop_ok tabOk uniOk mixed l0.eq (h.sub rfl) (h.sub rfl) fun x hx => by rw [l0.owed] at hx; exact absurd hx List.not_mem_nil

noncomputable def F : (ByteArray × ByteArray × ByteArray × Int × Int × Int × Int × Int × Int × Int × Int × Int × Int × Int × Int) → Option ((List Int))
  | (p0_0, p0_1, p0_2, p0_3, p0_4, p0_5, p0_6, p0_7, p0_8, p0_9, p0_10, p0_11, p0_12, p0_13, p0_14) =>
  (l0 (0, p0_0, p0_1, p0_2, p0_3, p0_4, p0_5, p0_6, p0_7, p0_8, p0_9, p0_10, p0_11, p0_12, p0_13, p0_14, ((Go.IntKind.wrap (Go.IntKind.u8 ) p0_3) :: ((Go.IntKind.wrap (Go.IntKind.u8 ) p0_4) :: ((Go.IntKind.wrap (Go.IntKind.u8 ) p0_11) :: []))), (p0_5 :: (p0_6 :: (p0_7 :: (p0_8 :: (p0_9 :: (p0_10 :: (p0_12 :: (p0_13 :: (p0_14 :: []))))))))))).bind fun yl0 =>
  let x7 := (ByteArray.size yl0.2.2.1)
  let x8 := (ByteArray.size yl0.2.1)
  let x9 := (ByteArray.size yl0.1)
  let x4 := ((Go.IntKind.wrap (Go.IntKind.u8 ) (x9 : Int)) :: ((Go.IntKind.wrap (Go.IntKind.u8 ) (x8 : Int)) :: ((Go.IntKind.wrap (Go.IntKind.u8 ) (x7 : Int)) :: [])))
  cond (decide (((List.length yl0.2.2.2.2.2.2.2.2.2.2.2.2.2.2.2) + (List.length x4)) ≤ 274877906944)) (
   cond (decide ((x9 + x8) ≤ 274877906944)) (
    cond (decide (((ByteArray.size (yl0.1 ++ yl0.2.1)) + x7) ≤ 274877906944)) (
     let x6 := ((yl0.1 ++ yl0.2.1) ++ yl0.2.2.1)
     cond (decide ((ByteArray.size x6) ≤ 274877906944)) (
      let x3 := (yl0.2.2.2.2.2.2.2.2.2.2.2.2.2.2.2 ++ x4)
      let x5 := (bytesI x6)
      cond (decide (((List.length x3) + (List.length x5)) ≤ 274877906944)) (
       let x2 := (x3 ++ x5)
       let x1 := (List.length x2)
       (F30.F (x1 : Int)).bind fun y30 =>
       cond (decide (((List.length (82 :: [])) + (List.length y30)) ≤ 274877906944)) (
        cond (decide (((List.length ((82 :: []) ++ y30)) + x1) ≤ 274877906944)) (
         (F44.F x2).bind fun y44 =>
         (F30.F y44).bind fun y30x2 =>
         let x0 := (((82 :: []) ++ y30) ++ x2)
         cond (decide (((List.length x0) + (List.length y30x2)) ≤ 274877906944)) (
          some (x0 ++ y30x2)) none) none) none) none) none) none) none) none
theorem F.eq : ∀ x, F x = runF (mkE tab es 93 [(0, some (loopO 0 (cutOf l0.A l0.c) (cutsOf l0.xs l0.y) l0))] []) code [.agg [.sc, .sc, .sc, .sc, .sc, .sc, .sc, .sc, .sc, .sc, .sc, .sc, .sc, .sc, .sc]] [.row 3] [.tmp 2] (Coz.dec cr) (cp.enc x) := fun x => by kernel_rfl
theorem F.owed : owed (mkE (R := (List Int)) tab es 93 [(0, some (loopO 0 (cutOf l0.A l0.c) (cutsOf l0.xs l0.y) l0))] []) code = [((.block 0 (.loop (loopAt 0 code))), (loopO (R := _) 0 (cutOf l0.A l0.c) (cutsOf l0.xs l0.y) l0))] := by kernel_rfl
theorem con : ∀ x y, F x = some y → Con prog 29 [.agg [.sc, .sc, .sc, .sc, .sc, .sc, .sc, .sc, .sc, .sc, .sc, .sc, .sc, .sc, .sc]] [.row 3] (cp.enc x) (cr.enc y).1 (cr.enc y).2 :=
  func_ok (c := code) (n := 93) (pf := [.agg [.sc, .sc, .sc, .sc, .sc, .sc, .sc, .sc, .sc, .sc, .sc, .sc, .sc, .sc, .sc]]) (res := [.tmp 2]) tabOk uniOk mixed get (by kernel_rfl) (by kernel_rfl) (by kernel_rfl) (by decide) F.eq fun w0 M h x hx => by rw [F.owed] at hx; rcases List.mem_cons.1 hx with rfl | hx; exact l0.ok w0 M h; exact absurd hx List.not_mem_nil
noncomputable def ent : Ent prog uni := Ent.of 29 [.agg [.sc, .sc, .sc, .sc, .sc, .sc, .sc, .sc, .sc, .sc, .sc, .sc, .sc, .sc, .sc]] [.row 3] cp cr F con fun args w => enters_of get (by kernel_rfl) rfl args w
end Go.Proofs.YtiogkndjoinpoaaDoor.AX.F29

/- The function 15 of the program in the small machine. No conditions. -/
namespace Go.Proofs.YtiogkndjoinpoaaDoor.AX.F15
open Go Go.Proofs.Tryd
noncomputable def code : Code := bodyOf f15
abbrev Y : Type := ((List Int) × Int)
def cp : Cod uni (List S53) := (cod1 (iRow 2))
def cr : Coz uni ((List Int) × Int) := (cozR (codC (iRow 3) (cod1 (iInt .i64))) (codD cod0))
noncomputable def es : List (Ent prog uni) := [F23.ent, F29.ent, F30.ent]
theorem get : prog.funcs[15]? = some f15 := by kernel_rfl

def l0.A : Ann := ⟨[(0, .slc 5000000 []), (7, .slc 5000448 []), (8, .sc)], [], [(5000000, false, 2), (5000448, true, 3)], []⟩
def l0.c : Cod uni (Int × (List S53) × (List Int)) := (codC (iInt .i64) (codC (iRow 2) (cod1 (iRow 3))))
def l0.xs : List (AExit × Ann) := [((.exit 0), ⟨[(0, .slc 5000000 []), (7, .slc 5000448 [])], [], [(5000000, false, 2), (5000448, true, 3)], []⟩)]
def l0.y : Coy uni (((List S53) × (List Int))) := (coy1 (codC (iRow 2) (cod1 (iRow 3))))
noncomputable def l0.b : Int × (List S53) × (List Int) → Option ((Int × (List S53) × (List Int)) ⊕ (((List S53) × (List Int))))
  | (v8, r0, r448) =>
  let x0 := (decide (v8 < ((List.length r0) : Int)))
  cond x0 (
   cond ((decide (0 ≤ v8)) && x0) (
    let x1 := (List.getD r0 (Int.toNat v8) z53)
    (F29.F (x1.f0, (x1.f1, (x1.f2, (x1.f3, (x1.f4, (x1.f5, (x1.f6, (x1.f7, (x1.f8, (x1.f9, (x1.f10, (x1.f11, (x1.f12, (x1.f13, x1.f14))))))))))))))).bind fun y29 =>
    cond (decide (((List.length r448) + (List.length y29)) ≤ 274877906944)) (
     some (.inl ((Go.IntKind.wrap (Go.IntKind.i64 ) (v8 + 1)), r0, (r448 ++ y29)))) none) none) (
   some (.inr (r0, r448)))
noncomputable def l0 (x : Int × (List S53) × (List Int)) : Option (((List S53) × (List Int))) := lim l0.b x
theorem l0.eq : ∀ x, l0.b x = roundX (mkE tab es 41 [] []) (loopAt 0 code) (cutOf l0.A l0.c) (cutsOf l0.xs l0.y) x := fun x => by kernel_rfl
theorem l0.owed {R : Type} : owed (mkE (R := R) tab es 41 [] []) (loopAt 0 code) = [] := by kernel_rfl
theorem l0.ok (w0 : World) (M : Own) (h : Pinned M []) {R : Type} : SoundO prog w0 M 41 (.block 0 (.loop (loopAt 0 code))) (loopO (R := R) 0 (cutOf l0.A l0.c) (cutsOf l0.xs l0.y) l0) :=
  loop_ok tabOk uniOk mixed l0.eq (h.sub rfl) (h.sub rfl) fun x hx => by rw [l0.owed] at hx; exact absurd hx List.not_mem_nil

noncomputable def F : (List S53) → Option (((List Int) × Int))
  | p0 =>
  (F23.F p0).bind fun y23 =>
  cond (y23.2.1 != 0) (
   some (([] : List Int), y23.2.1)) (
   (l0 (0, p0, (80 :: (65 :: (82 :: (84 :: (1 :: []))))))).bind fun yl0 =>
   cond (decide (((List.length yl0.2) + (List.length (69 :: []))) ≤ 274877906944)) (
    (F30.F ((List.length yl0.1) : Int)).bind fun y30 =>
    cond (decide (((List.length (yl0.2 ++ (69 :: []))) + (List.length y30)) ≤ 274877906944)) (
     some (((yl0.2 ++ (69 :: [])) ++ y30), 0)) none) none)
theorem F.eq : ∀ x, F x = runF (mkE tab es 41 [(0, some (loopO 0 (cutOf l0.A l0.c) (cutsOf l0.xs l0.y) l0))] []) code [.row 2 0] [.row 3, .sc] [.tmp 2, .tmp 3] (Coz.dec cr) (cp.enc x) := fun x => by kernel_rfl
theorem F.owed : owed (mkE (R := ((List Int) × Int)) tab es 41 [(0, some (loopO 0 (cutOf l0.A l0.c) (cutsOf l0.xs l0.y) l0))] []) code = [((.block 0 (.loop (loopAt 0 code))), (loopO (R := _) 0 (cutOf l0.A l0.c) (cutsOf l0.xs l0.y) l0))] := by kernel_rfl
theorem con : ∀ x y, F x = some y → Con prog 15 [.row 2 0] [.row 3, .sc] (cp.enc x) (cr.enc y).1 (cr.enc y).2 :=
  func_ok (c := code) (n := 41) (pf := [.row 2 0]) (res := [.tmp 2, .tmp 3]) tabOk uniOk mixed get (by kernel_rfl) (by kernel_rfl) (by kernel_rfl) (by decide) F.eq fun w0 M h x hx => by rw [F.owed] at hx; rcases List.mem_cons.1 hx with rfl | hx; exact l0.ok w0 M h; exact absurd hx List.not_mem_nil
noncomputable def ent : Ent prog uni := Ent.of 15 [.row 2 0] [.row 3, .sc] cp cr F con fun args w => enters_of get (by kernel_rfl) rfl args w
end Go.Proofs.YtiogkndjoinpoaaDoor.AX.F15

/- The function 31 of the program in the small machine. No conditions. -/
namespace Go.Proofs.YtiogkndjoinpoaaDoor.AX.F31
open Go Go.Proofs.Tryd
noncomputable def code : Code := bodyOf f31
abbrev Y : Type := (List Int)
def cp : Cod uni (ByteArray × ByteArray × ByteArray × Int × Int × Int × Int × Int × Int × Int × Int × Int × Int × Int × Int) := (cod1 (iAgg (codC iStr (codC iStr (codC iStr (codC (iInt .i64) (codC (iInt .i64) (codC (iInt .i64) (codC (iInt .i64) (codC (iInt .i64) (codC (iInt .i64) (codC (iInt .i64) (codC (iInt .i64) (codC (iInt .i64) (codC (iInt .i64) (codC (iInt .i64) (cod1 (iInt .i64))))))))))))))))))
def cr : Coz uni (List Int) := (cozR (cod1 (iRow 3)) (codD cod0))
noncomputable def es : List (Ent prog uni) := []
theorem get : prog.funcs[31]? = some f31 := by kernel_rfl

def l0.A : Ann := ⟨[(1, .box 5000064 0), (4, .slc 5000256 []), (39, .slc 5002496 []), (40, .sc), (41, .sc)], [(5000064, 54, [.sc, .sc, .sc, .sc, .sc, .sc, .sc, .sc, .sc, .sc, .sc, .sc, .sc, .sc, .sc])], [(5000256, true, 3), (5002496, true, 5)], []⟩
def l0.c : Cod uni (Int × Int × ByteArray × ByteArray × ByteArray × Int × Int × Int × Int × Int × Int × Int × Int × Int × Int × Int × Int × (List Int) × (List Int)) := (codC (iInt .i64) (codC (iInt .i64) (codC iStr (codC iStr (codC iStr (codC (iInt .i64) (codC (iInt .i64) (codC (iInt .i64) (codC (iInt .i64) (codC (iInt .i64) (codC (iInt .i64) (codC (iInt .i64) (codC (iInt .i64) (codC (iInt .i64) (codC (iInt .i64) (codC (iInt .i64) (codC (iInt .i64) (codC (iRow 3) (cod1 (iRow 5))))))))))))))))))))
def l0.xs : List (AExit × Ann) := [((.exit 0), ⟨[(1, .box 5000064 0), (4, .slc 5000256 [])], [(5000064, 54, [.sc, .sc, .sc, .sc, .sc, .sc, .sc, .sc, .sc, .sc, .sc, .sc, .sc, .sc, .sc])], [(5000256, true, 3)], []⟩)]
def l0.y : Coy uni ((ByteArray × ByteArray × ByteArray × Int × Int × Int × Int × Int × Int × Int × Int × Int × Int × Int × Int × (List Int))) := (coy1 (codC iStr (codC iStr (codC iStr (codC (iInt .i64) (codC (iInt .i64) (codC (iInt .i64) (codC (iInt .i64) (codC (iInt .i64) (codC (iInt .i64) (codC (iInt .i64) (codC (iInt .i64) (codC (iInt .i64) (codC (iInt .i64) (codC (iInt .i64) (codC (iInt .i64) (cod1 (iRow 3))))))))))))))))))
noncomputable def l0.b : Int × Int × ByteArray × ByteArray × ByteArray × Int × Int × Int × Int × Int × Int × Int × Int × Int × Int × Int × Int × (List Int) × (List Int) → Option ((Int × Int × ByteArray × ByteArray × ByteArray × Int × Int × Int × Int × Int × Int × Int × Int × Int × Int × Int × Int × (List Int) × (List Int)) ⊕ ((ByteArray × ByteArray × ByteArray × Int × Int × Int × Int × Int × Int × Int × Int × Int × Int × Int × Int × (List Int))))
  | (v40, v41, b64_0, b64_1, b64_2, b64_3, b64_4, b64_5, b64_6, b64_7, b64_8, b64_9, b64_10, b64_11, b64_12, b64_13, b64_14, r256, r2496) =>
  cond (decide (v41 < v40)) (
   cond ((decide (0 ≤ v41)) && (decide (v41 < ((List.length r2496) : Int)))) (
    let x0 := ((Go.IntKind.wrap (Go.IntKind.u8 ) (Go.IntKind.wrap (Go.IntKind.i64 ) ((List.getD r2496 (Int.toNat v41) 0) + 100))) :: [])
    cond (decide (((List.length r256) + (List.length x0)) ≤ 274877906944)) (
     some (.inl (v40, (Go.IntKind.wrap (Go.IntKind.i64 ) (v41 + 1)), b64_0, b64_1, b64_2, b64_3, b64_4, b64_5, b64_6, b64_7, b64_8, b64_9, b64_10, b64_11, b64_12, b64_13, b64_14, (r256 ++ x0), r2496))) none) none) (
   some (.inr (b64_0, b64_1, b64_2, b64_3, b64_4, b64_5, b64_6, b64_7, b64_8, b64_9, b64_10, b64_11, b64_12, b64_13, b64_14, r256)))
noncomputable def l0 (x : Int × Int × ByteArray × ByteArray × ByteArray × Int × Int × Int × Int × Int × Int × Int × Int × Int × Int × Int × Int × (List Int) × (List Int)) : Option ((ByteArray × ByteArray × ByteArray × Int × Int × Int × Int × Int × Int × Int × Int × Int × Int × Int × Int × (List Int))) := lim l0.b x
theorem l0.eq : ∀ x, l0.b x = roundX (mkE tab es 81 [] []) (loopAt 0 code) (cutOf l0.A l0.c) (cutsOf l0.xs l0.y) x := fun x => by kernel_rfl
theorem l0.owed {R : Type} : owed (mkE (R := R) tab es 81 [] []) (loopAt 0 code) = [] := by kernel_rfl
theorem l0.ok (w0 : World) (M : Own) (h : Pinned M []) {R : Type} : SoundO prog w0 M 81 (.block 0 (.loop (loopAt 0 code))) (loopO (R := R) 0 (cutOf l0.A l0.c) (cutsOf l0.xs l0.y) l0) :=
  loop_ok tabOk uniOk mixed l0.eq (h.sub rfl) (h.sub rfl) fun x hx => by rw [l0.owed] at hx; exact absurd hx List.not_mem_nil

def l2.A : Ann := ⟨[(1, .box 5000064 0), (4, .slc 5000256 []), (58, .slc 5003712 []), (59, .sc), (60, .sc)], [(5000064, 54, [.sc, .sc, .sc, .sc, .sc, .sc, .sc, .sc, .sc, .sc, .sc, .sc, .sc, .sc, .sc])], [(5000256, true, 3), (5003712, true, 1)], []⟩
def l2.c : Cod uni (Int × Int × ByteArray × ByteArray × ByteArray × Int × Int × Int × Int × Int × Int × Int × Int × Int × Int × Int × Int × (List Int) × (List ByteArray)) := (codC (iInt .i64) (codC (iInt .i64) (codC iStr (codC iStr (codC iStr (codC (iInt .i64) (codC (iInt .i64) (codC (iInt .i64) (codC (iInt .i64) (codC (iInt .i64) (codC (iInt .i64) (codC (iInt .i64) (codC (iInt .i64) (codC (iInt .i64) (codC (iInt .i64) (codC (iInt .i64) (codC (iInt .i64) (codC (iRow 3) (cod1 (iRow 1))))))))))))))))))))
def l2.xs : List (AExit × Ann) := [((.exit 2), ⟨[(1, .box 5000064 0), (4, .slc 5000256 [])], [(5000064, 54, [.sc, .sc, .sc, .sc, .sc, .sc, .sc, .sc, .sc, .sc, .sc, .sc, .sc, .sc, .sc])], [(5000256, true, 3)], []⟩)]
def l2.y : Coy uni ((ByteArray × ByteArray × ByteArray × Int × Int × Int × Int × Int × Int × Int × Int × Int × Int × Int × Int × (List Int))) := (coy1 (codC iStr (codC iStr (codC iStr (codC (iInt .i64) (codC (iInt .i64) (codC (iInt .i64) (codC (iInt .i64) (codC (iInt .i64) (codC (iInt .i64) (codC (iInt .i64) (codC (iInt .i64) (codC (iInt .i64) (codC (iInt .i64) (codC (iInt .i64) (codC (iInt .i64) (cod1 (iRow 3))))))))))))))))))
noncomputable def l2.b : Int × Int × ByteArray × ByteArray × ByteArray × Int × Int × Int × Int × Int × Int × Int × Int × Int × Int × Int × Int × (List Int) × (List ByteArray) → Option ((Int × Int × ByteArray × ByteArray × ByteArray × Int × Int × Int × Int × Int × Int × Int × Int × Int × Int × Int × Int × (List Int) × (List ByteArray)) ⊕ ((ByteArray × ByteArray × ByteArray × Int × Int × Int × Int × Int × Int × Int × Int × Int × Int × Int × Int × (List Int))))
  | (v59, v60, b64_0, b64_1, b64_2, b64_3, b64_4, b64_5, b64_6, b64_7, b64_8, b64_9, b64_10, b64_11, b64_12, b64_13, b64_14, r256, r3712) =>
  cond (decide (v60 < v59)) (
   cond ((decide (0 ≤ v60)) && (decide (v60 < ((List.length r3712) : Int)))) (
    let x0 := ((Go.IntKind.wrap (Go.IntKind.u8 ) ((ByteArray.size (List.getD r3712 (Int.toNat v60) (ByteArray.mk (Array.mk ([] : List UInt8))))) : Int)) :: [])
    cond (decide (((List.length r256) + (List.length x0)) ≤ 274877906944)) (
     some (.inl (v59, (Go.IntKind.wrap (Go.IntKind.i64 ) (v60 + 1)), b64_0, b64_1, b64_2, b64_3, b64_4, b64_5, b64_6, b64_7, b64_8, b64_9, b64_10, b64_11, b64_12, b64_13, b64_14, (r256 ++ x0), r3712))) none) none) (
   some (.inr (b64_0, b64_1, b64_2, b64_3, b64_4, b64_5, b64_6, b64_7, b64_8, b64_9, b64_10, b64_11, b64_12, b64_13, b64_14, r256)))
noncomputable def l2 (x : Int × Int × ByteArray × ByteArray × ByteArray × Int × Int × Int × Int × Int × Int × Int × Int × Int × Int × Int × Int × (List Int) × (List ByteArray)) : Option ((ByteArray × ByteArray × ByteArray × Int × Int × Int × Int × Int × Int × Int × Int × Int × Int × Int × Int × (List Int))) := lim l2.b x
theorem l2.eq : ∀ x, l2.b x = roundX (mkE tab es 81 [] []) (loopAt 2 code) (cutOf l2.A l2.c) (cutsOf l2.xs l2.y) x := fun x => by kernel_rfl
theorem l2.owed {R : Type} : owed (mkE (R := R) tab es 81 [] []) (loopAt 2 code) = [] := by kernel_rfl
theorem l2.ok (w0 : World) (M : Own) (h : Pinned M []) {R : Type} : SoundO prog w0 M 81 (.block 2 (.loop (loopAt 2 code))) (loopO (R := R) 2 (cutOf l2.A l2.c) (cutsOf l2.xs l2.y) l2) :=
  loop_ok tabOk uniOk mixed l2.eq (h.sub rfl) (h.sub rfl) fun x hx => by rw [l2.owed] at hx; exact absurd hx List.not_mem_nil

noncomputable def F : (ByteArray × ByteArray × ByteArray × Int × Int × Int × Int × Int × Int × Int × Int × Int × Int × Int × Int) → Option ((List Int))
  | (p0_0, p0_1, p0_2, p0_3, p0_4, p0_5, p0_6, p0_7, p0_8, p0_9, p0_10, p0_11, p0_12, p0_13, p0_14) =>
  let x0 := (p0_5 :: (p0_6 :: (p0_7 :: (p0_8 :: (p0_9 :: (p0_10 :: (p0_12 :: (p0_13 :: (p0_14 :: [])))))))))
  (l0 (((List.length x0) : Int), 0, p0_0, p0_1, p0_2, p0_3, p0_4, p0_5, p0_6, p0_7, p0_8, p0_9, p0_10, p0_11, p0_12, p0_13, p0_14, ((Go.IntKind.wrap (Go.IntKind.u8 ) p0_3) :: ((Go.IntKind.wrap (Go.IntKind.u8 ) p0_4) :: ((Go.IntKind.wrap (Go.IntKind.u8 ) p0_11) :: []))), x0)).bind fun yl0 =>
  let x3 := (yl0.1 :: (yl0.2.1 :: (yl0.2.2.1 :: [])))
  (l2 (((List.length x3) : Int), 0, yl0.1, yl0.2.1, yl0.2.2.1, yl0.2.2.2.1, yl0.2.2.2.2.1, yl0.2.2.2.2.2.1, yl0.2.2.2.2.2.2.1, yl0.2.2.2.2.2.2.2.1, yl0.2.2.2.2.2.2.2.2.1, yl0.2.2.2.2.2.2.2.2.2.1, yl0.2.2.2.2.2.2.2.2.2.2.1, yl0.2.2.2.2.2.2.2.2.2.2.2.1, yl0.2.2.2.2.2.2.2.2.2.2.2.2.1, yl0.2.2.2.2.2.2.2.2.2.2.2.2.2.1, yl0.2.2.2.2.2.2.2.2.2.2.2.2.2.2.1, yl0.2.2.2.2.2.2.2.2.2.2.2.2.2.2.2, x3)).bind fun yl2 =>
  cond (decide (((List.length yl2.2.2.2.2.2.2.2.2.2.2.2.2.2.2.2) + (List.length (bytesI yl2.1))) ≤ 274877906944)) (
   let x2 := (yl2.2.2.2.2.2.2.2.2.2.2.2.2.2.2.2 ++ (bytesI yl2.1))
   cond (decide (((List.length x2) + (List.length (bytesI yl2.2.1))) ≤ 274877906944)) (
    let x1 := (x2 ++ (bytesI yl2.2.1))
    cond (decide (((List.length x1) + (List.length (bytesI yl2.2.2.1))) ≤ 274877906944)) (
     some (x1 ++ (bytesI yl2.2.2.1))) none) none) none
theorem F.eq : ∀ x, F x = runF (mkE tab es 81 [(0, some (loopO 0 (cutOf l0.A l0.c) (cutsOf l0.xs l0.y) l0)), (2, some (loopO 2 (cutOf l2.A l2.c) (cutsOf l2.xs l2.y) l2))] []) code [.agg [.sc, .sc, .sc, .sc, .sc, .sc, .sc, .sc, .sc, .sc, .sc, .sc, .sc, .sc, .sc]] [.row 3] [.tmp 2] (Coz.dec cr) (cp.enc x) := fun x => by kernel_rfl
theorem F.owed : owed (mkE (R := (List Int)) tab es 81 [(0, some (loopO 0 (cutOf l0.A l0.c) (cutsOf l0.xs l0.y) l0)), (2, some (loopO 2 (cutOf l2.A l2.c) (cutsOf l2.xs l2.y) l2))] []) code = [((.block 0 (.loop (loopAt 0 code))), (loopO (R := _) 0 (cutOf l0.A l0.c) (cutsOf l0.xs l0.y) l0)), ((.block 2 (.loop (loopAt 2 code))), (loopO (R := _) 2 (cutOf l2.A l2.c) (cutsOf l2.xs l2.y) l2))] := by kernel_rfl
theorem con : ∀ x y, F x = some y → Con prog 31 [.agg [.sc, .sc, .sc, .sc, .sc, .sc, .sc, .sc, .sc, .sc, .sc, .sc, .sc, .sc, .sc]] [.row 3] (cp.enc x) (cr.enc y).1 (cr.enc y).2 :=
  func_ok (c := code) (n := 81) (pf := [.agg [.sc, .sc, .sc, .sc, .sc, .sc, .sc, .sc, .sc, .sc, .sc, .sc, .sc, .sc, .sc]]) (res := [.tmp 2]) tabOk uniOk mixed get (by kernel_rfl) (by kernel_rfl) (by kernel_rfl) (by decide) F.eq fun w0 M h x hx => by rw [F.owed] at hx; rcases List.mem_cons.1 hx with rfl | hx; exact l0.ok w0 M h; rcases List.mem_cons.1 hx with rfl | hx; exact l2.ok w0 M h; exact absurd hx List.not_mem_nil
noncomputable def ent : Ent prog uni := Ent.of 31 [.agg [.sc, .sc, .sc, .sc, .sc, .sc, .sc, .sc, .sc, .sc, .sc, .sc, .sc, .sc, .sc]] [.row 3] cp cr F con fun args w => enters_of get (by kernel_rfl) rfl args w
end Go.Proofs.YtiogkndjoinpoaaDoor.AX.F31

/- The function 32 of the program in the small machine. No conditions. -/
namespace Go.Proofs.YtiogkndjoinpoaaDoor.AX.F32
open Go Go.Proofs.Tryd
noncomputable def code : Code := bodyOf f32
abbrev Y : Type := (List Int)
def cp : Cod uni Int := (cod1 (iInt .i64))
def cr : Coz uni (List Int) := (cozR (cod1 (iRow 3)) (codD cod0))
noncomputable def es : List (Ent prog uni) := []
theorem get : prog.funcs[32]? = some f32 := by kernel_rfl

noncomputable def F : Int → Option ((List Int))
  | p0 =>
  some ((Go.IntKind.wrap (Go.IntKind.u8 ) (Int.fdiv p0 256)) :: ((Go.IntKind.wrap (Go.IntKind.u8 ) p0) :: []))
theorem F.eq : ∀ x, F x = runF (mkE tab es 9 [] []) code [.sc] [.row 3] [.tmp 2] (Coz.dec cr) (cp.enc x) := fun x => by kernel_rfl
theorem F.owed : owed (mkE (R := (List Int)) tab es 9 [] []) code = [] := by kernel_rfl
theorem con : ∀ x y, F x = some y → Con prog 32 [.sc] [.row 3] (cp.enc x) (cr.enc y).1 (cr.enc y).2 :=
  func_ok (c := code) (n := 9) (pf := [.sc]) (res := [.tmp 2]) tabOk uniOk mixed get (by kernel_rfl) (by kernel_rfl) (by kernel_rfl) (by decide) F.eq fun w0 M h x hx => by rw [F.owed] at hx; exact absurd hx List.not_mem_nil
noncomputable def ent : Ent prog uni := Ent.of 32 [.sc] [.row 3] cp cr F con fun args w => enters_of get (by kernel_rfl) rfl args w
end Go.Proofs.YtiogkndjoinpoaaDoor.AX.F32

/- The function 33 of the program in the small machine. No conditions. -/
namespace Go.Proofs.YtiogkndjoinpoaaDoor.AX.F33
open Go Go.Proofs.Tryd
noncomputable def code : Code := bodyOf f33
abbrev Y : Type := Int
def cp : Cod uni (List Int) := (cod1 (iRow 3))
def cr : Coz uni Int := (cozR (cod1 (iInt .i64)) (codD cod0))
noncomputable def es : List (Ent prog uni) := []
theorem get : prog.funcs[33]? = some f33 := by kernel_rfl

def l0.A : Ann := ⟨[(3, .sc), (4, .sc), (10, .slc 5000640 []), (11, .sc), (12, .sc)], [], [(5000640, false, 3)], []⟩
def l0.c : Cod uni (Int × Int × Int × Int × (List Int)) := (codC (iInt .i64) (codC (iInt .i64) (codC (iInt .i64) (codC (iInt .i64) (cod1 (iRow 3))))))
def l0.xs : List (AExit × Ann) := [((.exit 0), ⟨[(3, .sc), (4, .sc)], [], [], []⟩)]
def l0.y : Coy uni ((Int × Int)) := (coy1 (codC (iInt .i64) (cod1 (iInt .i64))))
noncomputable def l0.b : Int × Int × Int × Int × (List Int) → Option ((Int × Int × Int × Int × (List Int)) ⊕ ((Int × Int)))
  | (v3, v4, v11, v12, r640) =>
  cond (decide (v12 < v11)) (
   cond ((decide (0 ≤ v12)) && (decide (v12 < ((List.length r640) : Int)))) (
    let x0 := (Int.tmod (Go.IntKind.wrap (Go.IntKind.i64 ) (v3 + (Go.IntKind.wrap (Go.IntKind.i64 ) (List.getD r640 (Int.toNat v12) 0)))) 251)
    some (.inl (x0, (Int.tmod (Go.IntKind.wrap (Go.IntKind.i64 ) (v4 + x0)) 251), v11, (Go.IntKind.wrap (Go.IntKind.i64 ) (v12 + 1)), r640))) none) (
   some (.inr (v3, v4)))
noncomputable def l0 (x : Int × Int × Int × Int × (List Int)) : Option ((Int × Int)) := lim l0.b x
theorem l0.eq : ∀ x, l0.b x = roundX (mkE tab es 30 [] []) (loopAt 0 code) (cutOf l0.A l0.c) (cutsOf l0.xs l0.y) x := fun x => by kernel_rfl
theorem l0.owed {R : Type} : owed (mkE (R := R) tab es 30 [] []) (loopAt 0 code) = [] := by kernel_rfl
theorem l0.ok (w0 : World) (M : Own) (h : Pinned M []) {R : Type} : SoundO prog w0 M 30 (.block 0 (.loop (loopAt 0 code))) (loopO (R := R) 0 (cutOf l0.A l0.c) (cutsOf l0.xs l0.y) l0) :=
  loop_ok tabOk uniOk mixed l0.eq (h.sub rfl) (h.sub rfl) fun x hx => by rw [l0.owed] at hx; exact absurd hx List.not_mem_nil

noncomputable def F : (List Int) → Option (Int)
  | p0 =>
  let x0 := ((List.length p0) : Int)
  cond (decide (x0 > 65536)) (
   some 0) (
   (l0 (1, 0, x0, 0, p0)).bind fun yl0 =>
   some (Go.IntKind.wrap (Go.IntKind.i64 ) ((Go.IntKind.wrap (Go.IntKind.i64 ) (256 * yl0.2)) + yl0.1)))
theorem F.eq : ∀ x, F x = runF (mkE tab es 30 [(0, some (loopO 0 (cutOf l0.A l0.c) (cutsOf l0.xs l0.y) l0))] []) code [.row 3 0] [.sc] [.tmp 2] (Coz.dec cr) (cp.enc x) := fun x => by kernel_rfl
theorem F.owed : owed (mkE (R := Int) tab es 30 [(0, some (loopO 0 (cutOf l0.A l0.c) (cutsOf l0.xs l0.y) l0))] []) code = [((.block 0 (.loop (loopAt 0 code))), (loopO (R := _) 0 (cutOf l0.A l0.c) (cutsOf l0.xs l0.y) l0))] := by kernel_rfl
theorem con : ∀ x y, F x = some y → Con prog 33 [.row 3 0] [.sc] (cp.enc x) (cr.enc y).1 (cr.enc y).2 :=
  func_ok (c := code) (n := 30) (pf := [.row 3 0]) (res := [.tmp 2]) tabOk uniOk mixed get (by kernel_rfl) (by kernel_rfl) (by kernel_rfl) (by decide) F.eq fun w0 M h x hx => by rw [F.owed] at hx; rcases List.mem_cons.1 hx with rfl | hx; exact l0.ok w0 M h; exact absurd hx List.not_mem_nil
noncomputable def ent : Ent prog uni := Ent.of 33 [.row 3 0] [.sc] cp cr F con fun args w => enters_of get (by kernel_rfl) rfl args w
end Go.Proofs.YtiogkndjoinpoaaDoor.AX.F33

/- The function 16 of the program in the small machine. No conditions. -/
namespace Go.Proofs.YtiogkndjoinpoaaDoor.AX.F16
open Go Go.Proofs.Tryd
noncomputable def code : Code := bodyOf f16
abbrev Y : Type := ((List Int) × Int)
def cp : Cod uni (List S53) := (cod1 (iRow 2))
def cr : Coz uni ((List Int) × Int) := (cozR (codC (iRow 3) (cod1 (iInt .i64))) (codD cod0))
noncomputable def es : List (Ent prog uni) := [F26.ent, F31.ent, F32.ent, F33.ent]
theorem get : prog.funcs[16]? = some f16 := by kernel_rfl

def l0.A : Ann := ⟨[(0, .slc 5000000 []), (7, .slc 5000448 []), (21, .slc 5000000 []), (22, .sc), (23, .sc)], [], [(5000000, false, 2), (5000448, true, 3)], []⟩
def l0.c : Cod uni (Int × Int × (List S53) × (List Int)) := (codC (iInt .i64) (codC (iInt .i64) (codC (iRow 2) (cod1 (iRow 3)))))
def l0.xs : List (AExit × Ann) := [((.exit 0), ⟨[(0, .slc 5000000 []), (7, .slc 5000448 [])], [], [(5000000, false, 2), (5000448, true, 3)], []⟩)]
def l0.y : Coy uni (((List S53) × (List Int))) := (coy1 (codC (iRow 2) (cod1 (iRow 3))))
noncomputable def l0.b : Int × Int × (List S53) × (List Int) → Option ((Int × Int × (List S53) × (List Int)) ⊕ (((List S53) × (List Int))))
  | (v22, v23, r0, r448) =>
  cond (decide (v23 < v22)) (
   cond ((decide (0 ≤ v23)) && (decide (v23 < ((List.length r0) : Int)))) (
    let x1 := (List.getD r0 (Int.toNat v23) z53)
    (F31.F (x1.f0, (x1.f1, (x1.f2, (x1.f3, (x1.f4, (x1.f5, (x1.f6, (x1.f7, (x1.f8, (x1.f9, (x1.f10, (x1.f11, (x1.f12, (x1.f13, x1.f14))))))))))))))).bind fun y31 =>
    cond (decide (((List.length r448) + (List.length (82 :: []))) ≤ 274877906944)) (
     (F32.F ((List.length y31) : Int)).bind fun y32 =>
     cond (decide (((List.length (r448 ++ (82 :: []))) + (List.length y32)) ≤ 274877906944)) (
      let x2 := ((r448 ++ (82 :: [])) ++ y32)
      cond (decide (((List.length x2) + (List.length y31)) ≤ 274877906944)) (
       (F33.F y31).bind fun y33 =>
       (F32.F y33).bind fun y32x2 =>
       let x0 := (x2 ++ y31)
       cond (decide (((List.length x0) + (List.length y32x2)) ≤ 274877906944)) (
        some (.inl (v22, (Go.IntKind.wrap (Go.IntKind.i64 ) (v23 + 1)), r0, (x0 ++ y32x2)))) none) none) none) none) none) (
   some (.inr (r0, r448)))
noncomputable def l0 (x : Int × Int × (List S53) × (List Int)) : Option (((List S53) × (List Int))) := lim l0.b x
theorem l0.eq : ∀ x, l0.b x = roundX (mkE tab es 54 [] []) (loopAt 0 code) (cutOf l0.A l0.c) (cutsOf l0.xs l0.y) x := fun x => by kernel_rfl
theorem l0.owed {R : Type} : owed (mkE (R := R) tab es 54 [] []) (loopAt 0 code) = [] := by kernel_rfl
theorem l0.ok (w0 : World) (M : Own) (h : Pinned M []) {R : Type} : SoundO prog w0 M 54 (.block 0 (.loop (loopAt 0 code))) (loopO (R := R) 0 (cutOf l0.A l0.c) (cutsOf l0.xs l0.y) l0) :=
  loop_ok tabOk uniOk mixed l0.eq (h.sub rfl) (h.sub rfl) fun x hx => by rw [l0.owed] at hx; exact absurd hx List.not_mem_nil

noncomputable def F : (List S53) → Option (((List Int) × Int))
  | p0 =>
  (F26.F p0).bind fun y26 =>
  cond (y26.2.1 != 0) (
   some (([] : List Int), y26.2.1)) (
   (l0 (((List.length p0) : Int), 0, p0, (80 :: (65 :: (82 :: (84 :: (1 :: []))))))).bind fun yl0 =>
   cond (decide (((List.length yl0.2) + (List.length (69 :: []))) ≤ 274877906944)) (
    (F32.F ((List.length yl0.1) : Int)).bind fun y32 =>
    cond (decide (((List.length (yl0.2 ++ (69 :: []))) + (List.length y32)) ≤ 274877906944)) (
     some (((yl0.2 ++ (69 :: [])) ++ y32), 0)) none) none)
theorem F.eq : ∀ x, F x = runF (mkE tab es 54 [(0, some (loopO 0 (cutOf l0.A l0.c) (cutsOf l0.xs l0.y) l0))] []) code [.row 2 0] [.row 3, .sc] [.tmp 2, .tmp 3] (Coz.dec cr) (cp.enc x) := fun x => by kernel_rfl
theorem F.owed : owed (mkE (R := ((List Int) × Int)) tab es 54 [(0, some (loopO 0 (cutOf l0.A l0.c) (cutsOf l0.xs l0.y) l0))] []) code = [((.block 0 (.loop (loopAt 0 code))), (loopO (R := _) 0 (cutOf l0.A l0.c) (cutsOf l0.xs l0.y) l0))] := by kernel_rfl
theorem con : ∀ x y, F x = some y → Con prog 16 [.row 2 0] [.row 3, .sc] (cp.enc x) (cr.enc y).1 (cr.enc y).2 :=
  func_ok (c := code) (n := 54) (pf := [.row 2 0]) (res := [.tmp 2, .tmp 3]) tabOk uniOk mixed get (by kernel_rfl) (by kernel_rfl) (by kernel_rfl) (by decide) F.eq fun w0 M h x hx => by rw [F.owed] at hx; rcases List.mem_cons.1 hx with rfl | hx; exact l0.ok w0 M h; exact absurd hx List.not_mem_nil
noncomputable def ent : Ent prog uni := Ent.of 16 [.row 2 0] [.row 3, .sc] cp cr F con fun args w => enters_of get (by kernel_rfl) rfl args w
end Go.Proofs.YtiogkndjoinpoaaDoor.AX.F16

/- The function 17 of the program in the small machine. No conditions. -/
namespace Go.Proofs.YtiogkndjoinpoaaDoor.AX.F17
open Go Go.Proofs.Tryd
noncomputable def code : Code := bodyOf f17
abbrev Y : Type := Bool
def cp : Cod uni ((List Int) × (List Int)) := (codC (iRow 3) (cod1 (iRow 3)))
def cr : Coz uni Bool := (cozR (cod1 iBool) (codD (codD cod0)))
noncomputable def es : List (Ent prog uni) := []
theorem get : prog.funcs[17]? = some f17 := by kernel_rfl

def l0.A : Ann := ⟨[(0, .slc 5000000 []), (1, .slc 5000064 []), (5, .sc)], [], [(5000000, false, 3), (5000064, false, 3)], []⟩
def l0.c : Cod uni (Int × (List Int) × (List Int)) := (codC (iInt .i64) (codC (iRow 3) (cod1 (iRow 3))))
def l0.xs : List (AExit × Ann) := [(.ret, ⟨[(4, .sc)], [], [], []⟩), ((.exit 0), ⟨[], [], [], []⟩)]
def l0.y : Coy uni (Bool ⊕ Unit) := (coyS (cod1 iBool) (coy1 cod0))
noncomputable def l0.b : Int × (List Int) × (List Int) → Option ((Int × (List Int) × (List Int)) ⊕ (Bool ⊕ Unit))
  | (v5, r0, r64) =>
  let x0 := (decide (v5 < ((List.length r0) : Int)))
  cond x0 (
   cond ((decide (0 ≤ v5)) && x0) (
    cond ((decide (0 ≤ v5)) && (decide (v5 < ((List.length r64) : Int)))) (
     cond ((List.getD r0 (Int.toNat v5) 0) != (List.getD r64 (Int.toNat v5) 0)) (
      some (.inr (.inl false))) (
      some (.inl ((Go.IntKind.wrap (Go.IntKind.i64 ) (v5 + 1)), r0, r64)))) none) none) (
   some (.inr (.inr ())))
noncomputable def l0 (x : Int × (List Int) × (List Int)) : Option (Bool ⊕ Unit) := lim l0.b x
theorem l0.eq : ∀ x, l0.b x = roundX (mkE tab es 26 [] []) (loopAt 0 code) (cutOf l0.A l0.c) (cutsOf l0.xs l0.y) x := fun x => by kernel_rfl
theorem l0.owed {R : Type} : owed (mkE (R := R) tab es 26 [] []) (loopAt 0 code) = [] := by kernel_rfl
theorem l0.ok (w0 : World) (M : Own) (h : Pinned M []) {R : Type} : SoundO prog w0 M 26 (.block 0 (.loop (loopAt 0 code))) (loopO (R := R) 0 (cutOf l0.A l0.c) (cutsOf l0.xs l0.y) l0) :=
  loop_ok tabOk uniOk mixed l0.eq (h.sub rfl) (h.sub rfl) fun x hx => by rw [l0.owed] at hx; exact absurd hx List.not_mem_nil

noncomputable def F : ((List Int) × (List Int)) → Option (Bool)
  | (p0, p1) =>
  cond (((List.length p0) : Int) != ((List.length p1) : Int)) (
   some false) (
   (l0 (0, p0, p1)).bind fun q => match q with
   | (.inl yl0) =>
    some yl0
   | (.inr yl0) =>
    some true)
theorem F.eq : ∀ x, F x = runF (mkE tab es 26 [(0, some (loopO 0 (cutOf l0.A l0.c) (cutsOf l0.xs l0.y) l0))] []) code [.row 3 0, .row 3 0] [.sc] [.tmp 4] (Coz.dec cr) (cp.enc x) := fun x => by kernel_rfl
theorem F.owed : owed (mkE (R := Bool) tab es 26 [(0, some (loopO 0 (cutOf l0.A l0.c) (cutsOf l0.xs l0.y) l0))] []) code = [((.block 0 (.loop (loopAt 0 code))), (loopO (R := _) 0 (cutOf l0.A l0.c) (cutsOf l0.xs l0.y) l0))] := by kernel_rfl
theorem con : ∀ x y, F x = some y → Con prog 17 [.row 3 0, .row 3 0] [.sc] (cp.enc x) (cr.enc y).1 (cr.enc y).2 :=
  func_ok (c := code) (n := 26) (pf := [.row 3 0, .row 3 0]) (res := [.tmp 4]) tabOk uniOk mixed get (by kernel_rfl) (by kernel_rfl) (by kernel_rfl) (by decide) F.eq fun w0 M h x hx => by rw [F.owed] at hx; rcases List.mem_cons.1 hx with rfl | hx; exact l0.ok w0 M h; exact absurd hx List.not_mem_nil
noncomputable def ent : Ent prog uni := Ent.of 17 [.row 3 0, .row 3 0] [.sc] cp cr F con fun args w => enters_of get (by kernel_rfl) rfl args w
end Go.Proofs.YtiogkndjoinpoaaDoor.AX.F17

/- The function 18 of the program in the small machine. No conditions. -/
namespace Go.Proofs.YtiogkndjoinpoaaDoor.AX.F18
open Go Go.Proofs.Tryd
noncomputable def code : Code := bodyOf f18
abbrev Y : Type := (Int × ((List Int) × Unit))
def cp : Cod uni ((List Int) × Int) := (codC (iRow 3) (cod1 (iInt .i64)))
def cr : Coz uni (Int × ((List Int) × Unit)) := (cozRM (cod1 (iInt .i64)) (codC (iRow 3) (codD cod0)))
noncomputable def es : List (Ent prog uni) := []
theorem get : prog.funcs[18]? = some f18 := by kernel_rfl

def l0.A : Ann := ⟨[(0, .slc 4194304 []), (1, .sc), (5, .sc)], [], [(4194304, true, 3)], [4194304]⟩
def l0.c : Cod uni (Int × Int × (List Int)) := (codC (iInt .i64) (codC (iInt .i64) (cod1 (iRow 3))))
def l0.xs : List (AExit × Ann) := [((.exit 0), ⟨[(0, .slc 4194304 []), (1, .sc)], [], [(4194304, true, 3)], [4194304]⟩)]
def l0.y : Coy uni ((Int × (List Int))) := (coy1 (codC (iInt .i64) (cod1 (iRow 3))))
noncomputable def l0.b : Int × Int × (List Int) → Option ((Int × Int × (List Int)) ⊕ ((Int × (List Int))))
  | (v1, v5, r94304) =>
  let x0 := (decide (v5 < ((List.length r94304) : Int)))
  cond x0 (
   cond ((decide (0 ≤ v5)) && x0) (
    some (.inl ((Go.IntKind.wrap (Go.IntKind.i64 ) (v1 + 1)), (Go.IntKind.wrap (Go.IntKind.i64 ) (v5 + 1)), (List.set r94304 (Int.toNat v5) (Go.IntKind.wrap (Go.IntKind.u8 ) v1))))) none) (
   some (.inr (v1, r94304)))
noncomputable def l0 (x : Int × Int × (List Int)) : Option ((Int × (List Int))) := lim l0.b x
theorem l0.eq : ∀ x, l0.b x = roundX (mkE tab es 20 [] []) (loopAt 0 code) (cutOf l0.A l0.c) (cutsOf l0.xs l0.y) x := fun x => by kernel_rfl
theorem l0.owed {R : Type} : owed (mkE (R := R) tab es 20 [] []) (loopAt 0 code) = [] := by kernel_rfl
theorem l0.ok (w0 : World) (M : Own) (h : Pinned M [4194304]) {R : Type} : SoundO prog w0 M 20 (.block 0 (.loop (loopAt 0 code))) (loopO (R := R) 0 (cutOf l0.A l0.c) (cutsOf l0.xs l0.y) l0) :=
  loop_ok tabOk uniOk mixed l0.eq (h.sub rfl) (h.sub rfl) fun x hx => by rw [l0.owed] at hx; exact absurd hx List.not_mem_nil

noncomputable def F : ((List Int) × Int) → Option ((Int × ((List Int) × Unit)))
  | (p0, p1) =>
  (l0 (p1, 0, p0)).bind fun yl0 =>
  some (yl0.1, (yl0.2, ()))
theorem F.eq : ∀ x, F x = runF (mkE tab es 20 [(0, some (loopO 0 (cutOf l0.A l0.c) (cutsOf l0.xs l0.y) l0))] []) code [.row 3 1, .sc] [.sc] [.tmp 4] (Coz.dec cr) (cp.enc x) := fun x => by kernel_rfl
theorem F.owed : owed (mkE (R := (Int × ((List Int) × Unit))) tab es 20 [(0, some (loopO 0 (cutOf l0.A l0.c) (cutsOf l0.xs l0.y) l0))] []) code = [((.block 0 (.loop (loopAt 0 code))), (loopO (R := _) 0 (cutOf l0.A l0.c) (cutsOf l0.xs l0.y) l0))] := by kernel_rfl
theorem con : ∀ x y, F x = some y → Con prog 18 [.row 3 1, .sc] [.sc] (cp.enc x) (cr.enc y).1 (cr.enc y).2 :=
  func_ok (c := code) (n := 20) (pf := [.row 3 1, .sc]) (res := [.tmp 4]) tabOk uniOk mixed get (by kernel_rfl) (by kernel_rfl) (by kernel_rfl) (by decide) F.eq fun w0 M h x hx => by rw [F.owed] at hx; rcases List.mem_cons.1 hx with rfl | hx; exact l0.ok w0 M h; exact absurd hx List.not_mem_nil
noncomputable def ent : Ent prog uni := Ent.of 18 [.row 3 1, .sc] [.sc] cp cr F con fun args w => enters_of get (by kernel_rfl) rfl args w
end Go.Proofs.YtiogkndjoinpoaaDoor.AX.F18

/- The function 19 of the program in the small machine. No conditions. -/
namespace Go.Proofs.YtiogkndjoinpoaaDoor.AX.F19
open Go Go.Proofs.Tryd
noncomputable def code : Code := bodyOf f19
abbrev Y : Type := Int
def cp : Cod uni ((List Int) × Int) := (codC (iRow 3) (cod1 (iInt .i64)))
def cr : Coz uni Int := (cozR (cod1 (iInt .i64)) (codD (codD cod0)))
noncomputable def es : List (Ent prog uni) := []
theorem get : prog.funcs[19]? = some f19 := by kernel_rfl

def l0.A : Ann := ⟨[(0, .slc 5000000 []), (1, .sc), (5, .sc)], [], [(5000000, false, 3)], []⟩
def l0.c : Cod uni (Int × Int × (List Int)) := (codC (iInt .i64) (codC (iInt .i64) (cod1 (iRow 3))))
def l0.xs : List (AExit × Ann) := [(.ret, ⟨[(4, .sc)], [], [], []⟩), ((.exit 0), ⟨[(1, .sc)], [], [], []⟩)]
def l0.y : Coy uni (Int ⊕ Int) := (coyS (cod1 (iInt .i64)) (coy1 (cod1 (iInt .i64))))
noncomputable def l0.b : Int × Int × (List Int) → Option ((Int × Int × (List Int)) ⊕ (Int ⊕ Int))
  | (v1, v5, r0) =>
  let x0 := (decide (v5 < ((List.length r0) : Int)))
  cond x0 (
   cond ((decide (0 ≤ v5)) && x0) (
    cond ((List.getD r0 (Int.toNat v5) 0) != (Go.IntKind.wrap (Go.IntKind.u8 ) v1)) (
     some (.inr (.inl (-1)))) (
     some (.inl ((Go.IntKind.wrap (Go.IntKind.i64 ) (v1 + 1)), (Go.IntKind.wrap (Go.IntKind.i64 ) (v5 + 1)), r0)))) none) (
   some (.inr (.inr v1)))
noncomputable def l0 (x : Int × Int × (List Int)) : Option (Int ⊕ Int) := lim l0.b x
theorem l0.eq : ∀ x, l0.b x = roundX (mkE tab es 22 [] []) (loopAt 0 code) (cutOf l0.A l0.c) (cutsOf l0.xs l0.y) x := fun x => by kernel_rfl
theorem l0.owed {R : Type} : owed (mkE (R := R) tab es 22 [] []) (loopAt 0 code) = [] := by kernel_rfl
theorem l0.ok (w0 : World) (M : Own) (h : Pinned M []) {R : Type} : SoundO prog w0 M 22 (.block 0 (.loop (loopAt 0 code))) (loopO (R := R) 0 (cutOf l0.A l0.c) (cutsOf l0.xs l0.y) l0) :=
  loop_ok tabOk uniOk mixed l0.eq (h.sub rfl) (h.sub rfl) fun x hx => by rw [l0.owed] at hx; exact absurd hx List.not_mem_nil

noncomputable def F : ((List Int) × Int) → Option (Int)
  | (p0, p1) =>
  (l0 (p1, 0, p0)).bind fun q => match q with
  | (.inl yl0) =>
   some yl0
  | (.inr yl0) =>
   some yl0
theorem F.eq : ∀ x, F x = runF (mkE tab es 22 [(0, some (loopO 0 (cutOf l0.A l0.c) (cutsOf l0.xs l0.y) l0))] []) code [.row 3 0, .sc] [.sc] [.tmp 4] (Coz.dec cr) (cp.enc x) := fun x => by kernel_rfl
theorem F.owed : owed (mkE (R := Int) tab es 22 [(0, some (loopO 0 (cutOf l0.A l0.c) (cutsOf l0.xs l0.y) l0))] []) code = [((.block 0 (.loop (loopAt 0 code))), (loopO (R := _) 0 (cutOf l0.A l0.c) (cutsOf l0.xs l0.y) l0))] := by kernel_rfl
theorem con : ∀ x y, F x = some y → Con prog 19 [.row 3 0, .sc] [.sc] (cp.enc x) (cr.enc y).1 (cr.enc y).2 :=
  func_ok (c := code) (n := 22) (pf := [.row 3 0, .sc]) (res := [.tmp 4]) tabOk uniOk mixed get (by kernel_rfl) (by kernel_rfl) (by kernel_rfl) (by decide) F.eq fun w0 M h x hx => by rw [F.owed] at hx; rcases List.mem_cons.1 hx with rfl | hx; exact l0.ok w0 M h; exact absurd hx List.not_mem_nil
noncomputable def ent : Ent prog uni := Ent.of 19 [.row 3 0, .sc] [.sc] cp cr F con fun args w => enters_of get (by kernel_rfl) rfl args w
end Go.Proofs.YtiogkndjoinpoaaDoor.AX.F19

/- The function 4 of the program in the small machine. No conditions. -/
namespace Go.Proofs.YtiogkndjoinpoaaDoor.AX.F4
open Go Go.Proofs.Tryd
noncomputable def code : Code := bodyOf f4
abbrev Y : Type := Bool
def cp : Cod uni (List S45) := (cod1 (iRow 0))
def cr : Coz uni Bool := (cozR (cod1 iBool) (codD cod0))
noncomputable def es : List (Ent prog uni) := [F6.ent, F8.ent, F15.ent, F16.ent, F17.ent, F11.ent, F12.ent, F18.ent, F19.ent]
theorem get : prog.funcs[4]? = some f4 := by kernel_rfl

noncomputable def F : (List S45) → Option (Bool)
  | p0 =>
  (F6.F (p0, 1048576)).bind fun y6 =>
  cond (decide (y6 < 0)) (
   some true) (
   (F8.F p0).bind fun y8 =>
   (F15.F y8).bind fun y15 =>
   (F8.F p0).bind fun y8x2 =>
   (F16.F y8x2).bind fun y16 =>
   let x0 := (F17.F (y16.1, y15.1))
   x0.bind fun y17 =>
   cond ((!y17) || (y16.2 != y15.2)) (
    some false) (
    (F8.F p0).bind fun y8x3 =>
    (F11.F (y8x2, y8x3)).bind fun y11 =>
    cond (!y11) (
     some false) (
     (F12.F (y8x2, 1)).bind fun y12 =>
     cond (!(decide (y12.1 < 0))) (
      x0.bind fun y17x2 =>
      cond (((decide (y12.1 < 0)) || (!y17x2)) || (y16.2 != y15.2)) (
       some false) (
       (F18.F (y16.1, 1)).bind fun y18 =>
       (F19.F (y18.2.1, 1)).bind fun y19 =>
       cond (decide (y19 < 0)) (
        some false) (
        cond (y19 != y18.1) (
         some false) (
         (F8.F p0).bind fun y8x4 =>
         (F16.F y8x4).bind fun y16x2 =>
         (F17.F (y16x2.1, y15.1)).bind fun y17x3 =>
         cond ((!y17x3) || (y16x2.2 != y15.2)) (
          some false) (
          (F19.F (y18.2.1, 1)).bind fun y19x2 =>
          cond (decide (y19x2 < 0)) (
           some false) (
           cond (y19x2 != y18.1) (
            some false) (
            some true))))))) (
      cond (((decide (y12.1 < 0)) || true) || (y16.2 != y15.2)) (
       some false) (
       (F18.F (y16.1, 1)).bind fun y18 =>
       (F19.F (y18.2.1, 1)).bind fun y19 =>
       cond (decide (y19 < 0)) (
        some false) (
        cond (y19 != y18.1) (
         some false) (
         (F8.F p0).bind fun y8x4 =>
         (F16.F y8x4).bind fun y16x2 =>
         (F17.F (y16x2.1, y15.1)).bind fun y17x2 =>
         cond ((!y17x2) || (y16x2.2 != y15.2)) (
          some false) (
          (F19.F (y18.2.1, 1)).bind fun y19x2 =>
          cond (decide (y19x2 < 0)) (
           some false) (
           cond (y19x2 != y18.1) (
            some false) (
            some true))))))))))
theorem F.eq : ∀ x, F x = runF (mkE tab es 96 [] []) code [.row 0 0] [.sc] [.tmp 2] (Coz.dec cr) (cp.enc x) := fun x => by kernel_rfl
theorem F.owed : owed (mkE (R := Bool) tab es 96 [] []) code = [] := by kernel_rfl
theorem con : ∀ x y, F x = some y → Con prog 4 [.row 0 0] [.sc] (cp.enc x) (cr.enc y).1 (cr.enc y).2 :=
  func_ok (c := code) (n := 96) (pf := [.row 0 0]) (res := [.tmp 2]) tabOk uniOk mixed get (by kernel_rfl) (by kernel_rfl) (by kernel_rfl) (by decide) F.eq fun w0 M h x hx => by rw [F.owed] at hx; exact absurd hx List.not_mem_nil
noncomputable def ent : Ent prog uni := Ent.of 4 [.row 0 0] [.sc] cp cr F con fun args w => enters_of get (by kernel_rfl) rfl args w
end Go.Proofs.YtiogkndjoinpoaaDoor.AX.F4

/- Files of features: the program and its reference write the same bytes. No conditions. -/
namespace Go.Proofs.YtiogkndjoinpoaaDoor.AX
open Go

/-- Octets. -/
def Oct (l : List Int) : Prop := ∀ x ∈ l, 0 ≤ x ∧ x ≤ 255
theorem Oct.app {a b : List Int} (h : Oct a) (h' : Oct b) : Oct (a ++ b) := fun x hx => by
  rcases List.mem_append.1 hx with q | q
  · exact h x q
  · exact h' x q
theorem wu8 (x : Int) : 0 ≤ IntKind.wrap .u8 x ∧ IntKind.wrap .u8 x ≤ 255 := by
  simp [IntKind.wrap, IntKind.signed, IntKind.bits]; omega
theorem bytesI_oct (s : ByteArray) : Oct (bytesI s) := fun x hx => by
  unfold bytesI at hx
  obtain ⟨b, _, rfl⟩ := List.mem_map.1 hx
  have := UInt8.toNat_lt b
  omega
theorem bytesI_len (s : ByteArray) : (bytesI s).length = s.size := by unfold bytesI; rw [List.length_map, Array.length_toList]; rfl
theorem bytesI_app (s t : ByteArray) : bytesI (s ++ t) = bytesI s ++ bytesI t := by
  unfold bytesI
  rw [ByteArray.data_append, Array.toList_append, List.map_append]

/-- The sum. -/
def sm (a : Int × Int) (c : Int) : Int × Int := (Int.tmod (IntKind.wrap .i64 (a.1 + IntKind.wrap .i64 c)) 251, Int.tmod (IntKind.wrap .i64 (a.2 + Int.tmod (IntKind.wrap .i64 (a.1 + IntKind.wrap .i64 c)) 251)) 251)
def sumR (bs : List Int) : Int := IntKind.wrap .i64 (IntKind.wrap .i64 (256 * (bs.foldl sm (1, 0)).2) + (bs.foldl sm (1, 0)).1)
theorem tm251 {x : Int} (h : 0 ≤ x) : 0 ≤ Int.tmod x 251 ∧ Int.tmod x 251 < 251 := ⟨Int.tmod_nonneg 251 h, Int.tmod_lt_of_pos x (by omega)⟩
theorem sm_bd {a : Int × Int} {c : Int} (h : 0 ≤ a.1 ∧ a.1 < 251 ∧ 0 ≤ a.2 ∧ a.2 < 251) (hc : 0 ≤ c ∧ c ≤ 255) : 0 ≤ (sm a c).1 ∧ (sm a c).1 < 251 ∧ 0 ≤ (sm a c).2 ∧ (sm a c).2 < 251 := by
  unfold sm
  have w1 : IntKind.wrap .i64 c = c := w64 (by omega) (by omega)
  have w2 : IntKind.wrap .i64 (a.1 + c) = a.1 + c := w64 (by omega) (by omega)
  rw [w1, w2]
  have m1 := tm251 (x := a.1 + c) (by omega)
  have w3 : IntKind.wrap .i64 (a.2 + Int.tmod (a.1 + c) 251) = a.2 + Int.tmod (a.1 + c) 251 := w64 (by omega) (by omega)
  dsimp only
  rw [w3]
  have m2 := tm251 (x := a.2 + Int.tmod (a.1 + c) 251) (by omega)
  exact ⟨m1.1, m1.2, m2.1, m2.2⟩
theorem fold_bd : ∀ {bs : List Int} {a : Int × Int}, Oct bs → (0 ≤ a.1 ∧ a.1 < 251 ∧ 0 ≤ a.2 ∧ a.2 < 251) → 0 ≤ (bs.foldl sm a).1 ∧ (bs.foldl sm a).1 < 251 ∧ 0 ≤ (bs.foldl sm a).2 ∧ (bs.foldl sm a).2 < 251
  | [], a, _, h => h
  | c :: bs, a, ho, h => fold_bd (bs := bs) (fun x hx => ho x (by simp [hx])) (sm_bd h (ho c (by simp)))
theorem sumR_bd {bs : List Int} (ho : Oct bs) : 0 ≤ sumR bs ∧ sumR bs < 65536 := by
  have h := fold_bd (a := (1, 0)) ho (by decide)
  unfold sumR
  rw [w64 (x := 256 * _) (by omega) (by omega), w64 (by omega) (by omega)]
  omega

theorem F44.ok (bs : List Int) (hl : bs.length ≤ 1000000) : F44.F bs = some (sumR bs) := by
  have l0 : F44.l0 (1, 0, 0, bs) = some (bs.foldl sm (1, 0)) :=
    lim_fold (f := F44.l0.b) (fun (i : Nat) (a : Int × Int) => (a.1, a.2, (i : Int), bs)) bs 0 sm (fun _ => True) (z := fun a => a) (1, 0) trivial (fun _ _ _ _ => trivial) (fun i a hi _ => by
      have d1 : decide ((i : Int) < (bs.length : Int)) = true := dT (by omega)
      have d2 : decide ((0 : Int) ≤ (i : Int)) = true := dT (by omega)
      have w : Go.IntKind.wrap .i64 ((i : Int) + 1) = ((i + 1 : Nat) : Int) := by rw [w64 (by omega) (by omega)]; rfl
      simp only [F44.l0.b, d1, d2, Bool.and_self, cT, Int.toNat_natCast, w, sm])
      (fun a _ => by
        have d1 : decide ((bs.length : Int) < (bs.length : Int)) = false := dF (by omega)
        simp only [F44.l0.b, d1, cF])
  simp only [F44.F, l0, bS, sumR]
theorem F33.ok (bs : List Int) (hl : bs.length ≤ 65536) : F33.F bs = some (sumR bs) := by
  have l0 : F33.l0 (1, 0, (bs.length : Int), 0, bs) = some (bs.foldl sm (1, 0)) :=
    lim_fold (f := F33.l0.b) (fun (i : Nat) (a : Int × Int) => (a.1, a.2, (bs.length : Int), (i : Int), bs)) bs 0 sm (fun _ => True) (z := fun a => a) (1, 0) trivial (fun _ _ _ _ => trivial) (fun i a hi _ => by
      have d1 : decide ((i : Int) < (bs.length : Int)) = true := dT (by omega)
      have d2 : decide ((0 : Int) ≤ (i : Int)) = true := dT (by omega)
      have w : Go.IntKind.wrap .i64 ((i : Int) + 1) = ((i + 1 : Nat) : Int) := by rw [w64 (by omega) (by omega)]; rfl
      simp only [F33.l0.b, d1, d2, Bool.and_self, cT, Int.toNat_natCast, w, sm])
      (fun a _ => by
        have d1 : decide ((bs.length : Int) < (bs.length : Int)) = false := dF (by omega)
        simp only [F33.l0.b, d1, cF])
  have d0 : decide ((bs.length : Int) > 65536) = false := dF (by omega)
  simp only [F33.F, d0, cF, l0, bS, sumR]

/-- Two bytes. -/
def two (n : Int) : List Int := [IntKind.wrap .u8 (Int.fdiv n 256), IntKind.wrap .u8 n]
theorem two_oct (n : Int) : Oct (two n) := fun x hx => by
  unfold two at hx
  rcases List.mem_cons.1 hx with rfl | hx
  · exact wu8 _
  · rcases List.mem_cons.1 hx with rfl | hx
    · exact wu8 _
    · cases hx
theorem F32.ok (n : Int) : F32.F n = some (two n) := rfl
theorem F30.ok {n : Int} (h : 0 ≤ n) (h' : n ≤ 1000000000) : F30.F n = some (two n) := by
  have e1 : Int.tdiv n 256 = Int.fdiv n 256 := by rw [Int.tdiv_eq_ediv_of_nonneg h, Int.fdiv_eq_ediv_of_nonneg _ (by omega)]
  have e2 : IntKind.wrap .i64 (Int.fdiv n 256) = Int.fdiv n 256 := by
    rw [Int.fdiv_eq_ediv_of_nonneg _ (by omega)]
    exact w64 (by omega) (by omega)
  have e3 : IntKind.wrap .u8 (Int.tmod n 256) = IntKind.wrap .u8 n := by
    rw [Int.tmod_eq_emod_of_nonneg h]
    simp [IntKind.wrap, IntKind.signed, IntKind.bits]
  simp only [F30.F, e1, e2, e3, two]

/-- A record's bytes. -/
def wr (n : Int) : Int := IntKind.wrap .u8 (IntKind.wrap .i64 (n + 100))
def nine (x : S53) : List Int := [x.f5, x.f6, x.f7, x.f8, x.f9, x.f10, x.f12, x.f13, x.f14]
def hd3 (x : S53) : List Int := [IntKind.wrap .u8 x.f3, IntKind.wrap .u8 x.f4, IntKind.wrap .u8 x.f11]
def szs (x : S53) : List Int := [IntKind.wrap .u8 (x.f0.size : Int), IntKind.wrap .u8 (x.f1.size : Int), IntKind.wrap .u8 (x.f2.size : Int)]
def body (x : S53) : List Int := hd3 x ++ (nine x).map wr ++ szs x ++ bytesI x.f0 ++ bytesI x.f1 ++ bytesI x.f2
def smallN (x : S53) : Prop := x.f0.size ≤ 100 ∧ x.f1.size ≤ 100 ∧ x.f2.size ≤ 100
theorem body_len (x : S53) : (body x).length = 15 + x.f0.size + x.f1.size + x.f2.size := by
  unfold body
  simp only [List.length_append, bytesI_len, List.length_map]
  simp [hd3, nine, szs]
theorem body_oct (x : S53) : Oct (body x) := by
  unfold body
  refine Oct.app (Oct.app (Oct.app (Oct.app (Oct.app ?_ ?_) ?_) (bytesI_oct _)) (bytesI_oct _)) (bytesI_oct _)
  · intro y hy
    simp only [hd3, List.mem_cons, List.not_mem_nil, or_false] at hy
    rcases hy with rfl | rfl | rfl <;> exact wu8 _
  · intro y hy
    obtain ⟨z, _, rfl⟩ := List.mem_map.1 hy
    exact wu8 _
  · intro y hy
    simp only [szs, List.mem_cons, List.not_mem_nil, or_false] at hy
    rcases hy with rfl | rfl | rfl <;> exact wu8 _

theorem F31.l0_ok (x : S53) : F31.l0 (((nine x).length : Int), 0, x.f0, x.f1, x.f2, x.f3, x.f4, x.f5, x.f6, x.f7, x.f8, x.f9, x.f10, x.f11, x.f12, x.f13, x.f14, hd3 x, nine x) = some (x.f0, x.f1, x.f2, x.f3, x.f4, x.f5, x.f6, x.f7, x.f8, x.f9, x.f10, x.f11, x.f12, x.f13, x.f14, hd3 x ++ (nine x).map wr) := by
  have hn : (nine x).length = 9 := rfl
  have hz : hd3 x ++ ((nine x).take 0).map wr = hd3 x := by simp
  conv => lhs; rw [← hz]
  exact lim_run (f := F31.l0.b) (fun i => (((nine x).length : Int), (i : Int), x.f0, x.f1, x.f2, x.f3, x.f4, x.f5, x.f6, x.f7, x.f8, x.f9, x.f10, x.f11, x.f12, x.f13, x.f14, hd3 x ++ ((nine x).take i).map wr, nine x)) (nine x).length
    (y := (x.f0, x.f1, x.f2, x.f3, x.f4, x.f5, x.f6, x.f7, x.f8, x.f9, x.f10, x.f11, x.f12, x.f13, x.f14, hd3 x ++ (nine x).map wr)) (fun i hi => by
      have d1 : decide ((i : Int) < ((nine x).length : Int)) = true := dT (by omega)
      have d2 : decide ((0 : Int) ≤ (i : Int)) = true := dT (by omega)
      have w : Go.IntKind.wrap .i64 ((i : Int) + 1) = ((i + 1 : Nat) : Int) := by rw [w64 (by omega) (by omega)]; rfl
      have hl : (hd3 x ++ ((nine x).take i).map wr).length ≤ 12 := by simp [hd3]; omega
      have e := map_take_succ (f := wr) (d := 0) hi
      have e' : hd3 x ++ ((nine x).take i).map wr ++ (IntKind.wrap .u8 (IntKind.wrap .i64 ((nine x).getD i 0 + 100)) :: []) = hd3 x ++ ((nine x).take (i + 1)).map wr := by rw [← e, List.append_assoc]; rfl
      have d3 : decide ((hd3 x ++ ((nine x).take i).map wr).length + (IntKind.wrap .u8 (IntKind.wrap .i64 ((nine x).getD i 0 + 100)) :: []).length ≤ 274877906944) = true := dT (by simp only [List.length_cons, List.length_nil]; omega)
      simp only [F31.l0.b, d1, d2, Bool.and_self, cT, Int.toNat_natCast, w, d3, e'])
    (by
      have d1 : decide (((nine x).length : Int) < ((nine x).length : Int)) = false := dF (by omega)
      simp only [F31.l0.b, d1, cF, List.take_length])

def tx3 (x : S53) : List ByteArray := [x.f0, x.f1, x.f2]
def wsz (t : ByteArray) : Int := IntKind.wrap .u8 (t.size : Int)
theorem F31.l2_ok (x : S53) (hd : List Int) (hh : hd.length ≤ 100) : F31.l2 (((tx3 x).length : Int), 0, x.f0, x.f1, x.f2, x.f3, x.f4, x.f5, x.f6, x.f7, x.f8, x.f9, x.f10, x.f11, x.f12, x.f13, x.f14, hd, tx3 x) = some (x.f0, x.f1, x.f2, x.f3, x.f4, x.f5, x.f6, x.f7, x.f8, x.f9, x.f10, x.f11, x.f12, x.f13, x.f14, hd ++ szs x) := by
  have hn : (tx3 x).length = 3 := rfl
  have hz : hd ++ ((tx3 x).take 0).map wsz = hd := by simp
  have hs : szs x = (tx3 x).map wsz := rfl
  rw [hs]
  conv => lhs; rw [← hz]
  exact lim_run (f := F31.l2.b) (fun i => (((tx3 x).length : Int), (i : Int), x.f0, x.f1, x.f2, x.f3, x.f4, x.f5, x.f6, x.f7, x.f8, x.f9, x.f10, x.f11, x.f12, x.f13, x.f14, hd ++ ((tx3 x).take i).map wsz, tx3 x)) (tx3 x).length
    (y := (x.f0, x.f1, x.f2, x.f3, x.f4, x.f5, x.f6, x.f7, x.f8, x.f9, x.f10, x.f11, x.f12, x.f13, x.f14, hd ++ (tx3 x).map wsz)) (fun i hi => by
      have d1 : decide ((i : Int) < ((tx3 x).length : Int)) = true := dT (by omega)
      have d2 : decide ((0 : Int) ≤ (i : Int)) = true := dT (by omega)
      have w : Go.IntKind.wrap .i64 ((i : Int) + 1) = ((i + 1 : Nat) : Int) := by rw [w64 (by omega) (by omega)]; rfl
      have hl : (hd ++ ((tx3 x).take i).map wsz).length ≤ 103 := by simp; omega
      have e := map_take_succ (f := wsz) (d := E0) hi
      have e' : hd ++ ((tx3 x).take i).map wsz ++ (IntKind.wrap .u8 (((tx3 x).getD i E0).size : Int) :: []) = hd ++ ((tx3 x).take (i + 1)).map wsz := by rw [← e, List.append_assoc]; rfl
      have d3 : decide ((hd ++ ((tx3 x).take i).map wsz).length + (IntKind.wrap .u8 (((tx3 x).getD i E0).size : Int) :: []).length ≤ 274877906944) = true := dT (by simp only [List.length_cons, List.length_nil]; omega)
      have hE : (ByteArray.mk (Array.mk ([] : List UInt8))) = E0 := rfl
      simp only [F31.l2.b, d1, d2, Bool.and_self, cT, Int.toNat_natCast, w, hE, d3, e'])
    (by
      have d1 : decide (((tx3 x).length : Int) < ((tx3 x).length : Int)) = false := dF (by omega)
      simp only [F31.l2.b, d1, cF, List.take_length])

theorem F31.ok (x : S53) (h : smallN x) : F31.F (x.f0, x.f1, x.f2, x.f3, x.f4, x.f5, x.f6, x.f7, x.f8, x.f9, x.f10, x.f11, x.f12, x.f13, x.f14) = some (body x) := by
  obtain ⟨h0, h1, h2⟩ := h
  have l0 := F31.l0_ok x
  have e1 : (hd3 x ++ (nine x).map wr).length = 12 := rfl
  have l2 := F31.l2_ok x (hd3 x ++ (nine x).map wr) (by omega)
  have e2 : (hd3 x ++ (nine x).map wr ++ szs x).length = 15 := rfl
  have b0 := bytesI_len x.f0
  have b1 := bytesI_len x.f1
  have b2 := bytesI_len x.f2
  have d1 : decide ((hd3 x ++ (nine x).map wr ++ szs x).length + (bytesI x.f0).length ≤ 274877906944) = true := dT (by omega)
  have d2 : decide ((hd3 x ++ (nine x).map wr ++ szs x ++ bytesI x.f0).length + (bytesI x.f1).length ≤ 274877906944) = true := dT (by rw [List.length_append]; omega)
  have d3 : decide ((hd3 x ++ (nine x).map wr ++ szs x ++ bytesI x.f0 ++ bytesI x.f1).length + (bytesI x.f2).length ≤ 274877906944) = true := dT (by rw [List.length_append, List.length_append]; omega)
  unfold nine hd3 at l0
  unfold tx3 nine hd3 at l2
  unfold body
  unfold nine hd3 at d1 d2 d3 ⊢
  simp only [F31.F, l0, bS, l2, d1, d2, d3, cT]

theorem F29.l0_ok (x : S53) : F29.l0 (0, x.f0, x.f1, x.f2, x.f3, x.f4, x.f5, x.f6, x.f7, x.f8, x.f9, x.f10, x.f11, x.f12, x.f13, x.f14, hd3 x, nine x) = some (x.f0, x.f1, x.f2, x.f3, x.f4, x.f5, x.f6, x.f7, x.f8, x.f9, x.f10, x.f11, x.f12, x.f13, x.f14, hd3 x ++ (nine x).map wr) := by
  have hn : (nine x).length = 9 := rfl
  have hz : hd3 x ++ ((nine x).take 0).map wr = hd3 x := by simp
  conv => lhs; rw [← hz]
  exact lim_run (f := F29.l0.b) (fun i => ((i : Int), x.f0, x.f1, x.f2, x.f3, x.f4, x.f5, x.f6, x.f7, x.f8, x.f9, x.f10, x.f11, x.f12, x.f13, x.f14, hd3 x ++ ((nine x).take i).map wr, nine x)) (nine x).length
    (y := (x.f0, x.f1, x.f2, x.f3, x.f4, x.f5, x.f6, x.f7, x.f8, x.f9, x.f10, x.f11, x.f12, x.f13, x.f14, hd3 x ++ (nine x).map wr)) (fun i hi => by
      have d1 : decide ((i : Int) < ((nine x).length : Int)) = true := dT (by omega)
      have d2 : decide ((0 : Int) ≤ (i : Int)) = true := dT (by omega)
      have w : Go.IntKind.wrap .i64 ((i : Int) + 1) = ((i + 1 : Nat) : Int) := by rw [w64 (by omega) (by omega)]; rfl
      have hl : (hd3 x ++ ((nine x).take i).map wr).length ≤ 12 := by simp [hd3]; omega
      have e := map_take_succ (f := wr) (d := 0) hi
      have e' : hd3 x ++ ((nine x).take i).map wr ++ (IntKind.wrap .u8 (IntKind.wrap .i64 ((nine x).getD i 0 + 100)) :: []) = hd3 x ++ ((nine x).take (i + 1)).map wr := by rw [← e, List.append_assoc]; rfl
      have d3 : decide ((hd3 x ++ ((nine x).take i).map wr).length + (IntKind.wrap .u8 (IntKind.wrap .i64 ((nine x).getD i 0 + 100)) :: []).length ≤ 274877906944) = true := dT (by simp only [List.length_cons, List.length_nil]; omega)
      simp only [F29.l0.b, d1, d2, Bool.and_self, cT, Int.toNat_natCast, w, d3, e'])
    (by
      have d1 : decide (((nine x).length : Int) < ((nine x).length : Int)) = false := dF (by omega)
      simp only [F29.l0.b, d1, cF, List.take_length])

/-- A whole record. -/
def recR (x : S53) : List Int := [82] ++ two ((body x).length : Int) ++ body x ++ two (sumR (body x))
theorem two_len (n : Int) : (two n).length = 2 := rfl
theorem recR_len {x : S53} (h : smallN x) : (recR x).length ≤ 400 := by
  obtain ⟨h0, h1, h2⟩ := h
  unfold recR
  simp only [List.length_append, two_len, body_len, List.length_cons, List.length_nil]
  omega

theorem F29.ok (x : S53) (h : smallN x) : F29.F (x.f0, x.f1, x.f2, x.f3, x.f4, x.f5, x.f6, x.f7, x.f8, x.f9, x.f10, x.f11, x.f12, x.f13, x.f14) = some (recR x) := by
  obtain ⟨h0, h1, h2⟩ := h
  have l0 := F29.l0_ok x
  have hb := body_len x
  have e1 : (hd3 x ++ (nine x).map wr).length = 12 := rfl
  have s1 : (x.f0 ++ x.f1).size = x.f0.size + x.f1.size := ByteArray.size_append
  have s2 : (x.f0 ++ x.f1 ++ x.f2).size = x.f0.size + x.f1.size + x.f2.size := by rw [ByteArray.size_append, s1]
  have hbd : hd3 x ++ (nine x).map wr ++ szs x ++ bytesI (x.f0 ++ x.f1 ++ x.f2) = body x := by
    rw [bytesI_app, bytesI_app]; unfold body; simp only [List.append_assoc]
  have d1 : decide ((hd3 x ++ (nine x).map wr).length + (szs x).length ≤ 274877906944) = true := dT (by rw [e1]; simp [szs])
  have d2 : decide (x.f0.size + x.f1.size ≤ 274877906944) = true := dT (by omega)
  have d3 : decide ((x.f0 ++ x.f1).size + x.f2.size ≤ 274877906944) = true := dT (by omega)
  have d4 : decide ((x.f0 ++ x.f1 ++ x.f2).size ≤ 274877906944) = true := dT (by omega)
  have d5 : decide ((hd3 x ++ (nine x).map wr ++ szs x).length + (bytesI (x.f0 ++ x.f1 ++ x.f2)).length ≤ 274877906944) = true := dT (by
    rw [bytesI_len, show (hd3 x ++ (nine x).map wr ++ szs x).length = 15 from rfl]; omega)
  have f30 := F30.ok (n := ((body x).length : Int)) (by omega) (by omega)
  have hs := sumR_bd (body_oct x)
  have f44 := F44.ok (body x) (by omega)
  have f30' := F30.ok (n := sumR (body x)) hs.1 (by omega)
  have d6 : decide (((82 : Int) :: []).length + (two ((body x).length : Int)).length ≤ 274877906944) = true := dT (by simp [two])
  have d7 : decide (((82 : Int) :: [] ++ two ((body x).length : Int)).length + (body x).length ≤ 274877906944) = true := dT (by rw [List.length_append, two_len]; simp; omega)
  have d8 : decide (((82 : Int) :: [] ++ two ((body x).length : Int) ++ body x).length + (two (sumR (body x))).length ≤ 274877906944) = true := dT (by rw [List.length_append, List.length_append, two_len, two_len]; simp; omega)
  have hu : (Go.IntKind.wrap .u8 x.f3 :: Go.IntKind.wrap .u8 x.f4 :: Go.IntKind.wrap .u8 x.f11 :: []) = hd3 x := rfl
  have hn : (x.f5 :: x.f6 :: x.f7 :: x.f8 :: x.f9 :: x.f10 :: x.f12 :: x.f13 :: x.f14 :: []) = nine x := rfl
  have hz : (Go.IntKind.wrap .u8 (x.f0.size : Int) :: Go.IntKind.wrap .u8 (x.f1.size : Int) :: Go.IntKind.wrap .u8 (x.f2.size : Int) :: []) = szs x := rfl
  simp only [F29.F, hu, hn, l0, bS, hz, d1, d2, d3, d4, d5, cT, hbd, f30, d6, d7, f44, f30', d8]
  rfl

end Go.Proofs.YtiogkndjoinpoaaDoor.AX

/- Files of features: the law, plainly. No conditions. -/
namespace Go.Proofs.YtiogkndjoinpoaaDoor.AX
open Go

theorem name_size {s : ByteArray} (h : nameR s = true) : s.size ≤ 40 := by
  unfold nameR at h
  rw [Bool.and_eq_true, Bool.and_eq_true] at h
  have := of_decide_eq_true h.1.2
  omega
theorem isE_size {s : ByteArray} (h : isE s = true) : s.size = 0 := by
  unfold isE at h
  rw [← beq_toListBytes, MapKept.bytes_beq] at h
  subst h; rfl
theorem feat_small {x : S53} (h : featB x = true) : smallN x := by
  unfold featB at h
  cases hn : nameB x with
  | true => rw [hn] at h; simp at h
  | false =>
    unfold nameB at hn
    simp only [Bool.or_eq_false_iff, Bool.and_eq_false_iff, Bool.not_eq_false'] at hn
    obtain ⟨⟨h0, h1⟩, h2⟩ := hn
    have g0 := name_size h0
    have g1 : x.f1.size ≤ 40 := by
      rcases h1 with h | h
      · have := isE_size h; omega
      · exact name_size h
    have g2 : x.f2.size ≤ 40 := by
      rcases h2 with h | h
      · have := isE_size h; omega
      · exact name_size h
    exact ⟨by omega, by omega, by omega⟩
theorem errR_feat {l : List S53} (h : errR l = none) : ∀ x ∈ l, featB x = true := by
  unfold errR at h
  split at h
  · cases h
  · split at h
    · cases h
    · split at h
      · cases h
      · rename_i u hb
        exact badG_all hb

def hdr : List Int := [80, 65, 82, 84, 1]
/-- A file's bytes. -/
def filR (l : List S53) : List Int := hdr ++ l.flatMap recR ++ [69] ++ two (l.length : Int)
noncomputable def fileR (l : List S53) : List Int × Int := match errR l with
  | some e => ([], e.1)
  | none => (filR l, 0)

theorem fl_len : ∀ {l : List S53}, (∀ x ∈ l, smallN x) → (l.flatMap recR).length ≤ 400 * l.length
  | [], _ => by simp
  | x :: l, h => by
    have h1 := recR_len (h x (by simp))
    have h2 := fl_len (l := l) fun y hy => h y (by simp [hy])
    simp only [List.flatMap_cons, List.length_append, List.length_cons]
    omega
theorem flat_take {l : List S53} {i : Nat} (hi : i < l.length) : (l.take i).flatMap recR ++ recR (l.getD i z53) = (l.take (i + 1)).flatMap recR := by
  rw [← List.take_append_getElem hi, List.flatMap_append, getD_lt hi]
  simp

theorem F16.l0_ok {l : List S53} (hl : l.length ≤ 30) (h : ∀ x ∈ l, smallN x) : F16.l0 ((l.length : Int), 0, l, hdr) = some (l, hdr ++ l.flatMap recR) := by
  have hz : hdr ++ (l.take 0).flatMap recR = hdr := by simp
  conv => lhs; rw [← hz]
  exact lim_run (f := F16.l0.b) (fun i => ((l.length : Int), (i : Int), l, hdr ++ (l.take i).flatMap recR)) l.length (y := (l, hdr ++ l.flatMap recR)) (fun i hi => by
      have d1 : decide ((i : Int) < (l.length : Int)) = true := dT (by omega)
      have d2 : decide ((0 : Int) ≤ (i : Int)) = true := dT (by omega)
      have w : Go.IntKind.wrap .i64 ((i : Int) + 1) = ((i + 1 : Nat) : Int) := by rw [w64 (by omega) (by omega)]; rfl
      have hx : smallN (l.getD i z53) := by rw [getD_lt hi]; exact h _ (List.getElem_mem hi)
      have f31 := F31.ok _ hx
      have hb := body_len (l.getD i z53)
      have hx' := hx
      obtain ⟨x0, x1, x2⟩ := hx'
      have f33 := F33.ok (body (l.getD i z53)) (by omega)
      have hal := fl_len (l := l.take i) fun y hy => h y (List.mem_of_mem_take hy)
      have hal2 : (hdr ++ (l.take i).flatMap recR).length ≤ 20000 := by
        have e1 : (l.take i).length ≤ 30 := by rw [List.length_take]; omega
        have e2 : hdr.length = 5 := rfl
        rw [List.length_append]
        have : 400 * (l.take i).length ≤ 400 * 30 := Nat.mul_le_mul_left _ e1
        omega
      generalize hA : hdr ++ (l.take i).flatMap recR = A at hal2
      have hrec : A ++ (82 :: []) ++ two ((body (l.getD i z53)).length : Int) ++ body (l.getD i z53) ++ two (sumR (body (l.getD i z53))) = hdr ++ (l.take (i + 1)).flatMap recR := by
        rw [← flat_take hi, ← hA]; unfold recR; simp only [List.append_assoc]
      have d3 : decide (A.length + (82 :: []).length ≤ 274877906944) = true := dT (by simp only [List.length_cons, List.length_nil]; omega)
      have d4 : decide ((A ++ ((82 : Int) :: [])).length + (two ((body (l.getD i z53)).length : Int)).length ≤ 274877906944) = true := dT (by rw [List.length_append, two_len]; simp only [List.length_cons, List.length_nil]; omega)
      have d5 : decide ((A ++ ((82 : Int) :: []) ++ two ((body (l.getD i z53)).length : Int)).length + (body (l.getD i z53)).length ≤ 274877906944) = true := dT (by rw [List.length_append, List.length_append, two_len]; simp only [List.length_cons, List.length_nil]; omega)
      have d6 : decide ((A ++ ((82 : Int) :: []) ++ two ((body (l.getD i z53)).length : Int) ++ body (l.getD i z53)).length + (two (sumR (body (l.getD i z53)))).length ≤ 274877906944) = true := dT (by rw [List.length_append, List.length_append, List.length_append, two_len, two_len]; simp only [List.length_cons, List.length_nil]; omega)
      simp only [F16.l0.b, d1, d2, Bool.and_self, cT, Int.toNat_natCast, f31, bS, d3, F32.ok, d4, d5, f33, d6, w, hrec])
    (by
      have d1 : decide ((l.length : Int) < (l.length : Int)) = false := dF (by omega)
      simp only [F16.l0.b, d1, cF, List.take_length])

theorem F15.l0_ok {l : List S53} (hl : l.length ≤ 30) (h : ∀ x ∈ l, smallN x) : F15.l0 (0, l, hdr) = some (l, hdr ++ l.flatMap recR) := by
  have hz : hdr ++ (l.take 0).flatMap recR = hdr := by simp
  conv => lhs; rw [← hz]
  exact lim_run (f := F15.l0.b) (fun i => ((i : Int), l, hdr ++ (l.take i).flatMap recR)) l.length (y := (l, hdr ++ l.flatMap recR)) (fun i hi => by
      have d1 : decide ((i : Int) < (l.length : Int)) = true := dT (by omega)
      have d2 : decide ((0 : Int) ≤ (i : Int)) = true := dT (by omega)
      have w : Go.IntKind.wrap .i64 ((i : Int) + 1) = ((i + 1 : Nat) : Int) := by rw [w64 (by omega) (by omega)]; rfl
      have hx : smallN (l.getD i z53) := by rw [getD_lt hi]; exact h _ (List.getElem_mem hi)
      have f29 := F29.ok _ hx
      have hr := recR_len hx
      have hal := fl_len (l := l.take i) fun y hy => h y (List.mem_of_mem_take hy)
      have hal2 : (hdr ++ (l.take i).flatMap recR).length ≤ 20000 := by
        have e1 : (l.take i).length ≤ 30 := by rw [List.length_take]; omega
        have e2 : hdr.length = 5 := rfl
        rw [List.length_append]
        have : 400 * (l.take i).length ≤ 400 * 30 := Nat.mul_le_mul_left _ e1
        omega
      have d3 : decide ((hdr ++ (l.take i).flatMap recR).length + (recR (l.getD i z53)).length ≤ 274877906944) = true := dT (by omega)
      have e : hdr ++ (l.take i).flatMap recR ++ recR (l.getD i z53) = hdr ++ (l.take (i + 1)).flatMap recR := by rw [← flat_take hi, List.append_assoc]
      simp only [F15.l0.b, d1, d2, Bool.and_self, cT, Int.toNat_natCast, f29, bS, d3, w, e])
    (by
      have d1 : decide ((l.length : Int) < (l.length : Int)) = false := dF (by omega)
      simp only [F15.l0.b, d1, cF, List.take_length])

theorem fil_len {l : List S53} (hl : l.length ≤ 30) (h : ∀ x ∈ l, smallN x) : (hdr ++ l.flatMap recR).length ≤ 20000 := by
  have h1 := fl_len h
  have e2 : hdr.length = 5 := rfl
  rw [List.length_append]
  have : 400 * l.length ≤ 400 * 30 := Nat.mul_le_mul_left _ hl
  omega
theorem fileR_len (l : List S53) : (fileR l).1.length ≤ 30000 := by
  unfold fileR
  cases he : errR l with
  | some e => simp
  | none =>
    have := fil_len (errR_none he).1 fun x hx => feat_small (errR_feat he x hx)
    simp only [filR, List.length_append, two_len, List.length_cons, List.length_nil] at this ⊢
    omega

theorem F16.ok (l : List S53) : F16.F l = some (fileR l) := by
  have f26 := F26.ok l
  unfold fileR
  cases he : errR l with
  | some e =>
    rw [he] at f26
    have q : (e.1 != 0) = true := nT (errR_ne he)
    simp only [F16.F, f26, bS, q, cT]
  | none =>
    rw [he] at f26
    have q : ((0 : Int) != 0) = false := rfl
    obtain ⟨hl, _, _⟩ := errR_none he
    have hs : ∀ x ∈ l, smallN x := fun x hx => feat_small (errR_feat he x hx)
    have l0 := F16.l0_ok hl hs
    have hfl := fil_len hl hs
    have d1 : decide ((hdr ++ l.flatMap recR).length + (69 :: []).length ≤ 274877906944) = true := dT (by simp only [List.length_cons, List.length_nil]; omega)
    have d2 : decide ((hdr ++ l.flatMap recR ++ ((69 : Int) :: [])).length + (two (l.length : Int)).length ≤ 274877906944) = true := dT (by rw [List.length_append, two_len]; simp only [List.length_cons, List.length_nil]; omega)
    unfold filR
    rw [show hdr = (80 :: (65 :: (82 :: (84 :: (1 :: []))))) from rfl] at l0 d1 d2 ⊢
    simp only [F16.F, f26, bS, q, cF, l0, d1, cT, F32.ok, d2]

theorem F15.ok (l : List S53) : F15.F l = some (fileR l) := by
  have f23 := F23.ok l
  unfold fileR
  cases he : errR l with
  | some e =>
    rw [he] at f23
    have q : (e.1 != 0) = true := nT (errR_ne he)
    simp only [F15.F, f23, bS, q, cT]
  | none =>
    rw [he] at f23
    have q : ((0 : Int) != 0) = false := rfl
    obtain ⟨hl, _, _⟩ := errR_none he
    have hs : ∀ x ∈ l, smallN x := fun x hx => feat_small (errR_feat he x hx)
    have l0 := F15.l0_ok hl hs
    have hfl := fil_len hl hs
    have f30 := F30.ok (n := (l.length : Int)) (by omega) (by omega)
    have d1 : decide ((hdr ++ l.flatMap recR).length + (69 :: []).length ≤ 274877906944) = true := dT (by simp only [List.length_cons, List.length_nil]; omega)
    have d2 : decide ((hdr ++ l.flatMap recR ++ ((69 : Int) :: [])).length + (two (l.length : Int)).length ≤ 274877906944) = true := dT (by rw [List.length_append, two_len]; simp only [List.length_cons, List.length_nil]; omega)
    unfold filR
    rw [show hdr = (80 :: (65 :: (82 :: (84 :: (1 :: []))))) from rfl] at l0 d1 d2 ⊢
    simp only [F15.F, f23, bS, q, cF, l0, d1, cT, f30, d2]

/- bytes compared, marked -/
theorem F17.ok (p : List Int) (h : p.length ≤ 1048576) : F17.F (p, p) = some true := by
  have := lim_run (f := F17.l0.b) (fun i => ((i : Int), p, p)) p.length (y := .inr ()) (fun i hi => by
    have d1 : decide ((i : Int) < (p.length : Int)) = true := dT (by omega)
    have d2 : decide ((0 : Int) ≤ (i : Int)) = true := dT (by omega)
    have w : Go.IntKind.wrap .i64 ((i : Int) + 1) = ((i + 1 : Nat) : Int) := by rw [w64 (by omega) (by omega)]; rfl
    simp (disch := rfl) only [F17.l0.b, d1, d2, nF, w, Bool.and_self, cT, cF, bS, Bool.not_true])
    (by
      have d1 : decide ((p.length : Int) < (p.length : Int)) = false := dF (by omega)
      simp (disch := rfl) only [F17.l0.b, d1, cF])
  have n0 : (((p.length : Int)) != (p.length : Int)) = false := nF rfl
  simp only [F17.F, n0, cF]
  exact congrArg (fun q : Option (Bool ⊕ Unit) => q.bind fun q => match q with | .inl y => some y | .inr y => some true) this

def gB (k : Int) (_ : Int) : Int := IntKind.wrap .u8 k
theorem F18.ok (l : List Int) (k : Int) (h : l.length ≤ 1048576) (hk : 0 ≤ k) (hk2 : k ≤ 100000000) : F18.F (l, k) = some (k + (l.length : Int), mkL gB (fun _ => 1) k l, ()) := by
  have := lim_run (f := F18.l0.b) (fun i => (mkK (fun _ => 1) k (l.take i), (i : Int), mkAt gB (fun _ => 1) k l i)) l.length (y := (k + (l.length : Int), mkL gB (fun _ => 1) k l)) (fun i hi => by
    have e := mkAt_set (g := gB) (c := fun _ => 1) (k := k) (d := 0) hi
    have e2 : mkK (fun _ => (1 : Int)) k (l.take i) = k + i := by rw [mkK_const]; simp; omega
    have e3 : mkK (fun _ => (1 : Int)) k (l.take (i + 1)) = k + (i + 1 : Nat) := by rw [mkK_const]; simp; omega
    have hl : (mkAt gB (fun _ => 1) k l i).length = l.length := mkAt_len
    rw [e2] at e ⊢
    rw [e3]
    have d1 : decide ((i : Int) < ((mkAt gB (fun _ => 1) k l i).length : Int)) = true := dT (by omega)
    have d2 : decide ((0 : Int) ≤ (i : Int)) = true := dT (by omega)
    have w : Go.IntKind.wrap .i64 ((i : Int) + 1) = ((i + 1 : Nat) : Int) := by rw [w64 (by omega) (by omega)]; rfl
    have w2 : Go.IntKind.wrap .i64 (k + (i : Int) + 1) = k + ((i + 1 : Nat) : Int) := by rw [w64 (by omega) (by omega)]; omega
    have hg : ∀ x, gB (k + (i : Int)) x = IntKind.wrap .u8 (k + (i : Int)) := fun _ => rfl
    rw [hg] at e
    simp only [F18.l0.b, d1, d2, Bool.and_self, cT, w, w2, Int.toNat_natCast, e])
    (by
      have d1 : decide ((l.length : Int) < ((mkL gB (fun _ => 1) k l).length : Int)) = false := dF (by rw [mkL_len]; omega)
      simp only [F18.l0.b, mkAt_all, d1, cF, List.take_length, mkK_const, Int.one_mul])
  simp only [F18.F]
  exact congrArg (fun q : Option (Int × List Int) => q.bind fun y => some (y.1, y.2, ())) (by simpa [mkAt_zero, mkK] using this)

theorem F19.ok (l : List Int) (k : Int) (h : l.length ≤ 1048576) (hk : 0 ≤ k) (hk2 : k ≤ 100000000) : F19.F (mkL gB (fun _ => 1) k l, k) = some (k + (l.length : Int)) := by
  have := lim_run (f := F19.l0.b) (fun i => (mkK (fun _ => 1) k (l.take i), (i : Int), mkL gB (fun _ => 1) k l)) l.length (y := .inr (k + (l.length : Int))) (fun i hi => by
    have e := mkL_get (g := gB) (c := fun _ => 1) (k := k) (d := 0) hi
    have e2 : mkK (fun _ => (1 : Int)) k (l.take i) = k + i := by rw [mkK_const]; simp; omega
    have e3 : mkK (fun _ => (1 : Int)) k (l.take (i + 1)) = k + (i + 1 : Nat) := by rw [mkK_const]; simp; omega
    rw [e2] at e ⊢
    rw [e3]
    have d1 : decide ((i : Int) < ((mkL gB (fun _ => 1) k l).length : Int)) = true := dT (by rw [mkL_len]; omega)
    have d2 : decide ((0 : Int) ≤ (i : Int)) = true := dT (by omega)
    have w : Go.IntKind.wrap .i64 ((i : Int) + 1) = ((i + 1 : Nat) : Int) := by rw [w64 (by omega) (by omega)]; rfl
    have w2 : Go.IntKind.wrap .i64 (k + (i : Int) + 1) = k + ((i + 1 : Nat) : Int) := by rw [w64 (by omega) (by omega)]; omega
    have hg : ∀ x, gB (k + (i : Int)) x = IntKind.wrap .u8 (k + (i : Int)) := fun _ => rfl
    rw [hg] at e
    have n0 : (IntKind.wrap .u8 (k + (i : Int)) != IntKind.wrap .u8 (k + (i : Int))) = false := nF rfl
    simp only [F19.l0.b, d1, d2, Bool.and_self, cT, cF, w, w2, Int.toNat_natCast, e, n0])
    (by
      have d1 : decide ((l.length : Int) < ((mkL gB (fun _ => 1) k l).length : Int)) = false := dF (by rw [mkL_len]; omega)
      simp only [F19.l0.b, d1, cF, List.take_length, mkK_const, Int.one_mul])
  simp only [F19.F]
  exact congrArg (fun q : Option (Int ⊕ Int) => q.bind fun q => match q with | .inl y => some y | .inr y => some y) (by simpa [mkK] using this)

theorem F4.law_of (l : List S45) (hl : (l.length : Int) ≤ 9223372036854775807) (h : ∀ x ∈ l, okSz x) : F4.F l = some true := by
  have e6 := F6.ok l hl h 1048576 (by decide) (by decide)
  have m1 : decide ((-1 : Int) < 0) = true := rfl
  by_cases h0 : 1048576 - (l.length : Int) < 0
  · rw [if_pos h0] at e6; simp only [F4.F, e6, bS, m1, cT]
  rw [if_neg h0] at e6
  by_cases h1 : 1048576 - (l.length : Int) - totJ l < 0
  · rw [if_pos h1] at e6; simp only [F4.F, e6, bS, m1, cT]
  rw [if_neg h1] at e6
  have e8 := F8.ok l (by omega)
  have e15 := F15.ok (l.map c45)
  have e16 := F16.ok (l.map c45)
  have n1 := fileR_len (l.map c45)
  generalize fileR (l.map c45) = q at e15 e16 n1
  obtain ⟨q0, q1⟩ := q
  dsimp only at n1
  have e17 := F17.ok q0 (by omega)
  have e11 := F11.ok (l.map c45) (by simp; omega)
  obtain ⟨r, e12⟩ := F12.ok (l.map c45) (by simp; omega)
  have e18 := F18.ok q0 1 (by omega) (by decide) (by decide)
  have e19 := F19.ok q0 1 (by omega) (by decide) (by decide)
  have d1 : decide (1 + 15 * ((l.map c45).length : Int) < 0) = false := dF (by omega)
  have d2 : decide (1 + (q0.length : Int) < 0) = false := dF (by omega)
  have n1 : (q1 != q1) = false := nF rfl
  have n2 : (1 + (q0.length : Int) != 1 + (q0.length : Int)) = false := nF rfl
  simp only [F4.F, e6, dF h1, cF, bS, e8, e15, e16, e17, e11, e12, d1, Bool.not_true, Bool.not_false, cT, n1, Bool.or_self, Bool.or_false, Bool.false_or, e18, e19, d2, n2]

end Go.Proofs.YtiogkndjoinpoaaDoor.AX

/- What hangs on a feature: the program and its reference agree; the law, plainly. No conditions. -/
namespace Go.Proofs.YtiogkndjoinpoaaDoor.AX
open Go

/- Maps from names. -/
def mpT {E : Type} (p : E → Bool) (x : E) : List E → List E
  | [] => [x]
  | y :: r => bif p y then x :: r else y :: mpT p x r
theorem mfind_7 (p : S66 → Bool) (l : List S66) : (mfind (U := uni) 7 p l : S66) = mfT z66 p l := rfl
theorem mput_7 (p : S66 → Bool) (x : S66) : ∀ l : List S66, (mput (U := uni) 7 p x l : List S66) = mpT p x l
  | [] => rfl
  | y :: r => congrArg (fun t => bif p y then x :: r else y :: t) (mput_7 p x r)
theorem mfind_f1 (p : S66 → Bool) (l : List S66) : S66.f1 (mfind (U := uni) 7 p l) = (mfT z66 p l).f1 := rfl
theorem mfT_cons {E : Type} (d : E) (p : E → Bool) (x : E) (r : List E) : mfT d p (x :: r) = if p x = true then x else mfT d p r := by
  unfold mfT
  rw [List.find?_cons]
  cases p x <;> rfl
theorem find_put (a b : List UInt8) (n : ByteArray) (hn : n.toList = b) (m : List S66) : (mfT z66 (fun (e : S66) => a == e.f0.toList) (mpT (fun (e : S66) => b == e.f0.toList) (⟨n, true⟩ : S66) m)).f1 = ((a == b) || (mfT z66 (fun (e : S66) => a == e.f0.toList) m).f1) := by
  induction m with
  | nil =>
    simp only [mpT, mfT_cons, hn]
    cases a == b <;> simp
  | cons y r ih =>
    simp only [mpT]
    cases hb : b == y.f0.toList with
    | true =>
      have hb' : b = y.f0.toList := by simpa using hb
      simp only [cond_true, mfT_cons, hn, ← hb']
      cases a == b <;> simp
    | false =>
      simp only [cond_false, mfT_cons]
      cases ha : a == y.f0.toList with
      | true =>
        have ha' : a = y.f0.toList := by simpa using ha
        have : (a == b) = false := by rw [ha']; rw [BEq.comm]; exact hb
        simp [this]
      | false => simpa using ih

/- All are in the order. -/
theorem ordF_all {to : List (List Int)} (hg : FG to) (hc : ∀ s, s < to.length → IsD (nx to) s s 0) : ∀ (m : Nat) (order : List Int) (done : List Bool), unseen done = m → done.length = to.length → (∀ i, i < to.length → done.getD i false = true → (i : Int) ∈ order) →
    ∀ i, i < to.length → (i : Int) ∈ ordF to m order done
  | 0, order, done, hu, hd, h, i, hi => by
    simp only [ordF]
    refine h i hi ?_
    cases e : done.getD i false with
    | true => rfl
    | false =>
      have := unseen_set (l := done) (i := i) (by omega) e
      omega
  | m + 1, order, done, hu, hd, h, i, hi => by
    obtain ⟨a, a1, a2, a3⟩ := first_ready hg hc hd (by omega)
    have hus := unseen_set (l := done) (i := a) (by omega) a3
    simp only [ordF, a1]
    refine ordF_all hg hc m (order ++ [(a : Int)]) (done.set a true) (by omega) (by simpa using hd) (fun j hj hjd => ?_) i hi
    by_cases e : a = j
    · subst e; simp
    · rw [getD_set_ne e] at hjd
      simp [h j hj hjd]
theorem ord_all {to : List (List Int)} (hg : FG to) (hc : ∀ s, s < to.length → IsD (nx to) s s 0) {i : Nat} (hi : i < to.length) : (i : Int) ∈ ordR to :=
  ordF_all hg hc to.length [] (List.replicate to.length false) (unseen_rep _) (by simp) (fun j hj h => by simp [List.getD, hj] at h) i hi

/- Names are told once. -/
theorem dup_none : ∀ {l pre : List S53}, dupG pre l = none → (∀ x ∈ l, pre.any (sameN x.f0) = false) ∧ l.Pairwise (fun x y => sameN y.f0 x = false)
  | [], pre, _ => ⟨fun x h => by simp at h, .nil⟩
  | x :: r, pre, h => by
    simp only [dupG] at h
    split at h
    · cases h
    · rename_i hp
      obtain ⟨h1, h2⟩ := dup_none h
      refine ⟨fun y hy => ?_, ?_⟩
      · rcases List.mem_cons.1 hy with rfl | hy
        · simpa using hp
        · have := h1 y hy
          rw [List.any_append, Bool.or_eq_false_iff] at this
          exact this.1
      · refine List.pairwise_cons.2 ⟨fun y hy => ?_, h2⟩
        have := h1 y hy
        rw [List.any_append, Bool.or_eq_false_iff] at this
        simpa using this.2
theorem errR_dup {l : List S53} (h : errR l = none) : dupG [] l = none ∧ ∀ x ∈ l, wrO l x = none := by
  unfold errR at h
  split at h
  · cases h
  · split at h
    · cases h
    · split at h
      · cases h
      · split at h
        · cases h
        · rename_i hd
          split at h
          · cases h
          · rename_i u hw
            exact ⟨hd, wrG_all hw⟩
theorem name_uniq {l : List S53} (h : dupG [] l = none) {i j : Nat} (hi : i < l.length) (hj : j < l.length) (e : (l.getD i z53).f0.toList = (l.getD j z53).f0.toList) : i = j := by
  have hp := (dup_none h).2
  rw [List.pairwise_iff_getElem] at hp
  rw [getD_lt hi, getD_lt hj] at e
  rcases Nat.lt_trichotomy i j with h1 | h1 | h1
  · have := hp i j hi hj h1
    unfold sameN at this
    rw [← e] at this; simp at this
  · exact h1
  · have := hp j i hj hi h1
    unfold sameN at this
    rw [e] at this; simp at this
theorem fnd_name {nm : ByteArray} : ∀ {l : List S53} {k j : Nat}, fndO nm k l = some j → nm.toList = (l.getD (j - k) z53).f0.toList
  | [], k, j, h => by cases h
  | x :: r, k, j, h => by
    simp only [fndO] at h
    split at h
    · rename_i hs
      injection h with h; subst h
      rw [Nat.sub_self]
      unfold sameN at hs
      simpa using hs
    · have h1 := (fndO_lt h).1
      have h2 := fnd_name h
      rw [show j - k = (j - (k + 1)) + 1 by omega]
      simpa [List.getD] using h2
theorem fnd_none {nm : ByteArray} : ∀ {l : List S53} {k : Nat}, fndO nm k l = none → ∀ x ∈ l, sameN nm x = false
  | [], k, h, x, hx => by simp at hx
  | y :: r, k, h, x, hx => by
    simp only [fndO] at h
    split at h
    · cases h
    · rename_i hs
      rcases List.mem_cons.1 hx with rfl | hx
      · simpa using hs
      · exact fnd_none h x hx

section
variable (l : List S53) (nm : ByteArray)
def nmB (i : Nat) : Bool := (l.getD i z53).f0.toList == nm.toList
/-- Does it hang on the name? -/
def hitB (gone : List Bool) (i : Nat) : Bool := nmB l nm i || (match nx (rowsR l) i with | none => false | some j => gone.getD j false)
def dep : List Int → List Bool → List ByteArray → List ByteArray
  | [], _, acc => acc
  | x :: r, gone, acc => bif hitB l nm gone x.toNat then dep r (gone.set x.toNat true) (acc ++ [(l.getD x.toNat z53).f0]) else dep r (gone.set x.toNat false) acc

theorem dep_len : ∀ {r : List Int} {gone : List Bool} {acc : List ByteArray}, (dep l nm r gone acc).length ≤ acc.length + r.length ∧ acc.length ≤ (dep l nm r gone acc).length
  | [], gone, acc => by simp [dep]
  | x :: r, gone, acc => by
    simp only [dep, List.length_cons]
    cases hitB l nm gone x.toNat with
    | true =>
      have := dep_len (r := r) (gone := gone.set x.toNat true) (acc := acc ++ [(l.getD x.toNat z53).f0])
      simp only [List.length_append, List.length_cons, List.length_nil, cond_true] at this ⊢
      omega
    | false =>
      have := dep_len (r := r) (gone := gone.set x.toNat false) (acc := acc)
      simp only [cond_false]
      omega
theorem dep_hit : ∀ {r : List Int} {gone : List Bool} {acc : List ByteArray}, (∃ x ∈ r, nmB l nm x.toNat = true) → 0 < (dep l nm r gone acc).length
  | [], gone, acc, ⟨x, hx, _⟩ => by simp at hx
  | y :: r, gone, acc, ⟨x, hx, h⟩ => by
    simp only [dep]
    cases hb : hitB l nm gone y.toNat with
    | true =>
      have := (dep_len l nm (r := r) (gone := gone.set y.toNat true) (acc := acc ++ [(l.getD y.toNat z53).f0])).2
      simp only [List.length_append, List.length_cons, List.length_nil, cond_true] at this ⊢
      omega
    | false =>
      rcases List.mem_cons.1 hx with rfl | hx
      · unfold hitB at hb; rw [h] at hb; simp at hb
      · exact dep_hit ⟨x, hx, h⟩
theorem dep_no (hn : ∀ i, i < l.length → nmB l nm i = false) : ∀ {r : List Int} {gone : List Bool} {acc : List ByteArray}, (∀ x ∈ r, ∃ i : Nat, i < l.length ∧ x = (i : Int)) → (∀ j, gone.getD j false = false) → dep l nm r gone acc = acc
  | [], gone, acc, _, _ => rfl
  | x :: r, gone, acc, hr, hg => by
    obtain ⟨i, hi, rfl⟩ := hr x (by simp)
    have hb : hitB l nm gone ((i : Int)).toNat = false := by
      unfold hitB
      rw [Int.toNat_natCast, hn i hi]
      cases nx (rowsR l) i with
      | none => rfl
      | some j => simp only [hg j, Bool.or_self]
    simp only [dep, hb, cond_false]
    refine dep_no hn (fun y hy => hr y (by simp [hy])) fun j => ?_
    rw [Int.toNat_natCast]
    by_cases e : i = j
    · subst e
      by_cases h : i < gone.length
      · rw [getD_set h]
      · rw [List.set_eq_of_length_le (by omega)]; exact hg i
    · rw [getD_set_ne e]; exact hg j
end

/- The reference. -/
theorem F20.l2_ok {l : List S53} (hg : FG (rowsR l)) (hc : ∀ s, s < (rowsR l).length → IsD (nx (rowsR l)) s s 0) (nm : ByteArray) (v12 : Int) (i : Nat) (hi : i < l.length) (r : List Int) (gone : List Bool) (hgl : gone.length = l.length) (b : Bool) (acc : List ByteArray) :
    F20.l2 (nm, v12, (i : Int), 0, l, rowsR l, r, gone.set i b, acc) = some (nm, v12, (i : Int), l, rowsR l, r, gone.set i (b || (match nx (rowsR l) i with | none => false | some j => gone.getD j false)), acc) := by
  have hlen : (rowsR l).length = l.length := by simp [rowsR]
  have d0 : decide ((0 : Int) ≤ (i : Int)) = true := dT (by omega)
  have d1 : decide ((i : Int) < ((rowsR l).length : Int)) = true := dT (by omega)
  rcases hg.cases i with ⟨e1, e2⟩ | ⟨j, hj, e1, e2⟩
  · have d2 : decide ((0 : Int) < (([] : List Int).length : Int)) = false := dF (by simp)
    rw [e1, Bool.or_false]
    unfold F20.l2
    exact lim_out (by simp only [F20.l2.b, d0, d1, Bool.and_self, cT, cF, Int.toNat_natCast, e2, d2])
  · have d2 : decide ((0 : Int) < (([(j : Int)] : List Int).length : Int)) = true := dT (by simp)
    have d4 : decide ((1 : Int) < (([(j : Int)] : List Int).length : Int)) = false := dF (by simp)
    have w : Go.IntKind.wrap .i64 (0 + 1) = 1 := by decide
    have d5 : decide ((0 : Int) ≤ 0) = true := rfl
    have d6 : decide ((0 : Int) ≤ (j : Int)) = true := dT (by omega)
    have d7 : decide ((j : Int) < ((gone.set i b).length : Int)) = true := dT (by rw [List.length_set]; omega)
    have d8 : decide ((i : Int) < ((gone.set i b).length : Int)) = true := dT (by rw [List.length_set]; omega)
    have g : List.getD [(j : Int)] (Int.toNat 0) 0 = (j : Int) := rfl
    have hne : i ≠ j := by
      intro e
      subst e
      exact (hc i (by omega)).1 rfl 1 (Nat.le_refl _) (by unfold it; rw [e1]; rfl)
    have g1 : (gone.set i b).getD i false = b := getD_set (by omega)
    have g2 : (gone.set i b).getD j false = gone.getD j false := getD_set_ne hne
    rw [e1]
    unfold F20.l2
    refine (lim_in (x' := (nm, v12, (i : Int), 1, l, rowsR l, r, gone.set i (b || gone.getD j false), acc)) (by simp only [F20.l2.b, d0, d1, d2, d5, d6, d7, d8, Bool.and_self, Bool.or_true, cT, Int.toNat_natCast, e2, g, w, g1, g2, List.set_set])).trans ?_
    exact lim_out (by simp only [F20.l2.b, d0, d1, Bool.and_self, cT, cF, Int.toNat_natCast, e2, d4])

theorem F20.l0_ok {l : List S53} (hg : FG (rowsR l)) (hc : ∀ s, s < (rowsR l).length → IsD (nx (rowsR l)) s s 0) (nm : ByteArray) {r : List Int} (hr : ∀ x ∈ r, ∃ i : Nat, i < l.length ∧ x = (i : Int)) (hrl : r.length ≤ 5000) : ∀ (q k : Nat) (gone : List Bool) (acc : List ByteArray), k + q = r.length → gone.length = l.length → acc.length ≤ k →
    F20.l0 (nm, (k : Int), l, rowsR l, r, gone, acc) = some (dep l nm (r.drop k) gone acc)
  | 0, k, gone, acc, hk, hgl, hacc => by
    have d : decide ((k : Int) < (r.length : Int)) = false := dF (by omega)
    rw [List.drop_eq_nil_of_le (by omega)]
    unfold F20.l0
    exact lim_out (by simp only [F20.l0.b, d, cF, dep])
  | q + 1, k, gone, acc, hk, hgl, hacc => by
    have hkl : k < r.length := by omega
    obtain ⟨i, hi, hx⟩ := hr r[k] (List.getElem_mem hkl)
    have hx' : r.getD k 0 = (i : Int) := by rw [getD_lt hkl]; exact hx
    have d : decide ((k : Int) < (r.length : Int)) = true := dT (by omega)
    have d0 : decide ((0 : Int) ≤ (k : Int)) = true := dT (by omega)
    have d1 : decide ((0 : Int) ≤ (i : Int)) = true := dT (by omega)
    have d2 : decide ((i : Int) < (l.length : Int)) = true := dT (by omega)
    have d3 : decide ((i : Int) < (gone.length : Int)) = true := dT (by omega)
    have w : Go.IntKind.wrap .i64 ((k : Int) + 1) = ((k + 1 : Nat) : Int) := by rw [w64 (by omega) (by omega)]; rfl
    have l2 := F20.l2_ok hg hc nm (k : Int) i hi r gone hgl (nmB l nm i) acc
    rw [show (nmB l nm i || (match nx (rowsR l) i with | none => false | some j => gone.getD j false)) = hitB l nm gone i from rfl] at l2
    unfold nmB at l2
    have g1 : (gone.set i (hitB l nm gone i)).getD i false = hitB l nm gone i := getD_set (by omega)
    have d4 : decide ((i : Int) < ((gone.set i (hitB l nm gone i)).length : Int)) = true := dT (by rw [List.length_set]; omega)
    rw [drop_cons hkl, hx]
    simp only [dep, Int.toNat_natCast]
    cases hb : hitB l nm gone i with
    | true =>
      rw [hb] at l2 g1 d4
      have d5 : decide (acc.length + ((l.getD i z53).f0 :: []).length ≤ 274877906944) = true := dT (by simp; omega)
      rw [cond_true, ← F20.l0_ok hg hc nm hr hrl q (k + 1) (gone.set i true) (acc ++ [(l.getD i z53).f0]) (by omega) (by simpa using hgl) (by simp; omega)]
      unfold F20.l0
      exact lim_in (by simp only [F20.l0.b, d, d0, Bool.and_self, cT, Int.toNat_natCast, hx', d1, d2, d3, l2, bS, g1, d4, w, d5])
    | false =>
      rw [hb] at l2 g1 d4
      rw [cond_false, ← F20.l0_ok hg hc nm hr hrl q (k + 1) (gone.set i false) acc (by omega) (by simpa using hgl) (by omega)]
      unfold F20.l0
      exact lim_in (by simp only [F20.l0.b, d, d0, Bool.and_self, cT, cF, Int.toNat_natCast, hx', d1, d2, d3, l2, bS, g1, d4, w])

/- The program. -/
def seen (l : List S53) (gone : List Bool) (t : ByteArray) : Bool := (List.range l.length).any fun j => gone.getD j false && (t.toList == (l.getD j z53).f0.toList)
structure DI (l : List S53) (nm : ByteArray) (mp : List S66) (gone : List Bool) : Prop where
  m : ∀ t : ByteArray, (mfT z66 (fun (e : S66) => t.toList == e.f0.toList) mp).f1 = seen l gone t
  h : ∀ j, gone.getD j false = true → hitB l nm gone j = true
  n : gone.length = l.length

theorem seen_at {l : List S53} (hd : dupG [] l = none) {gone : List Bool} {t : ByteArray} {j : Nat} (hf : fndO t 0 l = some j) : seen l gone t = gone.getD j false := by
  have hj := (fndO_lt hf).2
  have ht := fnd_name hf
  rw [Nat.sub_zero] at ht
  rw [Nat.zero_add] at hj
  unfold seen
  cases hg : gone.getD j false with
  | true =>
    refine List.any_eq_true.2 ⟨j, List.mem_range.2 hj, ?_⟩
    rw [hg, ht]; simp
  | false =>
    refine List.any_eq_false.2 fun i hi => ?_
    rw [List.mem_range] at hi
    intro h
    rw [Bool.and_eq_true, beq_iff_eq] at h
    have := name_uniq hd hi hj (by rw [← h.2, ht])
    subst this
    rw [hg] at h; simp at h

theorem hit_eq {l : List S53} (hall : ∀ x ∈ l, featB x = true) (hw : ∀ x ∈ l, wrO l x = none) (hd : dupG [] l = none) {nm : ByteArray} {mp : List S66} {gone : List Bool} (hI : DI l nm mp gone) {i : Nat} (hi : i < l.length) :
    ((((l.getD i z53).f0.toList == nm.toList) || (!isE (l.getD i z53).f1 && (mfT z66 (fun (e : S66) => (l.getD i z53).f1.toList == e.f0.toList) mp).f1)) || (!isE (l.getD i z53).f2 && (mfT z66 (fun (e : S66) => (l.getD i z53).f2.toList == e.f0.toList) mp).f1)) = hitB l nm gone i := by
  have hlen : (rowsR l).length = l.length := by simp [rowsR]
  have e : (rowsR l).getD i [] = tgR l (l.getD i z53) := by rw [getD_lt (by omega), getD_lt hi]; simp [rowsR]
  have hx := hall (l.getD i z53) (by rw [getD_lt hi]; exact List.getElem_mem hi)
  have hwx := hw (l.getD i z53) (by rw [getD_lt hi]; exact List.getElem_mem hi)
  unfold hitB nmB
  rw [hI.m, hI.m]
  have hnx : nx (rowsR l) i = ((tgR l (l.getD i z53)).head?).map Int.toNat := by unfold nx; rw [e]
  rw [hnx]
  generalize l.getD i z53 = x at hx hwx
  obtain ⟨_, hk⟩ := feat_kind hx
  unfold wrO at hwx
  unfold tgR
  cases he : isE x.f1 with
  | true =>
    rw [he, cT] at hwx
    cases he2 : isE x.f2 with
    | true => simp
    | false =>
      unfold wr2 at hwx
      rw [he2, cF] at hwx
      cases hf : fndO x.f2 0 l with
      | none => rw [hf] at hwx; cases hwx
      | some k =>
        have hfi : fi l x.f2 = (k : Int) := by unfold fi; rw [hf]
        rw [seen_at hd hf, hfi]
        simp
  | false =>
    rw [he, cF] at hwx
    rw [hk he]
    cases hf : fndO x.f1 0 l with
    | none => rw [hf] at hwx; cases hwx
    | some k =>
      have hfi : fi l x.f1 = (k : Int) := by unfold fi; rw [hf]
      rw [seen_at hd hf, hfi]
      simp

theorem hit_mono {l : List S53} {nm : ByteArray} {g g' : List Bool} (h : ∀ j, g.getD j false = true → g'.getD j false = true) {i : Nat} (hh : hitB l nm g i = true) : hitB l nm g' i = true := by
  unfold hitB at hh ⊢
  rw [Bool.or_eq_true] at hh ⊢
  rcases hh with hh | hh
  · exact .inl hh
  · right
    cases hn : nx (rowsR l) i with
    | none => rw [hn] at hh; cases hh
    | some j => rw [hn] at hh; exact h j hh
theorem getD_set_mono {g : List Bool} {i : Nat} : ∀ j, g.getD j false = true → (g.set i true).getD j false = true := fun j h => by
  by_cases e : i = j
  · subst e
    by_cases hl : i < g.length
    · exact getD_set hl
    · rw [List.set_eq_of_length_le (by omega)]; exact h
  · rw [getD_set_ne e]; exact h

theorem di_zero (l : List S53) (nm : ByteArray) : DI l nm [] (List.replicate l.length false) := by
  have h0 : ∀ j, (List.replicate l.length false).getD j false = false := fun j => by
    simp only [List.getD, List.getElem?_replicate]
    split <;> rfl
  refine ⟨fun t => ?_, fun j h => (by rw [h0] at h; cases h), (by simp)⟩
  unfold seen
  have e : (mfT z66 (fun (e : S66) => t.toList == e.f0.toList) []).f1 = false := rfl
  rw [e]
  symm
  refine List.any_eq_false.2 fun i hi => ?_
  rw [h0]; simp
theorem di_hit {l : List S53} {nm : ByteArray} {mp : List S66} {gone : List Bool} (hI : DI l nm mp gone) {i : Nat} (hi : i < l.length) (hh : hitB l nm gone i = true) : DI l nm (mpT (fun (e : S66) => (l.getD i z53).f0.toList == e.f0.toList) (⟨(l.getD i z53).f0, true⟩ : S66) mp) (gone.set i true) := by
  have hn := hI.n
  refine ⟨fun t => ?_, fun j h => ?_, by simpa using hn⟩
  · rw [find_put t.toList (l.getD i z53).f0.toList (l.getD i z53).f0 rfl mp, hI.m]
    unfold seen
    cases ht : (t.toList == (l.getD i z53).f0.toList) with
    | true =>
      rw [Bool.true_or]
      symm
      refine List.any_eq_true.2 ⟨i, List.mem_range.2 hi, ?_⟩
      rw [getD_set (by omega), ht]; rfl
    | false =>
      rw [Bool.false_or]
      have : ∀ j, ((gone.set i true).getD j false && (t.toList == (l.getD j z53).f0.toList)) = (gone.getD j false && (t.toList == (l.getD j z53).f0.toList)) := fun j => by
        by_cases e : i = j
        · subst e; rw [ht]; simp
        · rw [getD_set_ne e]
      simp only [this]
  · by_cases e : i = j
    · subst e; exact hit_mono getD_set_mono hh
    · rw [getD_set_ne e] at h
      exact hit_mono getD_set_mono (hI.h j h)
theorem di_no {l : List S53} {nm : ByteArray} {mp : List S66} {gone : List Bool} (hI : DI l nm mp gone) {i : Nat} (hh : hitB l nm gone i = false) : gone.set i false = gone := by
  have h : gone.getD i false = false := by
    cases e : gone.getD i false with
    | false => rfl
    | true => rw [hI.h i e] at hh; cases hh
  have := set_self (l := gone) (i := i) (d := false)
  rw [h] at this; exact this

def resD : List ByteArray → Unit ⊕ List ByteArray
  | [] => .inl ()
  | d => .inr d
theorem resD_pos {d : List ByteArray} (h : 0 < d.length) : resD d = .inr d := by
  cases d with
  | nil => simp at h
  | cons _ _ => rfl
theorem resD_zero {d : List ByteArray} (h : d.length = 0) : resD d = .inl () := by
  cases d with
  | nil => rfl
  | cons _ _ => simp at h

section
variable {l : List S53} (hall : ∀ x ∈ l, featB x = true) (hw : ∀ x ∈ l, wrO l x = none) (hd : dupG [] l = none) (hll : l.length ≤ 5000) (nm : ByteArray) {r : List Int} (hr : ∀ x ∈ r, ∃ i : Nat, i < l.length ∧ x = (i : Int)) (hrl : r.length ≤ 5000)
include hall hw hd hr hrl

theorem F21.inr_ok : ∀ (q k : Nat) (mp : List S66) (gone : List Bool) (acc : List ByteArray), k + q = r.length → DI l nm mp gone → acc.length ≤ k →
    F21.l0 (.inr (nm, (r.length : Int), (k : Int), l, mp, acc, r)) = some (.inr (dep l nm (r.drop k) gone acc))
  | 0, k, mp, gone, acc, hk, hI, hacc => by
    have d : decide ((k : Int) < (r.length : Int)) = false := dF (by omega)
    rw [List.drop_eq_nil_of_le (by omega)]
    unfold F21.l0
    exact lim_out (by simp only [F21.l0.b, d, cF, dep])
  | q + 1, k, mp, gone, acc, hk, hI, hacc => by
    have hkl : k < r.length := by omega
    obtain ⟨i, hi, hx⟩ := hr r[k] (List.getElem_mem hkl)
    have hx' : r.getD k 0 = (i : Int) := by rw [getD_lt hkl]; exact hx
    have d : decide ((k : Int) < (r.length : Int)) = true := dT (by omega)
    have d0 : decide ((0 : Int) ≤ (k : Int)) = true := dT (by omega)
    have d1 : decide ((0 : Int) ≤ (i : Int)) = true := dT (by omega)
    have d2 : decide ((i : Int) < (l.length : Int)) = true := dT (by omega)
    have w : Go.IntKind.wrap .i64 ((k : Int) + 1) = ((k + 1 : Nat) : Int) := by rw [w64 (by omega) (by omega)]; rfl
    have e0 : ∀ s : ByteArray, (ByteArray.toList s == ByteArray.toList (ByteArray.mk (Array.mk ([] : List UInt8)))) = isE s := fun s => rfl
    have he := hit_eq hall hw hd hI hi
    rw [drop_cons hkl, hx]
    simp only [dep, Int.toNat_natCast]
    cases hb : hitB l nm gone i with
    | true =>
      rw [hb] at he
      have d5 : decide (acc.length + ((l.getD i z53).f0 :: []).length ≤ 274877906944) = true := dT (by simp; omega)
      rw [cond_true, ← F21.inr_ok q (k + 1) _ (gone.set i true) (acc ++ [(l.getD i z53).f0]) (by omega) (di_hit hI hi hb) (by simp; omega)]
      unfold F21.l0
      exact lim_in (by simp only [F21.l0.b, d, d0, Bool.and_self, cT, Int.toNat_natCast, hx', d1, d2, e0, mfind_f1, mput_7, he, w, d5])
    | false =>
      rw [hb] at he
      rw [cond_false, di_no hI hb, ← F21.inr_ok q (k + 1) mp gone acc (by omega) hI (by omega)]
      unfold F21.l0
      exact lim_in (by simp only [F21.l0.b, d, d0, Bool.and_self, cT, cF, Int.toNat_natCast, hx', d1, d2, e0, mfind_f1, he, w])

theorem F21.inl_ok : ∀ (q k : Nat) (mp : List S66) (gone : List Bool), k + q = r.length → DI l nm mp gone →
    F21.l0 (.inl (nm, (r.length : Int), (k : Int), l, mp, r)) = some (resD (dep l nm (r.drop k) gone []))
  | 0, k, mp, gone, hk, hI => by
    have d : decide ((k : Int) < (r.length : Int)) = false := dF (by omega)
    rw [List.drop_eq_nil_of_le (by omega)]
    unfold F21.l0
    exact lim_out (by simp only [F21.l0.b, d, cF, dep, resD])
  | q + 1, k, mp, gone, hk, hI => by
    have hkl : k < r.length := by omega
    obtain ⟨i, hi, hx⟩ := hr r[k] (List.getElem_mem hkl)
    have hx' : r.getD k 0 = (i : Int) := by rw [getD_lt hkl]; exact hx
    have d : decide ((k : Int) < (r.length : Int)) = true := dT (by omega)
    have d0 : decide ((0 : Int) ≤ (k : Int)) = true := dT (by omega)
    have d1 : decide ((0 : Int) ≤ (i : Int)) = true := dT (by omega)
    have d2 : decide ((i : Int) < (l.length : Int)) = true := dT (by omega)
    have w : Go.IntKind.wrap .i64 ((k : Int) + 1) = ((k + 1 : Nat) : Int) := by rw [w64 (by omega) (by omega)]; rfl
    have e0 : ∀ s : ByteArray, (ByteArray.toList s == ByteArray.toList (ByteArray.mk (Array.mk ([] : List UInt8)))) = isE s := fun s => rfl
    have he := hit_eq hall hw hd hI hi
    rw [drop_cons hkl, hx]
    simp only [dep, Int.toNat_natCast, List.nil_append]
    cases hb : hitB l nm gone i with
    | true =>
      rw [hb] at he
      have hr' := F21.inr_ok hall hw hd nm hr hrl q (k + 1) _ (gone.set i true) [(l.getD i z53).f0] (by omega) (di_hit hI hi hb) (by simp)
      have hl := (dep_len l nm (r := r.drop (k + 1)) (gone := gone.set i true) (acc := [(l.getD i z53).f0])).2
      rw [cond_true, resD_pos (by simp only [List.length_cons, List.length_nil] at hl; omega), ← hr']
      unfold F21.l0
      exact lim_in (by simp only [F21.l0.b, d, d0, Bool.and_self, cT, Int.toNat_natCast, hx', d1, d2, e0, mfind_f1, mput_7, he, w])
    | false =>
      rw [hb] at he
      rw [cond_false, di_no hI hb, ← F21.inl_ok q (k + 1) mp gone (by omega) hI]
      unfold F21.l0
      exact lim_in (by simp only [F21.l0.b, d, d0, Bool.and_self, cT, cF, Int.toNat_natCast, hx', d1, d2, e0, mfind_f1, he, w])
end

theorem F35.ok (l : List S53) (nm : ByteArray) : F35.F (l, ([], [nm])) = some ((decide ((nm.size : Int) > 65536)) || (decide ((l.length : Int) > 4096))) := by
  have d0 : decide ((0 : Int) < 1) = true := rfl
  have d1 : decide ((0 : Int) ≤ 0) = true := rfl
  have d2 : decide ((0 : Int) < ((([nm] : List ByteArray)).length : Int)) = true := rfl
  have g : List.getD [nm] (Int.toNat 0) E0 = nm := rfl
  have ll : ((([nm] : List ByteArray)).length : Int) = 1 := rfl
  have z : decide (((([] : List ByteArray)).length : Int) > 4096) = false := rfl
  by_cases h : (nm.size : Int) > 65536
  · have l0 : F35.l0 (1, 0, l, [], [nm]) = some (.inl true) := by
      unfold F35.l0
      exact lim_out (by simp only [F35.l0.b, d0, d1, d2, Bool.and_self, cT, g, dT h])
    simp only [F35.F, ll, l0, bS, dT h, Bool.true_or]
  · have w : Go.IntKind.wrap .i64 ((0 : Int) + 1) = 1 := by decide
    have d3 : decide ((1 : Int) < 1) = false := rfl
    have l0 : F35.l0 (1, 0, l, [], [nm]) = some (.inr (l, [])) := by
      unfold F35.l0
      refine (lim_in (x' := (1, 1, l, [], [nm])) (by simp only [F35.l0.b, d0, d1, d2, Bool.and_self, cT, cF, g, dF h, w])).trans ?_
      exact lim_out (by simp only [F35.l0.b, d3, cF])
    simp only [F35.F, ll, l0, bS, dF h, Bool.false_or, z, Bool.or_false]

/-- What is answered. -/
noncomputable def depR (l : List S53) (nm : ByteArray) : List ByteArray × Int :=
  if (nm.size : Int) > 65536 then ([], 2) else match errR l with
  | some e => ([], e.1)
  | none => if (dep l nm (ordR (rowsR l)) (List.replicate l.length false) []).length = 0 then ([], 8) else (dep l nm (ordR (rowsR l)) (List.replicate l.length false) [], 0)

theorem F21.ok (l : List S53) (nm : ByteArray) : F21.F (l, nm) = some (depR l nm) := by
  have f35 := F35.ok l nm
  have f26 := F26.ok l
  unfold depR
  by_cases h : (nm.size : Int) > 65536
  · rw [dT h, Bool.true_or] at f35
    rw [if_pos h]
    simp only [F21.F, f35, bS, cT]
  · rw [dF h, Bool.false_or] at f35
    rw [if_neg h]
    by_cases h4 : (l.length : Int) > 4096
    · rw [dT h4] at f35
      have he : errR l = some (2, []) := by unfold errR; rw [if_pos (by omega)]
      rw [he]
      simp only [F21.F, f35, bS, cT]
    · rw [dF h4] at f35
      cases he : errR l with
      | some e =>
        rw [he] at f26
        have q : (e.1 != 0) = true := nT (errR_ne he)
        simp only [F21.F, f35, bS, cF, f26, q, cT]
      | none =>
        rw [he] at f26
        obtain ⟨h1, hg, hz⟩ := errR_none he
        obtain ⟨hd, hw⟩ := errR_dup he
        have hlen : (rowsR l).length = l.length := by simp [rowsR]
        obtain ⟨o1, o2⟩ := ord_in (to := rowsR l)
        rw [hlen] at o1 o2
        have l0 := F21.inl_ok (errR_feat he) hw hd nm o1 (by omega) (ordR (rowsR l)).length 0 [] (List.replicate l.length false) (by omega) (di_zero l nm)
        rw [show ((0 : Nat) : Int) = 0 from rfl, List.drop_zero] at l0
        have q : ((0 : Int) != 0) = false := rfl
        dsimp only
        by_cases h0 : (dep l nm (ordR (rowsR l)) (List.replicate l.length false) []).length = 0
        · rw [if_pos h0]
          rw [resD_zero h0] at l0
          simp only [F21.F, f35, bS, cF, f26, q, l0]
        · rw [if_neg h0]
          rw [resD_pos (by omega)] at l0
          have d : decide ((0 : Int) < ((dep l nm (ordR (rowsR l)) (List.replicate l.length false) []).length : Int)) = true := dT (by omega)
          simp only [F21.F, f35, bS, cF, f26, q, l0, d, cT]

theorem F20.ok (l : List S53) (nm : ByteArray) : F20.F (l, nm) = some (depR l nm) := by
  have f23 := F23.ok l
  unfold depR
  by_cases h : (nm.size : Int) > 65536
  · rw [if_pos h]
    simp only [F20.F, dT h, cT]
  · rw [if_neg h]
    cases he : errR l with
    | some e =>
      rw [he] at f23
      have q : (e.1 != 0) = true := nT (errR_ne he)
      simp only [F20.F, dF h, cF, f23, bS, q, cT]
    | none =>
      rw [he] at f23
      obtain ⟨h1, hg, hz⟩ := errR_none he
      obtain ⟨hd, hw⟩ := errR_dup he
      have hc := no_circle hg hz
      have hlen : (rowsR l).length = l.length := by simp [rowsR]
      obtain ⟨o1, o2⟩ := ord_in (to := rowsR l)
      have oall := fun i hi => ord_all hg hc (i := i) hi
      rw [hlen] at o1 o2 oall
      have f34 := F34.ok nm l (by omega)
      have fneg := fi_neg (l := l) (nm := nm)
      have f24 := F24.ok hg hc
      have q : ((0 : Int) != 0) = false := rfl
      dsimp only
      cases hf : fndO nm 0 l with
      | none =>
        rw [hf] at fneg
        have hno : ∀ i, i < l.length → nmB l nm i = false := fun i hi => by
          have := fnd_none hf (l.getD i z53) (by rw [getD_lt hi]; exact List.getElem_mem hi)
          unfold nmB; rw [sameN_comm]; exact this
        have hd0 := dep_no l nm hno (r := ordR (rowsR l)) (gone := List.replicate l.length false) (acc := []) o1 (fun j => by
          simp only [List.getD, List.getElem?_replicate]; split <;> rfl)
        rw [hd0, if_pos (show ([] : List ByteArray).length = 0 from rfl)]
        simp only [F20.F, dF h, cF, f23, bS, q, f34, fneg, Option.isNone_none, cT]
      | some k =>
        rw [hf] at fneg
        have hk := (fndO_lt hf).2
        have hkn := fnd_name hf
        rw [Nat.sub_zero] at hkn
        rw [Nat.zero_add] at hk
        have hpos := dep_hit l nm (r := ordR (rowsR l)) (gone := List.replicate l.length false) (acc := []) ⟨(k : Int), oall k hk, by unfold nmB; rw [Int.toNat_natCast, hkn]; simp⟩
        rw [if_neg (by omega)]
        have l0 := F20.l0_ok hg hc nm o1 (by omega) (ordR (rowsR l)).length 0 (List.replicate l.length false) [] (by omega) (by simp) (by simp)
        rw [show ((0 : Nat) : Int) = 0 from rfl, List.drop_zero] at l0
        have d0 : (((decide (0 ≤ (l.length : Int))) && (decide ((l.length : Int) ≤ (l.length : Int)))) && (decide ((l.length : Int) ≤ 274877906944))) = true := by simp; omega
        simp only [F20.F, dF h, cF, f23, bS, q, f34, fneg, Option.isNone_some, f24, d0, cT, Int.toNat_natCast, l0]

theorem depR_len (l : List S53) (nm : ByteArray) : (depR l nm).1.length ≤ 5000 := by
  unfold depR
  split
  · simp
  · cases he : errR l with
    | some e => simp
    | none =>
      obtain ⟨h1, _, _⟩ := errR_none he
      have hlen : (rowsR l).length = l.length := by simp [rowsR]
      have o2 := (ord_in (to := rowsR l)).2
      have := (dep_len l nm (r := ordR (rowsR l)) (gone := List.replicate l.length false) (acc := [])).1
      dsimp only
      split
      · simp
      · simp only [List.length_nil] at this
        dsimp only
        omega

theorem F5.law_of (l : List S45) (nm : ByteArray) (hl : (l.length : Int) ≤ 9223372036854775807) (h : ∀ x ∈ l, okSz x) : F5.F (l, nm) = some true := by
  by_cases hn : (nm.size : Int) > 1048576
  · simp only [F5.F, dT hn, cT]
  have e6 := F6.ok l hl h 1048576 (by decide) (by decide)
  have m1 : decide ((-1 : Int) < 0) = true := rfl
  by_cases h0 : 1048576 - (l.length : Int) < 0
  · rw [if_pos h0] at e6; simp only [F5.F, dF hn, cF, e6, bS, m1, cT]
  rw [if_neg h0] at e6
  by_cases h1 : 1048576 - (l.length : Int) - totJ l < 0
  · rw [if_pos h1] at e6; simp only [F5.F, dF hn, cF, e6, bS, m1, cT]
  rw [if_neg h1] at e6
  have e8 := F8.ok l (by omega)
  have e20 := F20.ok (l.map c45) nm
  have e21 := F21.ok (l.map c45) nm
  have n1 := depR_len (l.map c45) nm
  generalize depR (l.map c45) nm = q at e20 e21 n1
  obtain ⟨q0, q1⟩ := q
  dsimp only at n1
  have e10 := F10.ok q0 (by omega)
  have e11 := F11.ok (l.map c45) (by simp; omega)
  obtain ⟨r, e12⟩ := F12.ok (l.map c45) (by simp; omega)
  have e13 := F13.ok q0 1 (by omega) (by decide) (by decide)
  have e14 := F14.ok q0 1 (by omega) (by decide) (by decide)
  have d1 : decide (1 + 15 * ((l.map c45).length : Int) < 0) = false := dF (by omega)
  have d2 : decide (1 + (q0.length : Int) < 0) = false := dF (by omega)
  have n1 : (q1 != q1) = false := nF rfl
  have n2 : (1 + (q0.length : Int) != 1 + (q0.length : Int)) = false := nF rfl
  simp only [F5.F, dF hn, e6, dF h1, cF, bS, e8, e20, e21, e10, e11, e12, d1, Bool.not_true, Bool.not_false, cT, n1, Bool.or_self, Bool.or_false, Bool.false_or, e13, e14, d2, n2]

end Go.Proofs.YtiogkndjoinpoaaDoor.AX

/- The law of what hangs on a feature, plainly. No conditions. -/
namespace Go.Proofs.YtiogkndjoinpoaaDoor.AX
open Go

theorem F5.law (l : List S45) (nm : ByteArray) (h1 : ∀ n, RowOk (U := uni) ky n 0 l) {p : Prop} (h2 : p) : F5.F (l, nm) = some true := F5.law_of l nm (feats_row h1).1 (feats_row h1).2

end Go.Proofs.YtiogkndjoinpoaaDoor.AX

/- The law FnExactDepends answers true at every input. No conditions. -/
namespace Go.Proofs.YtiogkndjoinpoaaDoor.fnExactDepends
open Go.ChangeShapes Go.WideShapes Go.ChangeAt Go.RowKit Go.Proofs.YtiogkndjoinpoaaDoor.AX
open Go.ChangeMaps (open_string shut_string)
set_option maxRecDepth 100000
theorem first_eq : Rows.laid_unicode_utf8_first = Lib.firstData := by kernel_rfl
theorem accept_eq : Rows.laid_unicode_utf8_acceptRanges (H := Unit) = Lib.acceptData := by kernel_rfl
theorem own : ownKnob Tryd.prog.godebug = none := by kernel_rfl
theorem laidOut : laidOutB Tryd.prog = true := by kernel_rfl
set_option maxRecDepth 100000 in
theorem lifted (os : Os) (started : os.Started) (H : Type) (enc : TypeId × Value → H) :
    ReturnsInHanded {} Tryd.checked os 5 .any (fun w args => (Rows.fnExactDependsSpec.pre enc Tryd.prog Tryd.f5 [] false w args ∧ laidMetH Tryd.prog Rows.fnExactDependsRow.laid w) ∧ sizedMet enc Tryd.prog Tryd.f5 (OpenSpec.ofChange Rows.fnExactDependsSpec) false w args)
      (Rows.fnExactDependsSpec.post enc Tryd.prog Tryd.f5 false true false false) := by
  refine returnsInHanded_of_change_and (C := Tryd.checked) (X := fun w _ => laidMetH Tryd.prog Rows.fnExactDependsRow.laid w) (fun _ _ _ hh h => h.of_heap hh) own started (by kernel_rfl) Tryd.func5
    (ChangeSpec.witness_shaped (enc := enc) (C := Tryd.checked) (os := os) (X := fun w _ => laidMetH Tryd.prog Rows.fnExactDependsRow.laid w) false (World.laidAll Tryd.prog os Rows.fnExactDependsRow.laid) #[.slice none 0 0, .string ⟨#[]⟩] 8 (World.laidAll_os _ _ _)
      (World.shaped_of_ZipB (by kernel_rfl) (by kernel_rfl)) (by kernel_rfl) (by kernel_rfl) (by kernel_rfl)
      (by rw [MakeChecks.laidMetH_plain _ _ _ (by kernel_rfl)]; exact laidMet_laidAll _ (by kernel_rfl) (by kernel_rfl))) ?_
  intro W base args ds gs before hval0 hW _ _ hL _
  rw [MakeChecks.laidMetH_plain _ _ _ (by kernel_rfl)] at hL
  have hT : Lib.Utf8Tabs 0 1 W := Go.Proofs.utf8Tabs_of_reads (ρ := Tryd.lays197_ren) { Tryd.lays197 with } ⟨by kernel_rfl, by kernel_rfl, by kernel_rfl, by kernel_rfl, by kernel_rfl, by kernel_rfl, by kernel_rfl⟩ (first_eq ▸ Lib.laidMet.reads hL (.tail _ (.head _))) (accept_eq ▸ Lib.laidMet.reads hL (.head _))
  have hval : ∀ (j : Nat) t v, Tryd.f5.params[j]? = some t → args[j]? = some v → Value.okWide Tryd.prog W .any base t v := hval0
  have hW' := hW
  obtain ⟨p, q, hA0, hV, rfl, hfz, hnd⟩ := hW
  have hA : DataW.TrodAll enc Tryd.prog W 0 (fun _ => true) true Tryd.f5.params.toList args.toList ds p := hA0
  rw [Tryd.params5] at hA hval
  obtain ⟨v0, vs0, d0, ds0, p0, q0, hargs, rfl, rfl, h0, r0⟩ := trodAll_cons hA
  obtain ⟨v1, vs1, d1, ds1, p1, q1, rfl, rfl, rfl, h1, r1⟩ := trodAll_cons r0
  obtain ⟨rfl, rfl, rfl⟩ := trodAll_nil r1
  obtain rfl : args = #[v0, v1] := by cases args; simp_all
  obtain ⟨rfl, rfl⟩ := trodVars_none hV
  have k0 := h0
  have lt0 : ∀ x ∈ p0, x.block < W.heap.size := by obtain ⟨m, hm⟩ := k0; exact DataW.trod_lt m _ _ _ hm
  obtain ⟨l0, F0, i0, o0⟩ := open_slice kindsOk (k := 0) Tryd.underlying22 (List.cons_ne_nil _ _) (hval 0 22 v0 rfl rfl) h0
  obtain ⟨a1, rfl, rfl, rfl, w1⟩ := open_string Tryd.underlying9 (hval 1 9 v1 rfl rfl) h1
  clear hA0 hval0
  have hcon := F5.con (l0, a1) true (F5.law l0 a1 o0 w1) [v0, .string a1] W [] _ ⟨[], [], F0, _, i0, ⟨[], [], [], _, ⟨rfl, rfl, rfl⟩, ⟨rfl, rfl⟩, rfl, rfl⟩, rfl, rfl⟩ (by simp) (by simp) (DoorOk.none hT)
  refine hcon.mono fun e W' ⟨rs, vs, G, E', hr, hR, he, hO, hfr, _, _⟩ => ?_
  obtain rfl : rs = [.val (.bool true)] := by injection hr with hr; exact hr.symm
  obtain rfl : vs = [.bool true] := by
    match vs, hR with
    | [v], ⟨_, _, ⟨h, _⟩, _, _⟩ => rw [h]
  subst he
  have bel := below_of hfr
  exact ⟨_, rfl, _, _, _, [], _, [], hW', trodAll_mk1 (shut_bool Tryd.underlying4 _), (trodAll_cons_mk (Below.trod laidOut (by kernel_rfl) (of_decide_eq_true (by kernel_rfl)) k0 bel lt0) (trodAll_cons_mk (shut_string Tryd.underlying9 w1) trodAll_mk0)), rfl, bel.frame _, fun h => by cases h⟩
theorem over : Rows.fnExactDependsRow.holds Tryd.pinned (OpenSpec.ofChange Rows.fnExactDependsSpec) :=
  OpenClaim.holds_of_wide 5 Tryd.f5 rfl rfl rfl rfl rfl rfl rfl ⟨rfl, rfl, rfl, rfl, rfl⟩ rfl rfl rfl rfl rfl (by kernel_rfl) Tryd.func5 (by kernel_rfl)
    (of_decide_eq_true (by kernel_rfl)) (by unfold Func.isWrapper; first | (rw [if_pos (by decide +kernel)]; kernel_rfl) | (rw [if_neg (by decide +kernel)]; exact ⟨rfl, rfl⟩))
    (fun os started H enc _ => lifted os started H enc)
theorem proved : Rows.FnExactDependsCardSaid :=
  Claim7.holds_tied_plain_at .later [] [.data, .pinned] true (true, "d562f6f82d3cbabb7aa23bca09f5b7e3c7a387bd27e8de96ba63058a98a8a185") false over (fun _ h => by cases h) (by kernel_rfl) (fun _ h => by cases h) fnExactDepends_row_tie rfl ⟨rfl, rfl⟩ (by kernel_rfl) rfl
    (fun f fn hf hfn => by
      obtain rfl : f = 5 := Option.some.inj ((show Tryd.prog.funcNamed "loop.example/g00056/laws.FnExactDepends" = some 5 by kernel_rfl).symm.trans hf) |>.symm
      obtain rfl : fn = Tryd.f5 := (Option.some.inj (Tryd.func5.symm.trans hfn)).symm
      exact ⟨by kernel_rfl, fun j t ht => by
        rw [Tryd.params5] at ht
        have hm : t ∈ [22, 9] := by simpa using Array.mem_of_getElem? ht
        have hall : ([22, 9].all fun u => !Tryd.prog.wantsStandIn u) = true := by kernel_rfl
        exact (show Tryd.prog.wantsStandIn t = false by simpa using List.all_eq_true.1 hall t hm)⟩)
    (by kernel_rfl)
end Go.Proofs.YtiogkndjoinpoaaDoor.fnExactDepends
namespace Go.Proofs.YtiogkndjoinpoaaDoor
theorem fnExactDepends_holds : Rows.FnExactDependsCardSaid := fnExactDepends.proved
end Go.Proofs.YtiogkndjoinpoaaDoor

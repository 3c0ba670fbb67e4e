/- A part of the proof that the law FnCross answers true at every input. No conditions. -/
import Derived.Test.YtgnhcdchpeeoaaaQYPureDrawY
import Derived.OpenShut
import Derived.Test.YtgnhcdchpeeoaaaQYY5
set_option linter.unusedVariables false
namespace Go.Proofs.Ytgnhcdchpeeoaaa.PY
open Go.RowKit Go.Proofs.YtgnhcdchpeeoaaaW.PrintWords Go.Proofs.YtgnhcdchpeeoaaaW.PrintLast Go.Proofs.YtgnhcdchpeeoaaaW.PrintMore Plane
theorem points_l0D {l : List Int} : ∀ (c m : Nat) (p : List (Int × Int)) (s1 s2 : Int), St l m s1 s2 → m + 9 * c ≤ 700000000 → p.length + c ≤ 8000000000 → (∀ x ∈ p, InP x) →
    ∃ q : List (Int × Int), spec_PointsOf.l0 (c + 1) (p.map ptS) (c : Int) l s1 s2 = some (q.map ptS) ∧ q.length = p.length + c ∧ ∀ x ∈ q, InP x
  | 0, m, p, s1, s2, h, hm, hl, hin => ⟨p, by rw [spec_PointsOf.l0, if_neg (by omega)], rfl, hin⟩
  | c + 1, m, p, s1, s2, h, hm, hl, hin => by
    obtain ⟨x, t1, t2, e, hx, hs⟩ := point_okD h (by omega)
    obtain ⟨q, e2, hq, hin2⟩ := points_l0D c (m + 9) (p ++ [x]) t1 t2 hs (by omega) (by simp; omega) (by
      intro y hy; rw [List.mem_append, List.mem_singleton] at hy
      rcases hy with hy | rfl
      · exact hin y hy
      · exact hx)
    refine ⟨q, ?_, by rw [hq]; simp; omega, hin2⟩
    rw [spec_PointsOf.l0, if_pos (by omega), e]
    simp only [Option.bind_some]
    rw [if_pos (by rw [List.length_map]; omega), dw64 (by omega) (by omega)]
    rw [List.map_append] at e2
    rw [show ((c + 1 : Nat) : Int) - 1 = (c : Int) by omega]
    exact e2
theorem pointsOf_eq {l : List Int} {s z v t1 t2 : Int} {c : Nat} {r : List S34} (hs : (l.length : Int) % 1000 = s) (ez : spec_l00Src_size.f l 0 s 12 = some (z, 0, s)) (hz : wrap64 (z + 1) = z + 1)
    (e : spec_l00Src_next.f l 0 s (z + 1) = some (v, t1, t2)) (hv : wrap64 (4 + v) = (c : Int)) (k : Nat) (e2 : spec_PointsOf.l0 k [] (c : Int) l t1 t2 = some r) : spec_PointsOf.f k l = some r := by
  have h : spec_PointsOf.f k l = ((spec_l00Src_next.f l 0 s (wrap64 (z + 1))).bind fun bt154 => (spec_PointsOf.l0 k (([] : List (S34))) (wrap64 (4 + bt154.1)) l bt154.2.1 bt154.2.2)) := by
    subst hs
    unfold spec_PointsOf.f spec_l00Source.f
    rw [Option.bind_some]
    show (spec_l00Src_size.f l 0 _ 12).bind _ = _
    rw [ez, Option.bind_some]
  rw [h, hz, e, Option.bind_some]
  show spec_PointsOf.l0 k [] (wrap64 (4 + v)) l t1 t2 = some r
  rw [hv]; exact e2
theorem pointsOf_ok (l : List Int) (hb : ∀ x ∈ l, 0 ≤ x ∧ x ≤ 255) (hl : l.length ≤ 140737488351232) : ∃ k q, spec_PointsOf.f k l = some (q.map ptS) ∧ Four q := by
  obtain ⟨s, hS⟩ : ∃ s, (l.length : Int) % 1000 = s := ⟨_, rfl⟩
  have h0 : St l 0 0 s := ⟨hb, by omega, by omega, by omega, by omega⟩
  obtain ⟨z, ez, z1, z2⟩ := size_ok (l := l) 0 s hl 12 (by omega)
  obtain ⟨v, t1, t2, e, v0, v1, hs⟩ := next_ok h0 (by omega) (z + 1)
  obtain ⟨c, hc⟩ : ∃ c : Nat, 4 + v = (c : Int) := ⟨(4 + v).toNat, by omega⟩
  have hs3 : St l 3 t1 t2 := hs.mono (by omega)
  have hc16 : c ≤ 17 := by omega
  obtain ⟨q, e2, hq, hin⟩ := points_l0D (l := l) c 3 [] t1 t2 hs3 (by omega) (by rw [List.length_nil]; omega) (fun x hx => absurd hx List.not_mem_nil)
  rw [List.length_nil] at hq
  have at' : ∀ i, i < q.length → InP (q.getD i (0, 0)) := fun i hi => by rw [← List.getElem_eq_getD (h := hi)]; exact hin _ (List.getElem_mem hi)
  rw [List.map_nil] at e2
  exact ⟨c + 1, q, pointsOf_eq hS ez (dw64 (by omega) (by omega)) e ((dw64 (by omega) (by omega)).trans hc) (c + 1) e2, by omega, at' 0 (by omega), at' 1 (by omega), at' 2 (by omega), at' 3 (by omega)⟩
theorem FnCross_row (l0 : List Int) (hl : l0.length * 1 ≤ 140737488351232) (hw : ∀ x ∈ l0, (Lit.int .u8 x).wf = true) : ∃ k, laws_FnCross.f k l0 = some true := by
  have hb : ∀ x ∈ l0, 0 ≤ x ∧ x ≤ 255 := fun x hx => bounds_u8 (hw x hx)
  obtain ⟨k, q, e, h4⟩ := pointsOf_ok l0 hb (by omega)
  refine ⟨k, ?_⟩
  unfold laws_FnCross.f
  by_cases c : l0.length > 1048576
  · rw [if_pos c]
  · rw [if_neg c, e]
    simp only [Option.bind_some]
    have : (q.map ptS).map (fun s => (s.f0, s.f1)) = q := by rw [List.map_map]; exact List.map_id _
    rw [this, if_pos h4]
end Go.Proofs.Ytgnhcdchpeeoaaa.PY

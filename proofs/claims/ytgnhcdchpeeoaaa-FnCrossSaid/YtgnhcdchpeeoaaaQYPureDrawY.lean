/- Drawn numbers: a byte, a number below another, a point. No conditions. -/
import Derived.Test.YtgnhcdchpeeoaaaQYY1
import Derived.Test.YtgnhcdchpeeoaaaQYPureCrossLaw
set_option linter.unusedVariables false
namespace Go.Proofs.Ytgnhcdchpeeoaaa.PY
open Go.RowKit Go.Proofs.YtgnhcdchpeeoaaaW.PrintWords Go.Proofs.YtgnhcdchpeeoaaaW.PrintLast Go.Proofs.YtgnhcdchpeeoaaaW.PrintMore Plane
theorem dw64 {x : Int} (h1 : -9223372036854775808 ≤ x) (h2 : x ≤ 9223372036854775807) : wrap64 x = x := by unfold wrap64; omega
def St (l : List Int) (m : Nat) (s1 s2 : Int) : Prop := (∀ x ∈ l, 0 ≤ x ∧ x ≤ 255) ∧ 0 ≤ s1 ∧ s1 ≤ m ∧ 0 ≤ s2 ∧ s2 < 2147483648
theorem St.mono {l : List Int} {m m' : Nat} {s1 s2 : Int} (h : St l m s1 s2) (hm : m ≤ m') : St l m' s1 s2 := ⟨h.1, h.2.1, by have := h.2.2.1; omega, h.2.2.2⟩
theorem rd_in (l : List Int) (i : Int) (h0 : 0 ≤ i) (h1 : i < l.length) : rd l i ∈ l := by
  unfold rd; rw [List.getD_eq_getElem?_getD, List.getElem?_eq_getElem (by omega)]; exact List.getElem_mem _
theorem byte_ok {l : List Int} {m : Nat} {s1 s2 : Int} (h : St l m s1 s2) (hm : m ≤ 1000000000) :
    ∃ v t1 t2, spec_l00Src_byte.f l s1 s2 = some (v, t1, t2) ∧ 0 ≤ v ∧ v ≤ 255 ∧ St l (m + 1) t1 t2 := by
  obtain ⟨hl, h0, h1, h2, h3⟩ := h
  unfold spec_l00Src_byte.f
  rw [if_pos (by omega)]
  by_cases c : s1 < l.length
  · rw [if_pos c]
    have hr := hl _ (rd_in l s1 h0 c)
    rw [if_pos hr]
    exact ⟨_, _, _, rfl, hr.1, hr.2, hl, by omega, by omega, by omega, by omega⟩
  · rw [if_neg c]
    by_cases c2 : s1 + 1 > 3000
    · rw [if_pos c2]
      exact ⟨_, _, _, rfl, by omega, by omega, hl, by omega, by omega, by omega, by omega⟩
    · rw [if_neg c2]
      exact ⟨_, _, _, rfl, by omega, by omega, hl, by omega, by omega, by omega, by omega⟩
theorem tmod_rng {x a : Int} (hx : 0 ≤ x) (ha : 0 < a) : 0 ≤ Int.tmod x a ∧ Int.tmod x a < a := by
  rw [Int.tmod_eq_emod_of_nonneg hx]; exact ⟨Int.emod_nonneg _ (by omega), Int.emod_lt_of_pos _ ha⟩
theorem next_ok {l : List Int} {m : Nat} {s1 s2 : Int} (h : St l m s1 s2) (hm : m ≤ 900000000) (a : Int) :
    ∃ v t1 t2, spec_l00Src_next.f l s1 s2 a = some (v, t1, t2) ∧ 0 ≤ v ∧ (v < a ∨ v = 0) ∧ St l (m + 3) t1 t2 := by
  unfold spec_l00Src_next.f
  by_cases c1 : a ≤ 1
  · rw [if_pos c1]; exact ⟨_, _, _, rfl, by omega, .inr rfl, h.mono (by omega)⟩
  rw [if_neg c1]
  by_cases c2 : a ≤ 256
  · rw [if_pos c2]
    obtain ⟨v, t1, t2, e, v0, v1, hs⟩ := byte_ok h (by omega)
    rw [e]; simp only [Option.bind_some]
    rw [if_neg (by omega)]
    have := tmod_rng v0 (show 0 < a by omega)
    exact ⟨_, _, _, rfl, this.1, .inl this.2, hs.mono (by omega)⟩
  · rw [if_neg c2]
    obtain ⟨v, t1, t2, e, v0, v1, hs⟩ := byte_ok h (by omega)
    obtain ⟨v', t1', t2', e', v0', v1', hs'⟩ := byte_ok hs (by omega)
    obtain ⟨v'', t1'', t2'', e'', v0'', v1'', hs''⟩ := byte_ok hs' (by omega)
    rw [e]; simp only [Option.bind_some]
    rw [e']; simp only [Option.bind_some]
    rw [e'']; simp only [Option.bind_some]
    rw [if_neg (by omega), dw64 (x := v * 65536) (by omega) (by omega), dw64 (x := v' * 256) (by omega) (by omega), dw64 (x := v * 65536 + v' * 256) (by omega) (by omega), dw64 (x := v * 65536 + v' * 256 + v'') (by omega) (by omega)]
    have := tmod_rng (x := v * 65536 + v' * 256 + v'') (by omega) (show 0 < a by omega)
    exact ⟨_, _, _, rfl, this.1, .inl this.2, hs''⟩
theorem size_ok {l : List Int} (s1 s2 : Int) (hl : l.length ≤ 140737488351232) (a : Int) (ha : 1 ≤ a) : ∃ v, spec_l00Src_size.f l s1 s2 a = some (v, s1, s2) ∧ 1 ≤ v ∧ v ≤ a := by
  unfold spec_l00Src_size.f mn
  rw [dw64 (x := 1 + _) (by rw [dw64 (by omega) (by omega)]; omega) (by rw [dw64 (by omega) (by omega)]; omega), dw64 (x := (l.length : Int) / 12) (by omega) (by omega)]
  exact ⟨_, rfl, by split <;> omega, by split <;> omega⟩
theorem point_okD {l : List Int} {m : Nat} {s1 s2 : Int} (h : St l m s1 s2) (hm : m ≤ 800000000) :
    ∃ (p : Int × Int) (t1 t2 : Int), spec_l00Src_point.f l s1 s2 = some (p.1, p.2, t1, t2) ∧ InP p ∧ St l (m + 9) t1 t2 := by
  unfold spec_l00Src_point.f
  obtain ⟨v, t1, t2, e, v0, v1, hs⟩ := next_ok h (by omega) 9
  rw [e]; simp only [Option.bind_some]
  by_cases c0 : v = 0
  · rw [if_pos c0]
    obtain ⟨v', t1', t2', e', v0', v1', hs'⟩ := next_ok hs (by omega) 200001
    obtain ⟨v'', t1'', t2'', e'', v0'', v1'', hs''⟩ := next_ok hs' (by omega) 200001
    rw [e']; simp only [Option.bind_some]
    rw [e'']; simp only [Option.bind_some]
    rw [dw64 (x := v' - 100000) (by omega) (by omega), dw64 (x := v'' - 100000) (by omega) (by omega)]
    exact ⟨(v' - 100000, v'' - 100000), _, _, rfl, ⟨by unfold InAt; dsimp only; omega, by unfold InAt; dsimp only; omega⟩, hs''⟩
  rw [if_neg c0]
  by_cases c1 : v = 1
  · rw [if_pos c1]
    obtain ⟨v', t1', t2', e', v0', v1', hs'⟩ := next_ok hs (by omega) 3
    obtain ⟨v'', t1'', t2'', e'', v0'', v1'', hs''⟩ := next_ok hs' (by omega) 3
    rw [e']; simp only [Option.bind_some]
    rw [if_pos v0', if_pos (by simp; omega), e'']; simp only [Option.bind_some]
    rw [if_pos v0'', if_pos (by simp; omega)]
    refine ⟨(rd [100000, -100000, 0] v', rd [100000, -100000, 1] v''), _, _, rfl, ⟨?_, ?_⟩, hs''⟩
    · have := rd_in [100000, -100000, 0] v' v0' (by simp; omega)
      simp at this
      unfold InAt; dsimp only; omega
    · have := rd_in [100000, -100000, 1] v'' v0'' (by simp; omega)
      simp at this
      unfold InAt; dsimp only; omega
  · rw [if_neg c1]
    obtain ⟨v', t1', t2', e', v0', v1', hs'⟩ := next_ok hs (by omega) 13
    obtain ⟨v'', t1'', t2'', e'', v0'', v1'', hs''⟩ := next_ok hs' (by omega) 13
    rw [e']; simp only [Option.bind_some]
    rw [e'']; simp only [Option.bind_some]
    rw [dw64 (x := v' - 6) (by omega) (by omega), dw64 (x := v'' - 6) (by omega) (by omega)]
    exact ⟨(v' - 6, v'' - 6), _, _, rfl, ⟨by unfold InAt; dsimp only; omega, by unfold InAt; dsimp only; omega⟩, hs''⟩
end Go.Proofs.Ytgnhcdchpeeoaaa.PY

/- Drawn numbers: a byte, a number below another; holes and shafts. No conditions. -/
import Derived.Test.YtkijhilmgljegaaQTPureFitT
set_option linter.unusedVariables false
namespace Go.Proofs.Ytkijhilmgljegaa.PT
open Go.RowKit Go.Proofs.YtkijhilmgljegaaW.PrintWords Go.Proofs.YtkijhilmgljegaaW.PrintLast Go.Proofs.YtkijhilmgljegaaW.PrintMore
theorem dw64 {x : Int} (h1 : -9223372036854775808 ≤ x) (h2 : x ≤ 9223372036854775807) : wrap64 x = x := by unfold wrap64; omega
def St (l : List Int) (m : Nat) (s1 s2 : Int) : Prop := (∀ x ∈ l, 0 ≤ x ∧ x ≤ 255) ∧ 0 ≤ s1 ∧ s1 ≤ m ∧ 0 ≤ s2 ∧ s2 < 2147483648
theorem St.mono {l : List Int} {m m' : Nat} {s1 s2 : Int} (h : St l m s1 s2) (hm : m ≤ m') : St l m' s1 s2 := ⟨h.1, h.2.1, by have := h.2.2.1; omega, h.2.2.2⟩
theorem rd_in (l : List Int) (i : Int) (h0 : 0 ≤ i) (h1 : i < l.length) : rd l i ∈ l := by
  unfold rd; rw [List.getD_eq_getElem?_getD, List.getElem?_eq_getElem (by omega)]; exact List.getElem_mem _
theorem byte_ok {l : List Int} {m : Nat} {s1 s2 : Int} (h : St l m s1 s2) (hm : m ≤ 1000000000) :
    ∃ v t1 t2, spec_l00Src_byte.f l s1 s2 = some (v, t1, t2) ∧ 0 ≤ v ∧ v ≤ 255 ∧ St l (m + 1) t1 t2 := by
  obtain ⟨hl, h0, h1, h2, h3⟩ := h
  unfold spec_l00Src_byte.f
  rw [if_pos (by omega)]
  by_cases c : s1 < l.length
  · rw [if_pos c]
    have hr := hl _ (rd_in l s1 h0 c)
    rw [if_pos hr]
    exact ⟨_, _, _, rfl, hr.1, hr.2, hl, by omega, by omega, by omega, by omega⟩
  · rw [if_neg c]
    by_cases c2 : s1 + 1 > 3000
    · rw [if_pos c2]
      exact ⟨_, _, _, rfl, by omega, by omega, hl, by omega, by omega, by omega, by omega⟩
    · rw [if_neg c2]
      exact ⟨_, _, _, rfl, by omega, by omega, hl, by omega, by omega, by omega, by omega⟩
theorem tmod_rng {x a : Int} (hx : 0 ≤ x) (ha : 0 < a) : 0 ≤ Int.tmod x a ∧ Int.tmod x a < a := by
  rw [Int.tmod_eq_emod_of_nonneg hx]; exact ⟨Int.emod_nonneg _ (by omega), Int.emod_lt_of_pos _ ha⟩
theorem next_ok {l : List Int} {m : Nat} {s1 s2 : Int} (h : St l m s1 s2) (hm : m ≤ 900000000) (a : Int) :
    ∃ v t1 t2, spec_l00Src_next.f l s1 s2 a = some (v, t1, t2) ∧ 0 ≤ v ∧ (v < a ∨ v = 0) ∧ St l (m + 3) t1 t2 := by
  unfold spec_l00Src_next.f
  by_cases c1 : a ≤ 1
  · rw [if_pos c1]; exact ⟨_, _, _, rfl, by omega, .inr rfl, h.mono (by omega)⟩
  rw [if_neg c1]
  by_cases c2 : a ≤ 256
  · rw [if_pos c2]
    obtain ⟨v, t1, t2, e, v0, v1, hs⟩ := byte_ok h (by omega)
    rw [e]; simp only [Option.bind_some]
    rw [if_neg (by omega)]
    have := tmod_rng v0 (show 0 < a by omega)
    exact ⟨_, _, _, rfl, this.1, .inl this.2, hs.mono (by omega)⟩
  · rw [if_neg c2]
    obtain ⟨v, t1, t2, e, v0, v1, hs⟩ := byte_ok h (by omega)
    obtain ⟨v', t1', t2', e', v0', v1', hs'⟩ := byte_ok hs (by omega)
    obtain ⟨v'', t1'', t2'', e'', v0'', v1'', hs''⟩ := byte_ok hs' (by omega)
    rw [e]; simp only [Option.bind_some]
    rw [e']; simp only [Option.bind_some]
    rw [e'']; simp only [Option.bind_some]
    rw [if_neg (by omega), dw64 (x := v * 65536) (by omega) (by omega), dw64 (x := v' * 256) (by omega) (by omega), dw64 (x := v * 65536 + v' * 256) (by omega) (by omega), dw64 (x := v * 65536 + v' * 256 + v'') (by omega) (by omega)]
    have := tmod_rng (x := v * 65536 + v' * 256 + v'') (by omega) (show 0 < a by omega)
    exact ⟨_, _, _, rfl, this.1, .inl this.2, hs''⟩
theorem size_ok {l : List Int} (s1 s2 : Int) (hl : l.length ≤ 140737488351232) (a : Int) (ha : 1 ≤ a) : ∃ v, spec_l00Src_size.f l s1 s2 a = some (v, s1, s2) ∧ 1 ≤ v ∧ v ≤ a := by
  unfold spec_l00Src_size.f mn
  rw [dw64 (x := 1 + _) (by rw [dw64 (by omega) (by omega)]; omega) (by rw [dw64 (by omega) (by omega)]; omega), dw64 (x := (l.length : Int) / 12) (by omega) (by omega)]
  exact ⟨_, rfl, by split <;> omega, by split <;> omega⟩
theorem sizes_l0D {l : List Int} : ∀ (n : Nat) (x5 : List Int) (m : Nat) (s1 s2 : Int), n ≤ 20 → x5.length ≤ 100 - n → m ≤ 700000000 - 3 * n → St l m s1 s2 →
    ∃ (x : List Int) (t1 t2 : Int), Ev (fun k => spec_l00Src_sizes.l0 k x5 100 (n : Int) l s1 s2) (x, t1, t2) ∧ St l (m + 3 * n) t1 t2
  | 0, x5, m, s1, s2, hn, hx, hm, h => ⟨x5, s1, s2, Ev.step (fun k => by rw [spec_l00Src_sizes.l0]) (ev_ifF (by simp) (Ev.now _)), h⟩
  | n + 1, x5, m, s1, s2, hn, hx, hm, h => by
    obtain ⟨v, t1, t2, e, v0, v1, hs⟩ := next_ok h (by omega) 14
    obtain ⟨x, u1, u2, e', hs'⟩ := sizes_l0D n (x5 ++ [wrap64 (100 + v)]) (m + 3) t1 t2 (by omega) (by rw [List.length_append]; simp; omega) (by omega) hs
    refine ⟨x, u1, u2, ?_, hs'.mono (by omega)⟩
    refine Ev.step (fun k => by rw [spec_l00Src_sizes.l0]) ?_
    refine ev_ifT (show ((n + 1 : Nat) : Int) > 0 by omega) ?_
    refine ev_bindS e ?_
    refine ev_ifT (show x5.length < 17592186044416 by omega) ?_
    dsimp only
    rw [dw64 (x := ((n + 1 : Nat) : Int) - 1) (by omega) (by omega), show ((n + 1 : Nat) : Int) - 1 = n by omega]
    exact e'
theorem sizes_okD {l : List Int} (hl : l.length ≤ 140737488351232) {m : Nat} {s1 s2 : Int} (h : St l m s1 s2) (hm : m ≤ 600000000) :
    ∃ (x : List Int) (t1 t2 : Int), Ev (fun k => spec_l00Src_sizes.f k l s1 s2 12) (x, t1, t2) ∧ St l (m + 100) t1 t2 := by
  obtain ⟨v, e, v0, v1⟩ := size_ok (l := l) s1 s2 hl 12 (by omega)
  obtain ⟨w, t1, t2, e2, w0, w1, hs⟩ := next_ok h (by omega) (v + 2)
  obtain ⟨n, rfl⟩ := Int.eq_ofNat_of_zero_le w0
  obtain ⟨x, u1, u2, e3, hs3⟩ := sizes_l0D n [] (m + 3) t1 t2 (by omega) (by simp) (by omega) hs
  refine ⟨x, u1, u2, ?_, hs3.mono (by omega)⟩
  unfold spec_l00Src_sizes.f
  refine ev_bindS e ?_
  dsimp only
  rw [dw64 (x := v + 2) (by omega) (by omega)]
  exact ev_bindS e2 e3
theorem odd_okD {l : List Int} {m : Nat} {s1 s2 : Int} (h : St l m s1 s2) (hm : m ≤ 800000000) :
    ∃ v t1 t2, spec_l00Src_odd.f l s1 s2 = some (v, t1, t2) ∧ St l (m + 3) t1 t2 := by
  obtain ⟨v, t1, t2, e, v0, v1, hs⟩ := next_ok h (by omega) 12
  unfold spec_l00Src_odd.f
  simp only [Option.bind_some, e]
  rw [if_pos v0, if_pos (by simp; omega)]
  exact ⟨_, _, _, rfl, hs⟩
theorem mates_l0D {l : List Int} (x6 : List Int) (x8 x9 : Int) : ∀ (n : Nat) (x7 : List Int) (m : Nat) (s1 s2 : Int), n = 300 - x7.length → m ≤ 700000000 - 3 * n → St l m s1 s2 →
    ∃ (x7' : List Int) (t1 t2 : Int), Ev (fun k => spec_l00Src_mates.l0 k x6 x7 x8 x9 l s1 s2) (x6, x7', x8, x9, t1, t2) ∧ St l (m + 3 * n + 3) t1 t2
  | n, x7, m, s1, s2, hn, hm, h => by
    obtain ⟨v, t1, t2, e, v0, v1, hs⟩ := next_ok h (by omega) 3
    have hw : wrap64 (199 + v) = 199 + v := dw64 (by omega) (by omega)
    by_cases c : (x7.length : Int) < 199 + v
    · match n, hn, hm with
      | 0, hn, hm => omega
      | n + 1, hn, hm =>
        obtain ⟨x', u1, u2, e', hs'⟩ := mates_l0D x6 x8 x9 n (x7 ++ [(x7.length : Int)]) (m + 3) t1 t2 (by rw [List.length_append]; simp; omega) (by omega) hs
        refine ⟨x', u1, u2, Ev.step (fun k => by rw [spec_l00Src_mates.l0]) (ev_bindS e ?_), hs'.mono (by omega)⟩
        dsimp only
        rw [hw]
        exact ev_ifT c (ev_ifT (by omega) e')
    · refine ⟨x7, t1, t2, Ev.step (fun k => by rw [spec_l00Src_mates.l0]) (ev_bindS e ?_), hs.mono (by omega)⟩
      dsimp only
      rw [hw]
      exact ev_ifF c (Ev.now _)
theorem mates_okD {l : List Int} (hl : l.length ≤ 140737488351232) {m : Nat} {s1 s2 : Int} (h : St l m s1 s2) (hm : m ≤ 500000000) :
    ∃ (x y : List Int) (a b t1 t2 : Int), Ev (fun k => spec_l00Src_mates.f k l s1 s2) (x, y, a, b, t1, t2) ∧ St l (m + 10000) t1 t2 := by
  obtain ⟨x, t1, t2, e1, h1⟩ := sizes_okD hl h (by omega)
  obtain ⟨y, u1, u2, e2, h2⟩ := sizes_okD hl h1 (by omega)
  obtain ⟨v3, p1, p2, e3, v30, v31, h3⟩ := next_ok h2 (by omega) 8
  obtain ⟨v4, q1, q2, e4, v40, v41, h4⟩ := next_ok h3 (by omega) 5
  obtain ⟨v5, o1, o2, e5, v50, v51, h5⟩ := next_ok h4 (by omega) 30
  unfold spec_l00Src_mates.f
  by_cases c0 : v5 = 0
  · by_cases cx : (x.length : Int) > 0
    · obtain ⟨v6, r1, r2, e6, v60, v61, h6⟩ := next_ok h5 (by omega) (x.length : Int)
      obtain ⟨v7, n1, n2, e7, h7⟩ := odd_okD h6 (by omega)
      have hlt : v6 < (x.length : Int) := by rcases v61 with v61 | v61 <;> omega
      exact ⟨_, _, _, _, _, _, Ev.bind e1 (Ev.bind e2 (ev_bindS e3 (ev_bindS e4 (ev_bindS e5 (ev_ifT c0 (ev_ifT cx (ev_bindS e6 (ev_bindS e7 (ev_ifT v60 (ev_ifT hlt (Ev.now _))))))))))), h7.mono (by omega)⟩
    · exact ⟨_, _, _, _, _, _, Ev.bind e1 (Ev.bind e2 (ev_bindS e3 (ev_bindS e4 (ev_bindS e5 (ev_ifT c0 (ev_ifF cx (Ev.now _))))))), h5.mono (by omega)⟩
  by_cases c1 : v5 = 1
  · obtain ⟨v7, n1, n2, e7, h7⟩ := odd_okD h5 (by omega)
    exact ⟨_, _, _, _, _, _, Ev.bind e1 (Ev.bind e2 (ev_bindS e3 (ev_bindS e4 (ev_bindS e5 (ev_ifF c0 (ev_ifT c1 (ev_bindS e7 (Ev.now _)))))))), h7.mono (by omega)⟩
  by_cases c2 : v5 = 2
  · obtain ⟨v7, n1, n2, e7, h7⟩ := odd_okD h5 (by omega)
    exact ⟨_, _, _, _, _, _, Ev.bind e1 (Ev.bind e2 (ev_bindS e3 (ev_bindS e4 (ev_bindS e5 (ev_ifF c0 (ev_ifF c1 (ev_ifT c2 (ev_bindS e7 (Ev.now _))))))))), h7.mono (by omega)⟩
  by_cases c3 : v5 = 3
  · obtain ⟨y', n1, n2, e7, h7⟩ := mates_l0D (l := l) x (wrap64 (v3 - 3)) (wrap64 (wrap64 (v3 - 3) + v4)) _ y _ o1 o2 rfl (by omega) h5
    exact ⟨_, _, _, _, _, _, Ev.bind e1 (Ev.bind e2 (ev_bindS e3 (ev_bindS e4 (ev_bindS e5 (ev_ifF c0 (ev_ifF c1 (ev_ifF c2 (ev_ifT c3 e7)))))))), h7.mono (by omega)⟩
  · exact ⟨_, _, _, _, _, _, Ev.bind e1 (Ev.bind e2 (ev_bindS e3 (ev_bindS e4 (ev_bindS e5 (ev_ifF c0 (ev_ifF c1 (ev_ifF c2 (ev_ifF c3 (Ev.now _))))))))), h5.mono (by omega)⟩
theorem fine_of {l0 l1 : List Int} {a b : Int} (hc : codeP l0 l1 a b = 0) : fine l0 l1 a b := by
  unfold codeP at hc
  split at hc
  · exact absurd hc (by simp)
  · split at hc
    · assumption
    · exact absurd hc (by simp)
theorem matesOf_l0D {l : List Int} (hl : l.length ≤ 140737488351232) : ∀ (n i m : Nat) (s1 s2 : Int), n = 3 - i → i ≤ 3 → m ≤ 400000000 + 10000 * i → St l m s1 s2 →
    ∃ (x y : List Int) (a b : Int), Ev (fun k => spec_MatesOf.l0 k (i : Int) l s1 s2) (x, y, a, b) ∧ fine x y a b
  | 0, i, m, s1, s2, hn, hi, hm, h => ⟨_, _, _, _, Ev.step (fun k => by rw [spec_MatesOf.l0]) (ev_ifF (by omega) (Ev.now _)), by
      refine ⟨by simp, by simp, by decide, by decide, by omega, by omega, by omega, by omega, by omega⟩⟩
  | n + 1, i, m, s1, s2, hn, hi, hm, h => by
    obtain ⟨x, y, a, b, t1, t2, e, h1⟩ := mates_okD hl h (by omega)
    by_cases c : codeP x y a b = 0
    · exact ⟨x, y, a, b, Ev.step (fun k => by rw [spec_MatesOf.l0]) (ev_ifT (by omega) (Ev.bind e (Ev.bind (spec_code x y a b) (ev_ifT c (Ev.now _))))), fine_of c⟩
    · obtain ⟨x', y', a', b', e', hf⟩ := matesOf_l0D hl n (i + 1) (m + 10000) t1 t2 (by omega) (by omega) (by omega) h1
      refine ⟨x', y', a', b', Ev.step (fun k => by rw [spec_MatesOf.l0]) (ev_ifT (by omega) (Ev.bind e (Ev.bind (spec_code x y a b) (ev_ifF c ?_)))), hf⟩
      dsimp only
      rw [succ64 (i := i) (by omega)]
      exact e'
theorem matesOf_okD (l : List Int) (hl : l.length ≤ 140737488351232) (hb : ∀ x ∈ l, 0 ≤ x ∧ x ≤ 255) : ∃ (x y : List Int) (a b : Int), Ev (fun k => spec_MatesOf.f k l) (x, y, a, b) ∧ fine x y a b := by
  obtain ⟨x, y, a, b, e, hf⟩ := matesOf_l0D hl 3 0 0 0 ((l.length : Int) % 1000) (by omega) (by omega) (by omega) ⟨hb, by omega, by omega, by omega, by omega⟩
  refine ⟨x, y, a, b, ?_, hf⟩
  unfold spec_MatesOf.f spec_l00Source.f
  exact ev_bindS rfl e
end Go.Proofs.Ytkijhilmgljegaa.PT

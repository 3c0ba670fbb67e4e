/- A part of the proof that the law FnExactFlat answers true at every input. No conditions. -/
import Derived.Test.YtgnhcdchpeeoaaaQWPurePlane
set_option linter.unusedVariables false
namespace Go.Proofs.Ytgnhcdchpeeoaaa.Plane
theorem lessP_iff (p q : Int × Int) : lessP p q = true ↔ p.1 < q.1 ∨ p.1 = q.1 ∧ p.2 < q.2 := by simp [lessP]
theorem lessP_not (p q : Int × Int) : lessP p q = false ↔ q.1 < p.1 ∨ q.1 = p.1 ∧ q.2 ≤ p.2 := by
  simp only [lessP, decide_eq_false_iff_not]; omega
theorem on_between {px py qx qy x y : Int} (hs : side px py qx qy x y = 0) (hpq : lessP (qx, qy) (px, py) = false) :
    onB px py qx qy x y = true ↔ lessP (x, y) (px, py) = false ∧ lessP (qx, qy) (x, y) = false := by
  unfold onB
  simp only [decide_eq_true_eq, lessP_not, hs, true_and]
  rw [lessP_not] at hpq
  simp only at hpq
  unfold side at hs
  by_cases hx : px = qx
  · have hz : (qy - py) * (x - px) = 0 := by subst hx; rw [Int.sub_self, Int.zero_mul] at hs; omega
    rcases Int.mul_eq_zero.1 hz with h | h
    · constructor
      · intro h2; omega
      · intro h2; omega
    · constructor
      · intro h2; omega
      · intro h2; omega
  · have hlt : px < qx := by omega
    have e : (qx - px) * (y - py) = (qy - py) * (x - px) := by omega
    constructor
    · rintro ⟨h1, h2, h3, h4⟩
      have ha : x = px → y = py := fun h => by
        rw [h, Int.sub_self, Int.mul_zero] at e; rcases Int.mul_eq_zero.1 e with h | h <;> omega
      have hb : x = qx → y = qy := fun h => by
        rw [h, Int.mul_comm (qy - py)] at e
        have := Int.eq_of_mul_eq_mul_left (by omega) e
        omega
      omega
    · rintro ⟨h1, h2⟩
      have r0 : 0 ≤ x - px := by omega
      have r1 : x - px ≤ qx - px := by omega
      have key : min py qy ≤ y ∧ y ≤ max py qy := by
        rcases Int.le_total 0 (qy - py) with hE | hE
        · have a1 : 0 ≤ (qy - py) * (x - px) := Int.mul_nonneg hE r0
          have a2 : (qy - py) * (x - px) ≤ (qy - py) * (qx - px) := Int.mul_le_mul_of_nonneg_left r1 hE
          rw [← e] at a1 a2
          have b1 : 0 ≤ y - py := by
            refine Int.not_lt.1 fun hn => ?_
            have := Int.mul_neg_of_pos_of_neg (show 0 < qx - px by omega) hn
            omega
          rw [Int.mul_comm (qy - py)] at a2
          have b2 : y - py ≤ qy - py := Int.le_of_mul_le_mul_left a2 (by omega)
          omega
        · have a1 : (qy - py) * (x - px) ≤ 0 := Int.mul_nonpos_of_nonpos_of_nonneg hE r0
          have a2 : (qy - py) * (qx - px) ≤ (qy - py) * (x - px) := Int.mul_le_mul_of_nonpos_left hE r1
          rw [← e] at a1 a2
          have b1 : y - py ≤ 0 := by
            refine Int.not_lt.1 fun hn => ?_
            have := Int.mul_pos (show 0 < qx - px by omega) hn
            omega
          rw [Int.mul_comm (qy - py)] at a2
          have b2 : qy - py ≤ y - py := Int.le_of_mul_le_mul_left a2 (by omega)
          omega
      omega
theorem side_swap (px py qx qy x y : Int) : side qx qy px py x y = -side px py qx qy x y := by unfold side; grind
theorem on_comm (px py qx qy x y : Int) : onB px py qx qy x y = onB qx qy px py x y := by
  unfold onB
  rw [decide_eq_decide, side_swap px py qx qy x y]
  omega
def InP (p : Int × Int) : Prop := InAt p.1 ∧ InAt p.2
def key (p : Int × Int) : Int := p.1 * 1000003 + p.2
theorem key_lt {p q : Int × Int} (hp : InP p) (hq : InP q) : lessP p q = decide (key p < key q) := by
  unfold InP InAt at *; unfold lessP key; rw [decide_eq_decide]; omega
theorem key_inj {p q : Int × Int} (hp : InP p) (hq : InP q) (h : key p = key q) : p = q := by
  unfold InP InAt key at *; apply Prod.ext <;> omega
def mnL (p q : Int × Int) : Int × Int := if lessP q p then q else p
def mxL (p q : Int × Int) : Int × Int := if lessP q p then p else q
theorem mnL_in {p q} (hp : InP p) (hq : InP q) : InP (mnL p q) := by unfold mnL; split <;> assumption
theorem mxL_in {p q} (hp : InP p) (hq : InP q) : InP (mxL p q) := by unfold mxL; split <;> assumption
theorem mnL_key {p q} (hp : InP p) (hq : InP q) : key (mnL p q) = min (key p) (key q) := by
  unfold mnL; rw [key_lt hq hp]; split <;> (rename_i h; simp at h; omega)
theorem mxL_key {p q} (hp : InP p) (hq : InP q) : key (mxL p q) = max (key p) (key q) := by
  unfold mxL; rw [key_lt hq hp]; split <;> (rename_i h; simp at h; omega)
theorem mnL_or (p q) : mnL p q = p ∨ mnL p q = q := by unfold mnL; split <;> simp
theorem mxL_or (p q) : mxL p q = p ∨ mxL p q = q := by unfold mxL; split <;> simp
theorem on_key {a b x : Int × Int} (ha : InP a) (hb : InP b) (hx : InP x) (hs : side a.1 a.2 b.1 b.2 x.1 x.2 = 0) :
    onB a.1 a.2 b.1 b.2 x.1 x.2 = true ↔ min (key a) (key b) ≤ key x ∧ key x ≤ max (key a) (key b) := by
  by_cases h : lessP (b.1, b.2) (a.1, a.2) = true
  · rw [on_comm, on_between (by rw [side_swap]; omega) (by
        rw [show ((a.1, a.2) : Int × Int) = a from rfl, show ((b.1, b.2) : Int × Int) = b from rfl, key_lt hb ha] at *
        rw [key_lt ha hb]; simp at *; omega)]
    rw [show ((a.1, a.2) : Int × Int) = a from rfl, show ((b.1, b.2) : Int × Int) = b from rfl, show ((x.1, x.2) : Int × Int) = x from rfl] at *
    rw [key_lt hb ha] at h; rw [key_lt hx hb, key_lt ha hx]
    simp at *; omega
  · have h' : lessP (b.1, b.2) (a.1, a.2) = false := by simpa using h
    rw [on_between hs h']
    rw [show ((a.1, a.2) : Int × Int) = a from rfl, show ((b.1, b.2) : Int × Int) = b from rfl, show ((x.1, x.2) : Int × Int) = x from rfl] at *
    rw [key_lt hb ha] at h; rw [key_lt hx ha, key_lt hb hx]
    simp at *; omega
theorem putP_mem (l : List (Int × Int)) (p x : Int × Int) : x ∈ putP l p ↔ x ∈ l ∨ x = p := by
  unfold putP; split
  · constructor
    · exact .inl
    · rintro (h | rfl) <;> assumption
  · simp
theorem putP_nodup {l : List (Int × Int)} (h : l.Nodup) (p : Int × Int) : (putP l p).Nodup := by
  unfold putP; split
  · exact h
  · rw [List.nodup_append]
    refine ⟨h, by simp, ?_⟩
    intro x hx y hy; simp at hy; subst hy; intro e; subst e; contradiction
theorem putIf_mem (c : Bool) (l : List (Int × Int)) (p x : Int × Int) : x ∈ (if c then putP l p else l) ↔ x ∈ l ∨ (c = true ∧ x = p) := by
  cases c <;> simp [putP_mem]
theorem putIf_nodup (c : Bool) {l : List (Int × Int)} (h : l.Nodup) (p : Int × Int) : (if c then putP l p else l).Nodup := by
  cases c
  · exact h
  · exact putP_nodup h p
theorem endsL_mem (a b c d x : Int × Int) : x ∈ endsL a.1 a.2 b.1 b.2 c.1 c.2 d.1 d.2 ↔
    onB c.1 c.2 d.1 d.2 a.1 a.2 = true ∧ x = a ∨ onB c.1 c.2 d.1 d.2 b.1 b.2 = true ∧ x = b ∨
    onB a.1 a.2 b.1 b.2 c.1 c.2 = true ∧ x = c ∨ onB a.1 a.2 b.1 b.2 d.1 d.2 = true ∧ x = d := by
  unfold endsL
  simp only [putIf_mem, List.not_mem_nil, false_or, or_assoc]
theorem endsL_nodup (ax ay bx by' cx cy dx dy : Int) : (endsL ax ay bx by' cx cy dx dy).Nodup := by
  unfold endsL
  exact putIf_nodup _ (putIf_nodup _ (putIf_nodup _ (putIf_nodup _ (by simp) _) _) _) _
theorem loP_spec : ∀ (l : List (Int × Int)) (p : Int × Int), InP p → (∀ x ∈ l, InP x) →
    (loP p l = p ∨ loP p l ∈ l) ∧ key (loP p l) ≤ key p ∧ ∀ x ∈ l, key (loP p l) ≤ key x
  | [], p, hp, hl => by simp [loP]
  | q :: l, p, hp, hl => by
    have hq := hl q (by simp)
    have ih := loP_spec l (if lessP q p then q else p) (by split <;> assumption) (fun x hx => hl x (by simp [hx]))
    have e : loP p (q :: l) = loP (if lessP q p then q else p) l := rfl
    have hk : key (if lessP q p = true then q else p) = min (key p) (key q) := mnL_key hp hq
    rw [e]
    rw [hk] at ih
    refine ⟨?_, by omega, ?_⟩
    · rcases ih.1 with h | h
      · rw [h]; split <;> simp
      · right; simp [h]
    · intro x hx
      rcases List.mem_cons.1 hx with rfl | hx
      · omega
      · exact ih.2.2 x hx
theorem hiP_spec : ∀ (l : List (Int × Int)) (p : Int × Int), InP p → (∀ x ∈ l, InP x) →
    (hiP p l = p ∨ hiP p l ∈ l) ∧ key p ≤ key (hiP p l) ∧ ∀ x ∈ l, key x ≤ key (hiP p l)
  | [], p, hp, hl => by simp [hiP]
  | q :: l, p, hp, hl => by
    have hq := hl q (by simp)
    have ih := hiP_spec l (if lessP p q then q else p) (by split <;> assumption) (fun x hx => hl x (by simp [hx]))
    have e : hiP p (q :: l) = hiP (if lessP p q then q else p) l := rfl
    have hk : key (if lessP p q = true then q else p) = max (key p) (key q) := by
      rw [key_lt hp hq]; split <;> (rename_i h; simp at h; omega)
    rw [e]
    rw [hk] at ih
    refine ⟨?_, by omega, ?_⟩
    · rcases ih.1 with h | h
      · rw [h]; split <;> simp
      · right; simp [h]
    · intro x hx
      rcases List.mem_cons.1 hx with rfl | hx
      · omega
      · exact ih.2.2 x hx
theorem endsP_of {l : List (Int × Int)} (hn : l.Nodup) (hin : ∀ x ∈ l, InP x) {p q : Int × Int} (hp : p ∈ l) (hq : q ∈ l)
    (hb : ∀ x ∈ l, key p ≤ key x ∧ key x ≤ key q) :
    endsP l = if p = q then [(p.1, p.2, 1)] else [(p.1, p.2, 1), (q.1, q.2, 1)] := by
  match l, hn, hin, hp, hq, hb with
  | [], _, _, hp, _, _ => simp at hp
  | [x], _, _, hp, hq, _ => simp at hp hq; subst hp hq; simp [endsP]
  | x :: y :: l, hn, hin, hp, hq, hb =>
    have h1 := loP_spec (y :: l) x (hin x (by simp)) (fun z hz => hin z (by simp at hz ⊢; right; exact hz))
    have h2 := hiP_spec (y :: l) x (hin x (by simp)) (fun z hz => hin z (by simp at hz ⊢; right; exact hz))
    have m1 : loP x (y :: l) ∈ x :: y :: l := h1.1.elim (fun h => by simp [h]) (fun h => List.mem_cons_of_mem _ h)
    have m2 : hiP x (y :: l) ∈ x :: y :: l := h2.1.elim (fun h => by simp [h]) (fun h => List.mem_cons_of_mem _ h)
    have e1 : loP x (y :: l) = p := by
      apply key_inj (hin _ m1) (hin _ hp)
      have := (hb _ m1).1
      rcases List.mem_cons.1 hp with rfl | h
      · omega
      · have := h1.2.2 _ h; omega
    have e2 : hiP x (y :: l) = q := by
      apply key_inj (hin _ m2) (hin _ hq)
      have := (hb _ m2).2
      rcases List.mem_cons.1 hq with rfl | h
      · omega
      · have := h2.2.2 _ h; omega
    have hne : p ≠ q := fun e => by
      subst e
      have a1 := hb x (by simp); have a2 := hb y (by simp)
      have : x = y := key_inj (hin _ (by simp)) (hin _ (by simp)) (by omega)
      subst this; simp at hn
    simp only [endsP, e1, e2, if_neg hne]
def alongP (a b c d : Int × Int) : List (Int × Int × Int) :=
  let f := mxL (mnL a b) (mnL c d); let t := mnL (mxL a b) (mxL c d)
  if f = t then [(f.1, f.2, 1)] else if lessP f t then [(f.1, f.2, 1), (t.1, t.2, 1)] else []
theorem ends_along {a b c d : Int × Int} (ha : InP a) (hb : InP b) (hc : InP c) (hd : InP d)
    (s1 : side a.1 a.2 b.1 b.2 c.1 c.2 = 0) (s2 : side a.1 a.2 b.1 b.2 d.1 d.2 = 0)
    (s3 : side c.1 c.2 d.1 d.2 a.1 a.2 = 0) (s4 : side c.1 c.2 d.1 d.2 b.1 b.2 = 0) :
    endsP (endsL a.1 a.2 b.1 b.2 c.1 c.2 d.1 d.2) = alongP a b c d := by
  have hm := endsL_mem a b c d
  simp only [on_key hc hd ha s3, on_key hc hd hb s4, on_key ha hb hc s1, on_key ha hb hd s2] at hm
  have hn := endsL_nodup a.1 a.2 b.1 b.2 c.1 c.2 d.1 d.2
  generalize endsL a.1 a.2 b.1 b.2 c.1 c.2 d.1 d.2 = l at hm hn ⊢
  have hin : ∀ x ∈ l, InP x := fun x hx => by
    rcases (hm x).1 hx with h | h | h | h <;> (rw [h.2]; assumption)
  unfold alongP
  have hf := mxL_in (mnL_in ha hb) (mnL_in hc hd)
  have ht := mnL_in (mxL_in ha hb) (mxL_in hc hd)
  have kf := mxL_key (mnL_in ha hb) (mnL_in hc hd)
  have kt := mnL_key (mxL_in ha hb) (mxL_in hc hd)
  have of : mxL (mnL a b) (mnL c d) = a ∨ mxL (mnL a b) (mnL c d) = b ∨ mxL (mnL a b) (mnL c d) = c ∨ mxL (mnL a b) (mnL c d) = d := by
    rcases mxL_or (mnL a b) (mnL c d) with h | h <;> rw [h]
    · rcases mnL_or a b with h | h <;> simp [h]
    · rcases mnL_or c d with h | h <;> simp [h]
  have ot : mnL (mxL a b) (mxL c d) = a ∨ mnL (mxL a b) (mxL c d) = b ∨ mnL (mxL a b) (mxL c d) = c ∨ mnL (mxL a b) (mxL c d) = d := by
    rcases mnL_or (mxL a b) (mxL c d) with h | h <;> rw [h]
    · rcases mxL_or a b with h | h <;> simp [h]
    · rcases mxL_or c d with h | h <;> simp [h]
  rw [mnL_key ha hb, mnL_key hc hd] at kf
  rw [mxL_key ha hb, mxL_key hc hd] at kt
  generalize mxL (mnL a b) (mnL c d) = f at *
  generalize mnL (mxL a b) (mxL c d) = t at *
  dsimp only
  by_cases hle : key f ≤ key t
  · have mf : f ∈ l := (hm f).2 (by
      rcases of with h | h | h | h
      · left; subst h; exact ⟨by omega, rfl⟩
      · right; left; subst h; exact ⟨by omega, rfl⟩
      · right; right; left; subst h; exact ⟨by omega, rfl⟩
      · right; right; right; subst h; exact ⟨by omega, rfl⟩)
    have mt : t ∈ l := (hm t).2 (by
      rcases ot with h | h | h | h
      · left; subst h; exact ⟨by omega, rfl⟩
      · right; left; subst h; exact ⟨by omega, rfl⟩
      · right; right; left; subst h; exact ⟨by omega, rfl⟩
      · right; right; right; subst h; exact ⟨by omega, rfl⟩)
    rw [endsP_of hn hin mf mt (fun x hx => by
      rcases (hm x).1 hx with h | h | h | h <;> (obtain ⟨h1, rfl⟩ := h; omega))]
    by_cases he : f = t
    · rw [if_pos he, if_pos he]
    · have : lessP f t = true := by
        rw [key_lt hf ht]; simp
        have : key f ≠ key t := fun h => he (key_inj hf ht h)
        omega
      rw [if_neg he, if_neg he, if_pos this]
  · have hl : l = [] := by
      refine List.eq_nil_iff_forall_not_mem.2 fun x hx => ?_
      rcases (hm x).1 hx with h | h | h | h <;> (obtain ⟨h1, rfl⟩ := h; omega)
    rw [hl, if_neg (fun h => by rw [h] at hle; omega), if_neg (by rw [key_lt hf ht]; simp; omega)]
    rfl
theorem along_comm {a b c d : Int × Int} (ha : InP a) (hb : InP b) (hc : InP c) (hd : InP d) : alongP a b c d = alongP c d a b := by
  have e1 : mxL (mnL a b) (mnL c d) = mxL (mnL c d) (mnL a b) := by
    apply key_inj (mxL_in (mnL_in ha hb) (mnL_in hc hd)) (mxL_in (mnL_in hc hd) (mnL_in ha hb))
    rw [mxL_key (mnL_in ha hb) (mnL_in hc hd), mxL_key (mnL_in hc hd) (mnL_in ha hb)]; omega
  have e2 : mnL (mxL a b) (mxL c d) = mnL (mxL c d) (mxL a b) := by
    apply key_inj (mnL_in (mxL_in ha hb) (mxL_in hc hd)) (mnL_in (mxL_in hc hd) (mxL_in ha hb))
    rw [mnL_key (mxL_in ha hb) (mxL_in hc hd), mnL_key (mxL_in hc hd) (mxL_in ha hb)]; omega
  unfold alongP; rw [e1, e2]
def Dn (a b c d : Int × Int) : Int := (b.1 - a.1) * (d.2 - c.2) - (b.2 - a.2) * (d.1 - c.1)
theorem side_c (a b c d : Int × Int) : side a.1 a.2 b.1 b.2 d.1 d.2 = Dn a b c d + side a.1 a.2 b.1 b.2 c.1 c.2 := by unfold side Dn; grind
theorem side_a (a b c d : Int × Int) : side c.1 c.2 d.1 d.2 b.1 b.2 = side c.1 c.2 d.1 d.2 a.1 a.2 - Dn a b c d := by unfold side Dn; grind
theorem onB_side {ax ay bx b' x y : Int} (h : onB ax ay bx b' x y = true) : side ax ay bx b' x y = 0 := by unfold onB at h; simp at h; exact h.1
theorem cross_zero {a b c d : Int × Int} (hD : Dn a b c d = 0) (hz : ¬ (side a.1 a.2 b.1 b.2 c.1 c.2 = 0 ∧ side c.1 c.2 d.1 d.2 a.1 a.2 = 0)) :
    endsL a.1 a.2 b.1 b.2 c.1 c.2 d.1 d.2 = [] := by
  have h1 := side_c a b c d; have h2 := side_a a b c d
  refine List.eq_nil_iff_forall_not_mem.2 fun x hx => ?_
  have key1 : side c.1 c.2 d.1 d.2 a.1 a.2 = 0 → side a.1 a.2 b.1 b.2 c.1 c.2 ≠ 0 → c = d := by
    intro e ne
    unfold side at e ne; unfold Dn at hD
    have q1 : ((b.1 - a.1) * (c.2 - a.2) - (b.2 - a.2) * (c.1 - a.1)) * (d.1 - c.1) = 0 := by grind
    have q2 : ((b.1 - a.1) * (c.2 - a.2) - (b.2 - a.2) * (c.1 - a.1)) * (d.2 - c.2) = 0 := by grind
    rcases Int.mul_eq_zero.1 q1 with h | h
    · exact absurd h ne
    rcases Int.mul_eq_zero.1 q2 with h' | h'
    · exact absurd h' ne
    apply Prod.ext <;> omega
  have key2 : side a.1 a.2 b.1 b.2 c.1 c.2 = 0 → side c.1 c.2 d.1 d.2 a.1 a.2 ≠ 0 → a = b := by
    intro e ne
    unfold side at e ne; unfold Dn at hD
    have q1 : ((d.1 - c.1) * (a.2 - c.2) - (d.2 - c.2) * (a.1 - c.1)) * (b.1 - a.1) = 0 := by grind
    have q2 : ((d.1 - c.1) * (a.2 - c.2) - (d.2 - c.2) * (a.1 - c.1)) * (b.2 - a.2) = 0 := by grind
    rcases Int.mul_eq_zero.1 q1 with h | h
    · exact absurd h ne
    rcases Int.mul_eq_zero.1 q2 with h' | h'
    · exact absurd h' ne
    apply Prod.ext <;> omega
  have one : ∀ {p x : Int × Int}, onB p.1 p.2 p.1 p.2 x.1 x.2 = true → x = p := by
    intro p x h; unfold onB at h; simp at h; apply Prod.ext <;> omega
  have self : ∀ (p q : Int × Int), side p.1 p.2 q.1 q.2 p.1 p.2 = 0 := by intro p q; unfold side; grind
  rcases (endsL_mem a b c d x).1 hx with h | h | h | h
  · have e := onB_side h.1
    have hne : side a.1 a.2 b.1 b.2 c.1 c.2 ≠ 0 := fun h' => hz ⟨h', e⟩
    have := key1 e hne; subst this
    have := one h.1; subst this
    exact hne (self _ _)
  · have e := onB_side h.1
    have hne : side a.1 a.2 b.1 b.2 c.1 c.2 ≠ 0 := fun h' => hz ⟨h', by omega⟩
    have := key1 (by omega) hne; subst this
    have := one h.1; subst this
    apply hne; unfold side; grind
  · have e := onB_side h.1
    have hne : side c.1 c.2 d.1 d.2 a.1 a.2 ≠ 0 := fun h' => hz ⟨e, h'⟩
    have := key2 e hne; subst this
    have := one h.1; subst this
    exact hne (self _ _)
  · have e := onB_side h.1
    have hne : side c.1 c.2 d.1 d.2 a.1 a.2 ≠ 0 := fun h' => hz ⟨by omega, h'⟩
    have := key2 (by omega) hne; subst this
    have := one h.1; subst this
    apply hne; unfold side; grind
theorem crossP_eq {a b c d : Int × Int} (ha : InP a) (hb : InP b) (hc : InP c) (hd : InP d) :
    crossP a.1 a.2 b.1 b.2 c.1 c.2 d.1 d.2 =
      if Dn a b c d < 0 then crossN a.1 a.2 (b.1 - a.1) (b.2 - a.2) (-side c.1 c.2 d.1 d.2 a.1 a.2) (side a.1 a.2 b.1 b.2 c.1 c.2) (-Dn a b c d)
      else if 0 < Dn a b c d then crossN a.1 a.2 (b.1 - a.1) (b.2 - a.2) (side c.1 c.2 d.1 d.2 a.1 a.2) (-side a.1 a.2 b.1 b.2 c.1 c.2) (Dn a b c d)
      else if side a.1 a.2 b.1 b.2 c.1 c.2 = 0 ∧ side c.1 c.2 d.1 d.2 a.1 a.2 = 0 then alongP a b c d else [] := by
  have en : (c.1 - a.1) * (d.2 - c.2) - (c.2 - a.2) * (d.1 - c.1) = side c.1 c.2 d.1 d.2 a.1 a.2 := by unfold side; grind
  have em : (c.1 - a.1) * (b.2 - a.2) - (c.2 - a.2) * (b.1 - a.1) = -side a.1 a.2 b.1 b.2 c.1 c.2 := by unfold side; grind
  unfold crossP
  simp only [en, em, Int.neg_neg]
  rw [show (b.1 - a.1) * (d.2 - c.2) - (b.2 - a.2) * (d.1 - c.1) = Dn a b c d from rfl]
  split
  · rfl
  · split
    · rfl
    · have hD : Dn a b c d = 0 := by omega
      have h1 := side_c a b c d; have h2 := side_a a b c d
      split
      · rename_i h
        exact ends_along ha hb hc hd h.1 (by omega) h.2 (by omega)
      · rename_i h
        rw [cross_zero hD h]; rfl
theorem crossP_len {a b c d : Int × Int} (ha : InP a) (hb : InP b) (hc : InP c) (hd : InP d) :
    (crossP a.1 a.2 b.1 b.2 c.1 c.2 d.1 d.2).length = (crossP c.1 c.2 d.1 d.2 a.1 a.2 b.1 b.2).length := by
  rw [crossP_eq ha hb hc hd, crossP_eq hc hd ha hb]
  have e : Dn c d a b = -Dn a b c d := by unfold Dn; grind
  have L : ∀ ax ay dx dy cx cy ex ey n m D : Int, (crossN ax ay dx dy n m D).length = (crossN cx cy ex ey m n D).length := by
    intros; unfold crossN; split <;> split <;> first | rfl | (exfalso; omega)
  rw [e, Int.neg_neg]
  rcases Int.lt_trichotomy (Dn a b c d) 0 with h | h | h
  · rw [if_pos h, if_neg (by omega : ¬ -Dn a b c d < 0), if_pos (by omega : 0 < -Dn a b c d)]; exact L _ _ _ _ _ _ _ _ _ _ _
  · rw [if_neg (by omega : ¬ Dn a b c d < 0), if_neg (by omega : ¬ 0 < Dn a b c d), if_neg (by omega : ¬ -Dn a b c d < 0), if_neg (by omega : ¬ 0 < -Dn a b c d), along_comm ha hb hc hd]
    simp only [And.comm]
  · rw [if_neg (by omega : ¬ Dn a b c d < 0), if_pos h, if_pos (by omega : -Dn a b c d < 0)]; exact L _ _ _ _ _ _ _ _ _ _ _
end Go.Proofs.Ytgnhcdchpeeoaaa.Plane

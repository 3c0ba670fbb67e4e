/- What sort.SliceStable's family computes (swapRange, rotate, symMerge, stable) as plain functions on an array, and that it is a stable order. Conditions: none. -/
import Derived.Sort.LotA
namespace Go.Proofs.Ytkijhilmgljegaa.Sym
open Go.Sort
variable {α : Type} [Inhabited α]
def swR (a b : Nat) : Nat → Nat → Array α → Array α
  | 0, _, d => d
  | n + 1, i, d => swR a b n (i + 1) (swp d (a + i) (b + i))
def swapRange (d : Array α) (a b n : Nat) : Array α := swR a b n 0 d
def rot (m : Nat) : Nat → Nat → Nat → Array α → Array α
  | 0, _, _, d => d
  | f + 1, i, j, d =>
    if i = j then swapRange d (m - i) m i
    else if j < i then rot m f (i - j) j (swapRange d (m - i) m j)
    else rot m f i (j - i) (swapRange d (m - i) (m + j - i) i)
def bs (p : Nat → Bool) (i j : Nat) : Nat :=
  if i < j then (if p ((i + j) / 2) = true then bs p ((i + j) / 2 + 1) j else bs p i ((i + j) / 2)) else i
termination_by j - i
decreasing_by all_goals omega
def shU : Nat → Nat → Array α → Array α
  | 0, _, d => d
  | n + 1, k, d => shU n (k + 1) (swp d k (k + 1))
def shD (i : Nat) : Nat → Array α → Array α
  | 0, d => d
  | k + 1, d => if i < k + 1 then shD i k (swp d (k + 1) k) else d
def lo3 (a m b : Nat) : Nat := if (a + b) / 2 < m then (a + b) / 2 + m - b else a
def hi3 (a m b : Nat) : Nat := if (a + b) / 2 < m then (a + b) / 2 else m
def st3 (lt : α → α → Bool) (d : Array α) (a m b : Nat) : Nat := bs (fun c => !lt d[(a + b) / 2 + m - 1 - c]! d[c]!) (lo3 a m b) (hi3 a m b)
def en3 (lt : α → α → Bool) (d : Array α) (a m b : Nat) : Nat := (a + b) / 2 + m - st3 lt d a m b
def ro3 (lt : α → α → Bool) (d : Array α) (a m b : Nat) : Array α :=
  if st3 lt d a m b < m ∧ m < en3 lt d a m b then rot m d.size (m - st3 lt d a m b) (en3 lt d a m b - m) d else d
def symMerge (lt : α → α → Bool) : Nat → Array α → Nat → Nat → Nat → Array α
  | 0, d, _, _, _ => d
  | f + 1, d, a, m, b =>
    if m - a = 1 then shU (bs (fun h => lt d[h]! d[a]!) m b - 1 - a) a d
    else if b - m = 1 then shD (bs (fun h => !lt d[m]! d[h]!) a m) m d
    else
      let d2 := if a < st3 lt d a m b ∧ st3 lt d a m b < (a + b) / 2 then symMerge lt f (ro3 lt d a m b) a (st3 lt d a m b) ((a + b) / 2) else ro3 lt d a m b
      if (a + b) / 2 < en3 lt d a m b ∧ en3 lt d a m b < b then symMerge lt f d2 ((a + b) / 2) (en3 lt d a m b) b else d2
def insBl (lt : α → α → Bool) (n : Nat) : Nat → Nat → Array α → Array α
  | 0, _, d => d
  | f + 1, a, d => if a + 20 ≤ n then insBl lt n f (a + 20) (insertionSort lt d a (a + 20)) else insertionSort lt d a n
def mrgRow (lt : α → α → Bool) (n s : Nat) : Nat → Nat → Array α → Array α
  | 0, _, d => d
  | f + 1, a, d => if a + 2 * s ≤ n then mrgRow lt n s f (a + 2 * s) (symMerge lt n d a (a + s) (a + 2 * s)) else if a + s < n then symMerge lt n d a (a + s) n else d
def mrgAll (lt : α → α → Bool) (n : Nat) : Nat → Nat → Array α → Array α
  | 0, _, d => d
  | f + 1, s, d => if s < n then mrgAll lt n f (2 * s) (mrgRow lt n s (n + 1) 0 d) else d
def stable (lt : α → α → Bool) (d : Array α) : Array α := mrgAll lt d.size (d.size + 1) 20 (insBl lt d.size (d.size + 1) 0 d)
theorem size_swR (a b : Nat) : ∀ (n i : Nat) (d : Array α), (swR a b n i d).size = d.size
  | 0, _, _ => rfl
  | n + 1, i, d => by rw [swR, size_swR a b n, swp_size]
theorem size_swapRange (d : Array α) (a b n : Nat) : (swapRange d a b n).size = d.size := size_swR _ _ _ _ _
theorem size_rot (m : Nat) : ∀ (f i j : Nat) (d : Array α), (rot m f i j d).size = d.size
  | 0, _, _, _ => rfl
  | f + 1, i, j, d => by
    rw [rot]; split
    · exact size_swapRange _ _ _ _
    · split
      · rw [size_rot m f, size_swapRange]
      · rw [size_rot m f, size_swapRange]
theorem size_shU : ∀ (n k : Nat) (d : Array α), (shU n k d).size = d.size
  | 0, _, _ => rfl
  | n + 1, k, d => by rw [shU, size_shU n, swp_size]
theorem size_shD (i : Nat) : ∀ (k : Nat) (d : Array α), (shD i k d).size = d.size
  | 0, _ => rfl
  | k + 1, d => by rw [shD]; split; rw [size_shD i k, swp_size]; rfl
theorem size_ro3 (lt : α → α → Bool) (d : Array α) (a m b : Nat) : (ro3 lt d a m b).size = d.size := by
  unfold ro3; split; exact size_rot _ _ _ _ _; rfl
theorem size_symMerge (lt : α → α → Bool) : ∀ (f : Nat) (d : Array α) (a m b : Nat), (symMerge lt f d a m b).size = d.size
  | 0, _, _, _, _ => rfl
  | f + 1, d, a, m, b => by
    rw [symMerge]
    split
    · exact size_shU _ _ _
    · split
      · exact size_shD _ _ _
      · simp only
        have h1 : (if a < st3 lt d a m b ∧ st3 lt d a m b < (a + b) / 2 then symMerge lt f (ro3 lt d a m b) a (st3 lt d a m b) ((a + b) / 2) else ro3 lt d a m b).size = d.size := by
          split
          · rw [size_symMerge lt f, size_ro3]
          · exact size_ro3 _ _ _ _ _
        split
        · rw [size_symMerge lt f, h1]
        · exact h1
theorem perm_swR (lo hi a b : Nat) : ∀ (n i : Nat) (d : Array α), lo ≤ a + i → lo ≤ b + i → a + i + n ≤ hi → b + i + n ≤ hi → hi ≤ d.size → PermIn lo hi d (swR a b n i d)
  | 0, _, d, _, _, _, _, _ => permIn_refl d lo hi
  | n + 1, i, d, h1, h2, h3, h4, h5 => by
    rw [swR]
    exact permIn_trans _ _ _ lo hi (swp_permIn d lo hi (a + i) (b + i) h1 (by omega) h2 (by omega) h5) (perm_swR lo hi a b n (i + 1) _ (by omega) (by omega) (by omega) (by omega) (by rw [swp_size]; exact h5))
theorem perm_rot (lo hi m : Nat) : ∀ (f i j : Nat) (d : Array α), i ≤ m → lo ≤ m - i → m + j ≤ hi → hi ≤ d.size → PermIn lo hi d (rot m f i j d)
  | 0, _, _, d, _, _, _, _ => permIn_refl d lo hi
  | f + 1, i, j, d, h1, h2, h3, h4 => by
    rw [rot]; split
    · exact perm_swR lo hi _ _ _ _ _ (by omega) (by omega) (by omega) (by omega) h4
    · split
      · exact permIn_trans _ _ _ lo hi (perm_swR lo hi _ _ _ _ _ (by omega) (by omega) (by omega) (by omega) h4) (perm_rot lo hi m f _ _ _ (by omega) (by omega) (by omega) (by rw [size_swR]; exact h4))
      · exact permIn_trans _ _ _ lo hi (perm_swR lo hi _ _ _ _ _ (by omega) (by omega) (by omega) (by omega) h4) (perm_rot lo hi m f _ _ _ (by omega) (by omega) (by omega) (by rw [size_swR]; exact h4))
theorem perm_shU (lo hi : Nat) : ∀ (n k : Nat) (d : Array α), lo ≤ k → k + n < hi → hi ≤ d.size → PermIn lo hi d (shU n k d)
  | 0, _, d, _, _, _ => permIn_refl d lo hi
  | n + 1, k, d, h1, h2, h3 => by
    rw [shU]
    exact permIn_trans _ _ _ lo hi (swp_permIn d lo hi k (k + 1) h1 (by omega) (by omega) (by omega) h3) (perm_shU lo hi n (k + 1) _ (by omega) (by omega) (by rw [swp_size]; exact h3))
theorem perm_shD (lo hi i : Nat) (hl : lo ≤ i) : ∀ (k : Nat) (d : Array α), k < hi → hi ≤ d.size → PermIn lo hi d (shD i k d)
  | 0, d, _, _ => permIn_refl d lo hi
  | k + 1, d, h2, h3 => by
    rw [shD]; split
    · exact permIn_trans _ _ _ lo hi (swp_permIn d lo hi (k + 1) k (by omega) h2 (by omega) (by omega) h3) (perm_shD lo hi i hl k _ (by omega) (by rw [swp_size]; exact h3))
    · exact permIn_refl d lo hi
theorem get_swR (a b : Nat) : ∀ (n i : Nat) (d : Array α), a + i + n ≤ b + i → b + i + n ≤ d.size → ∀ t,
    (swR a b n i d)[t]! = if a + i ≤ t ∧ t < a + i + n then d[t + (b - a)]! else if b + i ≤ t ∧ t < b + i + n then d[t - (b - a)]! else d[t]!
  | 0, i, d, _, _, t => by rw [swR, if_neg (by omega), if_neg (by omega)]
  | n + 1, i, d, h1, h2, t => by
    have g := swp_get d (i := a + i) (j := b + i) (by omega) (by omega)
    rw [swR, get_swR a b n (i + 1) _ (by omega) (by rw [swp_size]; omega) t]
    by_cases c1 : t = a + i
    · subst c1
      rw [if_neg (by omega), if_neg (by omega), if_pos (by omega), g, if_neg (by omega), if_pos rfl, show a + i + (b - a) = b + i by omega]
    · by_cases c2 : t = b + i
      · subst c2
        rw [if_neg (by omega), if_neg (by omega), if_neg (by omega), if_pos (by omega), g, if_pos rfl, show b + i - (b - a) = a + i by omega]
      · by_cases c3 : a + (i + 1) ≤ t ∧ t < a + (i + 1) + n
        · rw [if_pos c3, if_pos (by omega), g, if_neg (by omega), if_neg (by omega)]
        · rw [if_neg c3]
          by_cases c4 : b + (i + 1) ≤ t ∧ t < b + (i + 1) + n
          · rw [if_pos c4, if_neg (by omega), if_pos (by omega), g, if_neg (by omega), if_neg (by omega)]
          · rw [if_neg c4, if_neg (by omega), if_neg (by omega), g, if_neg c2, if_neg c1]
theorem get_rot (m : Nat) : ∀ (f i j : Nat) (d : Array α), i + j ≤ f → 0 < i → 0 < j → i ≤ m → m + j ≤ d.size → ∀ t,
    (rot m f i j d)[t]! = if m - i ≤ t ∧ t < m - i + j then d[t + i]! else if m - i + j ≤ t ∧ t < m + j then d[t - j]! else d[t]!
  | 0, i, j, d, h, h1, _, _, _, _ => by omega
  | f + 1, i, j, d, h, h1, h2, h3, h4, t => by
    rw [rot]
    by_cases e : i = j
    · subst e
      rw [if_pos rfl, swapRange, get_swR _ _ _ _ _ (by omega) (by omega)]
      by_cases c1 : m - i ≤ t ∧ t < m - i + i
      · rw [if_pos (by omega), if_pos c1, show t + (m - (m - i)) = t + i by omega]
      · rw [if_neg (by omega), if_neg c1]
        by_cases c2 : m - i + i ≤ t ∧ t < m + i
        · rw [if_pos (by omega), if_pos c2, show t - (m - (m - i)) = t - i by omega]
        · rw [if_neg (by omega), if_neg c2]
    · rw [if_neg e]
      by_cases l : j < i
      · rw [if_pos l, get_rot m f (i - j) j _ (by omega) (by omega) h2 (by omega) (by rw [size_swapRange]; exact h4) t]
        simp only [swapRange]
        rw [get_swR _ _ _ _ _ (by omega) (by omega), get_swR _ _ _ _ _ (by omega) (by omega), get_swR _ _ _ _ _ (by omega) (by omega)]
        by_cases c1 : m - i ≤ t ∧ t < m - i + j
        · rw [if_neg (by omega), if_neg (by omega), if_pos (by omega), if_pos c1, show t + (m - (m - i)) = t + i by omega]
        · rw [if_neg c1]
          by_cases c2 : m - (i - j) ≤ t ∧ t < m - (i - j) + j
          · rw [if_pos c2]
            by_cases c3 : m ≤ t + (i - j) ∧ t + (i - j) < m + j
            · rw [if_neg (by omega), if_pos (by omega), if_pos (by omega), show t + (i - j) - (m - (m - i)) = t - j by omega]
            · exact absurd c2 (by omega)
          · rw [if_neg c2]
            by_cases c3 : m - (i - j) + j ≤ t ∧ t < m + j
            · rw [if_pos c3, if_neg (by omega), if_neg (by omega), if_pos (by omega)]
            · rw [if_neg c3, if_neg (by omega), if_neg (by omega), if_neg (by omega)]
      · rw [if_neg l, get_rot m f i (j - i) _ (by omega) h1 (by omega) h3 (by rw [size_swapRange]; omega) t]
        simp only [swapRange]
        rw [get_swR _ _ _ _ _ (by omega) (by omega), get_swR _ _ _ _ _ (by omega) (by omega), get_swR _ _ _ _ _ (by omega) (by omega)]
        by_cases c1 : m - i ≤ t ∧ t < m - i + (j - i)
        · rw [if_pos c1, if_neg (by omega), if_neg (by omega), if_pos (by omega)]
        · rw [if_neg c1]
          by_cases c2 : m - i + (j - i) ≤ t ∧ t < m + (j - i)
          · rw [if_pos c2]
            by_cases c3 : t < m - i + j
            · rw [if_pos (by omega), if_pos (by omega), show t - (j - i) + (m + j - i - (m - i)) = t + i by omega]
            · exact absurd c2 (by omega)
          · rw [if_neg c2]
            by_cases c3 : m - i + j ≤ t ∧ t < m + j
            · rw [if_neg (by omega), if_pos (by omega), if_neg (by omega), if_pos c3, show t - (m + j - i - (m - i)) = t - j by omega]
            · rw [if_neg (by omega), if_neg (by omega), if_neg (by omega), if_neg c3]
theorem get_shU : ∀ (n k : Nat) (d : Array α), k + n < d.size → ∀ t, (shU n k d)[t]! = if k ≤ t ∧ t < k + n then d[t + 1]! else if t = k + n then d[k]! else d[t]!
  | 0, k, d, h, t => by
    rw [shU, if_neg (by omega)]; split
    · rename_i e; rw [e, Nat.add_zero]
    · rfl
  | n + 1, k, d, h, t => by
    have g := swp_get d (i := k) (j := k + 1) (by omega) (by omega)
    rw [shU, get_shU n (k + 1) _ (by rw [swp_size]; omega) t]
    by_cases c1 : t = k
    · subst c1; rw [if_neg (by omega), if_neg (by omega), if_pos (by omega), g, if_neg (by omega), if_pos rfl]
    · by_cases c2 : k + 1 ≤ t ∧ t < k + 1 + n
      · rw [if_pos c2, if_pos (by omega), g, if_neg (by omega), if_neg (by omega)]
      · rw [if_neg c2]
        by_cases c3 : t = k + 1 + n
        · rw [if_pos c3, if_neg (by omega), if_pos (by omega), g, if_pos rfl]
        · rw [if_neg c3, if_neg (by omega), if_neg (by omega), g, if_neg (by omega), if_neg c1]
theorem get_shD (i : Nat) : ∀ (k : Nat) (d : Array α), i ≤ k → k < d.size → ∀ t, (shD i k d)[t]! = if t = i then d[k]! else if i < t ∧ t ≤ k then d[t - 1]! else d[t]!
  | 0, d, h, _, t => by
    obtain rfl : i = 0 := by omega
    rw [shD]; split
    · rename_i e; rw [e]
    · rw [if_neg (by omega)]
  | k + 1, d, h, h2, t => by
    have g := swp_get d (i := k + 1) (j := k) (by omega) (by omega)
    rw [shD]; split
    · rw [get_shD i k _ (by omega) (by rw [swp_size]; omega) t]
      by_cases c1 : t = i
      · rw [if_pos c1, if_pos c1, g, if_pos rfl]
      · rw [if_neg c1, if_neg c1]
        by_cases c2 : i < t ∧ t ≤ k
        · rw [if_pos c2, if_pos (by omega), g, if_neg (by omega), if_neg (by omega)]
        · rw [if_neg c2]
          by_cases c3 : t = k + 1
          · subst c3; rw [if_pos (by omega), g, if_neg (by omega), if_pos rfl]; rfl
          · rw [if_neg (by omega), g, if_neg (by omega), if_neg c3]
    · obtain rfl : i = k + 1 := by omega
      split
      · rename_i e; rw [e]
      · rw [if_neg (by omega)]
theorem bs_spec (p : Nat → Bool) (i j : Nat) (hij : i ≤ j) (hp : ∀ x y, i ≤ x → x ≤ y → y < j → p y = true → p x = true) :
    i ≤ bs p i j ∧ bs p i j ≤ j ∧ (∀ h, i ≤ h → h < bs p i j → p h = true) ∧ (∀ h, bs p i j ≤ h → h < j → p h = false) := by
  rw [bs]
  by_cases l : i < j
  · rw [if_pos l]
    by_cases c : p ((i + j) / 2) = true
    · rw [if_pos c]
      obtain ⟨h1, h2, h3, h4⟩ := bs_spec p ((i + j) / 2 + 1) j (by omega) (fun x y a b c' d => hp x y (by omega) b c' d)
      refine ⟨by omega, h2, fun h a b => ?_, h4⟩
      by_cases e : h ≤ (i + j) / 2
      · exact hp h ((i + j) / 2) a e (by omega) c
      · exact h3 h (by omega) b
    · rw [if_neg c]
      obtain ⟨h1, h2, h3, h4⟩ := bs_spec p i ((i + j) / 2) (by omega) (fun x y a b c' d => hp x y a b (by omega) d)
      refine ⟨h1, by omega, h3, fun h a b => ?_⟩
      by_cases e : h < (i + j) / 2
      · exact h4 h a e
      · cases hh : p h with
        | false => rfl
        | true => exact absurd (hp ((i + j) / 2) h (by omega) (by omega) b hh) c
  · rw [if_neg l]
    exact ⟨Nat.le_refl _, hij, fun h a b => by omega, fun h a b => by omega⟩
termination_by j - i
decreasing_by all_goals omega
theorem bs_congr (p q : Nat → Bool) (i j : Nat) (h : ∀ x, i ≤ x → x < j → p x = q x) : bs p i j = bs q i j := by
  rw [bs.eq_1 p i j, bs.eq_1 q i j]
  by_cases l : i < j
  · rw [if_pos l, if_pos l, h ((i + j) / 2) (by omega) (by omega), bs_congr p q _ j (fun x a b => h x (by omega) b), bs_congr p q i _ (fun x a b => h x a (by omega))]
  · rw [if_neg l, if_neg l]
termination_by j - i
decreasing_by all_goals omega
theorem bs_bd (p : Nat → Bool) (i j : Nat) (hij : i ≤ j) : i ≤ bs p i j ∧ bs p i j ≤ j := by
  rw [bs]
  by_cases l : i < j
  · rw [if_pos l]; split
    · have := bs_bd p ((i + j) / 2 + 1) j (by omega); omega
    · have := bs_bd p i ((i + j) / 2) (by omega); omega
  · rw [if_neg l]; omega
termination_by j - i
decreasing_by all_goals omega
def Cross (lt tl : α → α → Bool) (a m b : Nat) (d : Array α) : Prop := ∀ i j, a ≤ i → i < m → m ≤ j → j < b → lt d[j]! d[i]! = tl d[j]! d[i]!
variable {lt tl : α → α → Bool}
theorem st3_bd (d : Array α) {a m b : Nat} (h1 : a < m) (h2 : m < b) : lo3 a m b ≤ st3 lt d a m b ∧ st3 lt d a m b ≤ hi3 a m b := by
  unfold st3
  exact bs_bd _ _ _ (by unfold lo3 hi3; split <;> omega)
theorem ro3_get (d : Array α) {a m b : Nat} (h1 : a < m) (h2 : m < b) (hb : b ≤ d.size) (t : Nat) :
    (ro3 lt d a m b)[t]! = if st3 lt d a m b ≤ t ∧ t < (a + b) / 2 then d[t + (m - st3 lt d a m b)]! else if (a + b) / 2 ≤ t ∧ t < en3 lt d a m b then d[t - ((a + b) / 2 - st3 lt d a m b)]! else d[t]! := by
  have hs := st3_bd (lt := lt) d h1 h2
  unfold ro3 en3
  unfold lo3 hi3 at hs
  generalize st3 lt d a m b = s at *
  by_cases c : s < m ∧ m < (a + b) / 2 + m - s
  · rw [if_pos c, get_rot m _ _ _ _ (by split at hs <;> omega) (by omega) (by omega) (by omega) (by split at hs <;> omega) t]
    by_cases c1 : s ≤ t ∧ t < (a + b) / 2
    · rw [if_pos c1, if_pos (by omega)]
    · rw [if_neg c1, if_neg (by omega)]
      by_cases c2 : (a + b) / 2 ≤ t ∧ t < (a + b) / 2 + m - s
      · rw [if_pos c2, if_pos (by omega), show t - ((a + b) / 2 + m - s - m) = t - ((a + b) / 2 - s) by omega]
      · rw [if_neg c2, if_neg (by omega)]
  · rw [if_neg c]
    have : s = m ∨ s = (a + b) / 2 := by split at hs <;> omega
    rcases this with e | e
    · rw [e, Nat.sub_self, Nat.add_zero]
      split
      · rfl
      · rw [if_neg (by omega)]
    · rw [← e, Nat.sub_self, Nat.sub_zero, if_neg (by omega)]
      split <;> rfl
theorem ro3_perm (d : Array α) {a m b : Nat} (h1 : a < m) (h2 : m < b) (hb : b ≤ d.size) : PermIn a b d (ro3 lt d a m b) := by
  have hs := st3_bd (lt := lt) d h1 h2
  unfold ro3 en3
  unfold lo3 hi3 at hs
  split
  · exact perm_rot a b m _ _ _ _ (by omega) (by split at hs <;> omega) (by split at hs <;> omega) hb
  · exact permIn_refl d a b
theorem st3_cut (hS : SWO tl) (d : Array α) {a m b : Nat} (h1 : a < m) (h2 : m < b) (hl : SortedIn tl a m d) (hr : SortedIn tl m b d) (hc : Cross lt tl a m b d) :
    (∀ i j, a ≤ i → i < st3 lt d a m b → en3 lt d a m b ≤ j → j < b → tl d[j]! d[i]! = false) ∧ (∀ i j, st3 lt d a m b ≤ i → i < m → m ≤ j → j < en3 lt d a m b → tl d[i]! d[j]! = false) := by
  have hs := st3_bd (lt := lt) d h1 h2
  have hp := bs_spec (fun c => !lt d[(a + b) / 2 + m - 1 - c]! d[c]!) (lo3 a m b) (hi3 a m b) (by unfold lo3 hi3; split <;> omega) (by
    intro x y hx hxy hy h
    simp only [Bool.not_eq_true'] at h ⊢
    by_cases e : x = y
    · subst e; exact h
    have b1 : a ≤ x ∧ y < m ∧ m ≤ (a + b) / 2 + m - 1 - y ∧ (a + b) / 2 + m - 1 - x < b := by unfold lo3 at hx; unfold hi3 at hy; split at hx <;> split at hy <;> omega
    rw [hc _ _ (by omega) (by omega) (by omega) (by omega)] at h ⊢
    exact hS.ntrans _ _ _ (hr _ _ (by omega) (by omega) (by omega)) (hS.ntrans _ _ _ h (hl x y (by omega) (by omega) (by omega))))
  change lo3 a m b ≤ st3 lt d a m b ∧ st3 lt d a m b ≤ hi3 a m b ∧ (∀ h, lo3 a m b ≤ h → h < st3 lt d a m b → _) ∧ (∀ h, st3 lt d a m b ≤ h → h < hi3 a m b → _) at hp
  obtain ⟨_, _, p3, p4⟩ := hp
  unfold en3
  generalize st3 lt d a m b = s at *
  refine ⟨fun i j i1 i2 j1 j2 => ?_, fun i j i1 i2 j1 j2 => ?_⟩
  · have hss : lo3 a m b < s := by by_cases c : (a + b) / 2 < m <;> simp only [lo3, hi3, c, if_true, if_false] at hs ⊢ <;> omega
    have q := p3 (s - 1) (by omega) (by omega)
    simp only [Bool.not_eq_true'] at q
    have b1 : a ≤ s - 1 ∧ s - 1 < m ∧ m ≤ (a + b) / 2 + m - 1 - (s - 1) ∧ (a + b) / 2 + m - 1 - (s - 1) < b := by by_cases c : (a + b) / 2 < m <;> simp only [lo3, hi3, c, if_true, if_false] at hs hss <;> omega
    rw [hc _ _ (by omega) (by omega) (by omega) (by omega)] at q
    have q1 : tl d[s - 1]! d[i]! = false := by
      by_cases e : i = s - 1
      · rw [e]; exact hS.irrefl _
      · exact hl _ _ i1 (by omega) (by omega)
    have q2 : tl d[j]! d[(a + b) / 2 + m - 1 - (s - 1)]! = false := by
      by_cases e : j = (a + b) / 2 + m - 1 - (s - 1)
      · rw [e]; exact hS.irrefl _
      · exact hr _ _ (by omega) (by omega) j2
    exact hS.ntrans _ _ _ q2 (hS.ntrans _ _ _ q q1)
  · have hss : s < hi3 a m b := by by_cases c : (a + b) / 2 < m <;> simp only [lo3, hi3, c, if_true, if_false] at hs ⊢ <;> omega
    have q := p4 s (by omega) (by omega)
    simp only [Bool.not_eq_false'] at q
    have b1 : a ≤ s ∧ s < m ∧ m ≤ (a + b) / 2 + m - 1 - s ∧ (a + b) / 2 + m - 1 - s < b := by by_cases c : (a + b) / 2 < m <;> simp only [lo3, hi3, c, if_true, if_false] at hs hss <;> omega
    rw [hc _ _ (by omega) (by omega) (by omega) (by omega)] at q
    have q0 := hS.asymmA q
    have q2 : tl d[(a + b) / 2 + m - 1 - s]! d[j]! = false := by
      by_cases e : j = (a + b) / 2 + m - 1 - s
      · rw [e]; exact hS.irrefl _
      · exact hr _ _ j1 (by omega) (by omega)
    have q3 : tl d[i]! d[s]! = false := by
      by_cases e : i = s
      · rw [e]; exact hS.irrefl _
      · exact hl _ _ (by omega) (by omega) i2
    exact hS.ntrans _ _ _ q3 (hS.ntrans _ _ _ q0 q2)
theorem symMerge_spec (hS : SWO tl) : ∀ (f : Nat) (d : Array α) (a m b : Nat), b - a ≤ f → a < m → m < b → b ≤ d.size → SortedIn tl a m d → SortedIn tl m b d → Cross lt tl a m b d →
    PermIn a b d (symMerge lt f d a m b) ∧ SortedIn tl a b (symMerge lt f d a m b)
  | 0, d, a, m, b, h, h1, h2, _, _, _, _ => by omega
  | f + 1, d, a, m, b, hf, h1, h2, hb, hl, hr, hc => by
    rw [symMerge]
    by_cases c1 : m - a = 1
    · rw [if_pos c1]
      have hp := bs_spec (fun h => lt d[h]! d[a]!) m b (by omega) (by
        intro x y hx hxy hy h
        by_cases e : x = y
        · subst e; exact h
        rw [hc _ _ (by omega) (by omega) (by omega) (by omega)] at h ⊢
        cases q : tl d[x]! d[a]! with
        | true => rfl
        | false => rw [hS.ntrans _ _ _ (hr x y hx (by omega) hy) q] at h; exact absurd h (by simp))
      generalize bs (fun h => lt d[h]! d[a]!) m b = r at *
      obtain ⟨p1, p2, p3, p4⟩ := hp
      refine ⟨perm_shU a b _ _ _ (by omega) (by omega) hb, ?_⟩
      intro i j hi hij hj
      rw [get_shU _ _ _ (by omega), get_shU _ _ _ (by omega)]
      by_cases i1 : i < r - 1
      · rw [if_pos (show a ≤ i ∧ i < a + (r - 1 - a) by omega)]
        by_cases j1 : j < r - 1
        · rw [if_pos (by omega)]; exact hr _ _ (by omega) (by omega) (by omega)
        · rw [if_neg (by omega)]
          have q := p3 (i + 1) (by omega) (by omega)
          rw [hc _ _ (by omega) (by omega) (by omega) (by omega)] at q
          by_cases j2 : j = r - 1
          · rw [if_pos (by omega)]; exact hS.asymmA q
          · rw [if_neg (by omega)]; exact hr _ _ (by omega) (by omega) (by omega)
      · rw [if_neg (show ¬ (a ≤ i ∧ i < a + (r - 1 - a)) by omega), if_neg (show ¬ (a ≤ j ∧ j < a + (r - 1 - a)) by omega), if_neg (show ¬ j = a + (r - 1 - a) by omega)]
        by_cases i2 : i = r - 1
        · rw [if_pos (by omega)]
          have q := p4 j (by omega) (by omega)
          rwa [hc _ _ (by omega) (by omega) (by omega) (by omega)] at q
        · rw [if_neg (by omega)]; exact hr _ _ (by omega) (by omega) (by omega)
    · rw [if_neg c1]
      by_cases c2 : b - m = 1
      · rw [if_pos c2]
        have hp := bs_spec (fun h => !lt d[m]! d[h]!) a m (by omega) (by
          intro x y hx hxy hy h
          simp only [Bool.not_eq_true'] at h ⊢
          by_cases e : x = y
          · subst e; exact h
          rw [hc _ _ (by omega) (by omega) (by omega) (by omega)] at h ⊢
          exact hS.ntrans _ _ _ h (hl x y hx (by omega) hy))
        generalize bs (fun h => !lt d[m]! d[h]!) a m = r at *
        obtain ⟨p1, p2, p3, p4⟩ := hp
        refine ⟨perm_shD a b r p1 _ _ (by omega) hb, ?_⟩
        intro i j hi hij hj
        rw [get_shD _ _ _ p2 (by omega), get_shD _ _ _ p2 (by omega)]
        by_cases i1 : i = r
        · rw [if_pos i1, if_neg (by omega), if_pos (by omega)]
          have q := p4 (j - 1) (by omega) (by omega)
          simp only [Bool.not_eq_false'] at q
          rw [hc _ _ (by omega) (by omega) (by omega) (by omega)] at q
          exact hS.asymmA q
        · rw [if_neg i1]
          by_cases i2 : r < i ∧ i ≤ m
          · rw [if_pos i2, if_neg (by omega), if_pos (by omega)]
            exact hl _ _ (by omega) (by omega) (by omega)
          · rw [if_neg i2]
            by_cases j1 : j = r
            · rw [if_pos j1]
              have q := p3 i (by omega) (by omega)
              simp only [Bool.not_eq_true'] at q
              rwa [hc _ _ (by omega) (by omega) (by omega) (by omega)] at q
            · rw [if_neg j1]
              by_cases j2 : r < j ∧ j ≤ m
              · rw [if_pos j2]; exact hl _ _ (by omega) (by omega) (by omega)
              · rw [if_neg j2]; exact hl _ _ (by omega) (by omega) (by omega)
      · rw [if_neg c2]
        have hs := st3_bd (lt := lt) d h1 h2
        have hg := ro3_get (lt := lt) d h1 h2 hb
        have hP := ro3_perm (lt := lt) d h1 h2 hb
        obtain ⟨k1, k2⟩ := st3_cut hS d h1 h2 hl hr hc
        have hz : (ro3 lt d a m b).size = d.size := size_ro3 _ _ _ _ _
        have hse : st3 lt d a m b ≤ m ∧ a ≤ st3 lt d a m b ∧ st3 lt d a m b ≤ (a + b) / 2 ∧ en3 lt d a m b ≤ b ∧ m ≤ en3 lt d a m b ∧ (a + b) / 2 ≤ en3 lt d a m b ∧ en3 lt d a m b + st3 lt d a m b = (a + b) / 2 + m := by
          unfold en3
          by_cases c : (a + b) / 2 < m <;> simp only [lo3, hi3, c, if_true, if_false] at hs <;> omega
        generalize st3 lt d a m b = s at *
        generalize en3 lt d a m b = e at *
        generalize ro3 lt d a m b = d1 at *
        have g1 : ∀ t, t < s → d1[t]! = d[t]! := fun t ht => by rw [hg, if_neg (by omega), if_neg (by omega)]
        have g2 : ∀ t, s ≤ t → t < (a + b) / 2 → d1[t]! = d[t + (m - s)]! := fun t ha hb => by rw [hg, if_pos ⟨ha, hb⟩]
        have g3 : ∀ t, (a + b) / 2 ≤ t → t < e → d1[t]! = d[t - ((a + b) / 2 - s)]! := fun t ha hb => by rw [hg, if_neg (by omega), if_pos ⟨ha, hb⟩]
        have g4 : ∀ t, e ≤ t → d1[t]! = d[t]! := fun t ha => by rw [hg, if_neg (by omega), if_neg (by omega)]
        clear hg
        have A1 : SortedIn tl a s d1 := fun i j hi hij hj => by rw [g1 _ hj, g1 _ (by omega)]; exact hl i j hi hij (by omega)
        have A2 : SortedIn tl s ((a + b) / 2) d1 := fun i j hi hij hj => by rw [g2 _ (by omega) hj, g2 _ hi (by omega)]; exact hr _ _ (by omega) (by omega) (by omega)
        have A3 : SortedIn tl ((a + b) / 2) e d1 := fun i j hi hij hj => by rw [g3 _ (by omega) hj, g3 _ hi (by omega)]; exact hl _ _ (by omega) (by omega) (by omega)
        have A4 : SortedIn tl e b d1 := fun i j hi hij hj => by rw [g4 _ (by omega), g4 _ hi]; exact hr _ _ (by omega) (by omega) (by omega)
        have C1 : Cross lt tl a s ((a + b) / 2) d1 := fun i j hi hi2 hj hj2 => by rw [g1 _ hi2, g2 _ hj hj2]; exact hc _ _ hi (by omega) (by omega) (by omega)
        have C2 : Cross lt tl ((a + b) / 2) e b d1 := fun i j hi hi2 hj hj2 => by rw [g3 _ hi hi2, g4 _ hj]; exact hc _ _ (by omega) (by omega) (by omega) hj2
        have LR : ∀ i, a ≤ i → i < (a + b) / 2 → ∀ j, (a + b) / 2 ≤ j → j < b → tl d1[j]! d1[i]! = false := fun i i1 i2 j j1 j2 => by
          by_cases ci : i < s
          · rw [g1 _ ci]
            by_cases cj : j < e
            · rw [g3 _ j1 cj]; exact hl _ _ i1 (by omega) (by omega)
            · rw [g4 _ (by omega)]; exact k1 _ _ i1 ci (by omega) j2
          · rw [g2 _ (by omega) i2]
            by_cases cj : j < e
            · rw [g3 _ j1 cj]; exact k2 _ _ (by omega) (by omega) (by omega) (by omega)
            · rw [g4 _ (by omega)]; exact hr _ _ (by omega) (by omega) j2
        have H1 : PermIn a ((a + b) / 2) d1 (if a < s ∧ s < (a + b) / 2 then symMerge lt f d1 a s ((a + b) / 2) else d1) ∧ SortedIn tl a ((a + b) / 2) (if a < s ∧ s < (a + b) / 2 then symMerge lt f d1 a s ((a + b) / 2) else d1) := by
          split
          · rename_i c
            exact symMerge_spec hS f d1 a s ((a + b) / 2) (by omega) c.1 c.2 (by omega) A1 A2 C1
          · refine ⟨permIn_refl _ _ _, ?_⟩
            have : s = a ∨ s = (a + b) / 2 := by omega
            rcases this with q | q
            · rw [q] at A2; exact A2
            · rw [q] at A1; exact A1
        simp only
        generalize (if a < s ∧ s < (a + b) / 2 then symMerge lt f d1 a s ((a + b) / 2) else d1) = d2 at *
        obtain ⟨⟨z2, o2, P2⟩, S2⟩ := H1
        have o3 : ∀ t, (a + b) / 2 ≤ t → d2[t]! = d1[t]! := fun t ht => o2 t (Or.inr ht)
        have B3 : SortedIn tl ((a + b) / 2) e d2 := fun i j hi hij hj => by rw [o3 _ (by omega), o3 _ hi]; exact A3 i j hi hij hj
        have B4 : SortedIn tl e b d2 := fun i j hi hij hj => by rw [o3 _ (by omega), o3 _ (by omega)]; exact A4 i j hi hij hj
        have D2 : Cross lt tl ((a + b) / 2) e b d2 := fun i j hi hi2 hj hj2 => by rw [o3 _ hi, o3 _ (by omega)]; exact C2 i j hi hi2 hj hj2
        have L2 : ∀ j, (a + b) / 2 ≤ j → j < b → ∀ i, a ≤ i → i < (a + b) / 2 → tl d2[j]! d2[i]! = false := fun j j1 j2 i i1 i2 =>
          permIn_all d1 d2 a ((a + b) / 2) (fun x => tl d2[j]! x = false) (by omega) ⟨z2, o2, P2⟩ (fun i i1 i2 => by rw [o3 _ j1]; exact LR i i1 i2 j j1 j2) i i1 i2
        have H2 : PermIn ((a + b) / 2) b d2 (if (a + b) / 2 < e ∧ e < b then symMerge lt f d2 ((a + b) / 2) e b else d2) ∧ SortedIn tl ((a + b) / 2) b (if (a + b) / 2 < e ∧ e < b then symMerge lt f d2 ((a + b) / 2) e b else d2) := by
          split
          · rename_i c
            exact symMerge_spec hS f d2 ((a + b) / 2) e b (by omega) c.1 c.2 (by omega) B3 B4 D2
          · refine ⟨permIn_refl _ _ _, ?_⟩
            have : e = (a + b) / 2 ∨ e = b := by omega
            rcases this with q | q
            · rw [q] at B4; exact B4
            · rw [q] at B3; exact B3
        generalize (if (a + b) / 2 < e ∧ e < b then symMerge lt f d2 ((a + b) / 2) e b else d2) = d3 at *
        obtain ⟨⟨z3, o4, P3⟩, S3⟩ := H2
        have o5 : ∀ t, t < (a + b) / 2 → d3[t]! = d2[t]! := fun t ht => o4 t (Or.inl ht)
        refine ⟨permIn_trans _ _ _ a b hP (permIn_trans _ _ _ a b (permIn_mono d1 d2 a ((a + b) / 2) a b (Nat.le_refl _) (by omega) (by omega) ⟨z2, o2, P2⟩) (permIn_mono d2 d3 ((a + b) / 2) b a b (by omega) (Nat.le_refl _) (by omega) ⟨z3, o4, P3⟩)), ?_⟩
        intro i j hi hij hj
        by_cases ci : i < (a + b) / 2
        · rw [o5 _ ci]
          by_cases cj : j < (a + b) / 2
          · rw [o5 _ cj]; exact S2 i j hi hij cj
          · exact permIn_all d2 d3 ((a + b) / 2) b (fun x => tl x d2[i]! = false) (by omega) ⟨z3, o4, P3⟩ (fun j j1 j2 => L2 j j1 j2 i hi ci) j (by omega) hj
        · exact S3 i j (by omega) hij hj
theorem insInner_congr (a : Nat) : ∀ (j : Nat) (d : Array α), j < d.size → (∀ q, a ≤ q → q < j → lt d[j]! d[q]! = tl d[j]! d[q]!) → insInner lt a j d = insInner tl a j d
  | 0, d, _, _ => by unfold insInner; rfl
  | j + 1, d, hj, h => by
    unfold insInner
    by_cases c : a < j + 1
    · rw [h j (by omega) (by omega)]
      by_cases e : (decide (j + 1 > a) && tl d[j + 1]! d[j]!) = true
      · rw [if_pos e, if_pos e]
        have g := swp_get d (i := j + 1) (j := j) hj (by omega)
        refine insInner_congr a j _ (by rw [swp_size]; omega) fun q h1 h2 => ?_
        rw [g, g, if_pos rfl, if_neg (by omega), if_neg (by omega)]
        exact h q h1 (by omega)
      · rw [if_neg e, if_neg e]
    · rw [if_neg (by simp; omega), if_neg (by simp; omega)]
theorem insInner_perm (lo hi a : Nat) (ha : lo ≤ a) : ∀ (j : Nat) (d : Array α), j < hi → hi ≤ d.size → PermIn lo hi d (insInner lt a j d)
  | 0, d, _, _ => by unfold insInner; exact permIn_refl _ _ _
  | j + 1, d, hj, hh => by
    unfold insInner; split
    · rename_i e
      simp only [Bool.and_eq_true, decide_eq_true_eq] at e
      exact permIn_trans _ _ _ lo hi (swp_permIn d lo hi (j + 1) j (by omega) hj (by omega) (by omega) hh) (insInner_perm lo hi a ha j _ (by omega) (by rw [swp_size]; exact hh))
    · exact permIn_refl _ _ _
theorem insOuter_congr (a b : Nat) (i : Nat) (d : Array α) (hai : a ≤ i) (hb : b ≤ d.size) (h : ∀ p q, a ≤ p → p < q → i ≤ q → q < b → lt d[q]! d[p]! = tl d[q]! d[p]!) : insOuter lt a b i d = insOuter tl a b i d := by
  rw [insOuter.eq_1 lt, insOuter.eq_1 tl]
  by_cases c : i < b
  · rw [if_pos c, if_pos c, insInner_congr a i d (by omega) (fun q h1 h2 => h q i h1 h2 (Nat.le_refl _) c)]
    have hP := insInner_perm (lt := tl) a (i + 1) a (Nat.le_refl _) i d (by omega) (by omega)
    refine insOuter_congr a b (i + 1) _ (by omega) (by rw [hP.1]; exact hb) fun p q h1 h2 h3 h4 => ?_
    rw [hP.2.1 q (Or.inr h3)]
    by_cases e : p < i + 1
    · exact permIn_all d _ a (i + 1) (fun x => lt d[q]! x = tl d[q]! x) (by omega) hP (fun k k1 k2 => h k q k1 (by omega) (by omega) h4) p h1 e
    · rw [hP.2.1 p (Or.inr (by omega))]; exact h p q h1 h2 (by omega) h4
  · rw [if_neg c, if_neg c]
termination_by b - i
theorem insertion_spec (hS : SWO tl) (d : Array α) (a b : Nat) (hab : a ≤ b) (hb : b ≤ d.size) (h : ∀ p q, a ≤ p → p < q → q < b → lt d[q]! d[p]! = tl d[q]! d[p]!) :
    PermIn a b d (insertionSort lt d a b) ∧ SortedIn tl a b (insertionSort lt d a b) := by
  have e : insertionSort lt d a b = insertionSort tl d a b := insOuter_congr a b (a + 1) d (by omega) hb fun p q h1 h2 _ h4 => h p q h1 h2 h4
  rw [e]
  exact insertionSort_holds hS d a b hab hb
structure Ok (tl : α → α → Bool) (d0 d : Array α) (a b : Nat) : Prop where
  src : ∀ i, a ≤ i → i < b → ∃ k, a ≤ k ∧ k < b ∧ d[i]! = d0[k]!
  srt : SortedIn tl a b d
theorem Ok.congr {d0 d d' : Array α} {a b : Nat} (h : Ok tl d0 d a b) (e : ∀ t, a ≤ t → t < b → d'[t]! = d[t]!) : Ok tl d0 d' a b where
  src i h1 h2 := by rw [e i h1 h2]; exact h.src i h1 h2
  srt i j h1 h2 h3 := by rw [e i h1 (by omega), e j (by omega) h3]; exact h.srt i j h1 h2 h3
theorem Ok.none {d0 d : Array α} {a : Nat} : Ok tl d0 d a a where
  src i h1 h2 := by omega
  srt i j h1 h2 h3 := by omega
def Chain (O : Nat → Nat → Prop) (s n : Nat) : Nat → Nat → Prop
  | 0, a => a ≤ n ∧ n ≤ a + s ∧ O a n
  | k + 1, a => a + s ≤ n ∧ O a (a + s) ∧ Chain O s n k (a + s)
theorem Chain.congr {d0 d d' : Array α} {s n : Nat} : ∀ {k a : Nat}, Chain (Ok tl d0 d) s n k a → (∀ t, a ≤ t → d'[t]! = d[t]!) → Chain (Ok tl d0 d') s n k a
  | 0, a, h, e => ⟨h.1, h.2.1, h.2.2.congr fun t h1 _ => e t h1⟩
  | k + 1, a, h, e => ⟨h.1, h.2.1.congr fun t h1 _ => e t h1, h.2.2.congr fun t h1 => e t (by omega)⟩
theorem Ok.merge (hS : SWO tl) {d0 d : Array α} {f a m b : Nat} (hf : b - a ≤ f) (h1 : a < m) (h2 : m < b) (hb : b ≤ d.size) (H1 : Ok tl d0 d a m) (H2 : Ok tl d0 d m b)
    (hG : ∀ i j, i < j → j < b → lt d0[j]! d0[i]! = tl d0[j]! d0[i]!) : PermIn a b d (symMerge lt f d a m b) ∧ Ok tl d0 (symMerge lt f d a m b) a b := by
  have hc : Cross lt tl a m b d := fun i j i1 i2 j1 j2 => by
    obtain ⟨k, k1, k2, ek⟩ := H1.src i i1 i2
    obtain ⟨l, l1, l2, el⟩ := H2.src j j1 j2
    rw [ek, el]; exact hG k l (by omega) l2
  obtain ⟨hP, hO⟩ := symMerge_spec hS f d a m b hf h1 h2 hb H1.srt H2.srt hc
  refine ⟨hP, ?_, hO⟩
  exact permIn_all d _ a b (fun x => ∃ k, a ≤ k ∧ k < b ∧ x = d0[k]!) hb hP fun i i1 i2 => by
    by_cases c : i < m
    · obtain ⟨k, k1, k2, e⟩ := H1.src i i1 c; exact ⟨k, k1, by omega, e⟩
    · obtain ⟨k, k1, k2, e⟩ := H2.src i (by omega) i2; exact ⟨k, by omega, k2, e⟩
theorem insBl_spec (hS : SWO tl) (d0 : Array α) (n : Nat) (hn : n ≤ d0.size) (hG : ∀ i j, i < j → j < n → lt d0[j]! d0[i]! = tl d0[j]! d0[i]!) : ∀ (f a : Nat) (d : Array α), n - a < f → a ≤ n → d.size = d0.size → (∀ t, a ≤ t → d[t]! = d0[t]!) →
    (∃ k, Chain (Ok tl d0 (insBl lt n f a d)) 20 n k a) ∧ PermIn a n d (insBl lt n f a d)
  | 0, a, d, hf, _, _, _ => by omega
  | f + 1, a, d, hf, ha, hz, he => by
    rw [insBl]
    by_cases c : a + 20 ≤ n
    · rw [if_pos c]
      obtain ⟨hP, hO⟩ := insertion_spec (lt := lt) hS d a (a + 20) (by omega) (by omega) fun p q h1 h2 h3 => by rw [he p h1, he q (by omega)]; exact hG p q h2 (by omega)
      obtain ⟨⟨k, hk⟩, hQ⟩ := insBl_spec hS d0 n hn hG f (a + 20) (insertionSort lt d a (a + 20)) (by omega) c (hP.1.trans hz) fun t ht => by rw [hP.2.1 t (Or.inr ht)]; exact he t (by omega)
      refine ⟨⟨k + 1, c, ?_, hk⟩, permIn_trans _ _ _ a n (permIn_mono _ _ a (a + 20) a n (Nat.le_refl _) c (by omega) hP) (permIn_mono _ _ (a + 20) n a n (by omega) (Nat.le_refl _) (by rw [hP.1]; omega) hQ)⟩
      have o : Ok tl d0 (insertionSort lt d a (a + 20)) a (a + 20) := ⟨permIn_all d _ a (a + 20) (fun x => ∃ k, a ≤ k ∧ k < a + 20 ∧ x = d0[k]!) (by omega) hP fun i i1 i2 => ⟨i, i1, i2, he i i1⟩, hO⟩
      exact o.congr fun t _ h2 => hQ.2.1 t (Or.inl h2)
    · rw [if_neg c]
      obtain ⟨hP, hO⟩ := insertion_spec (lt := lt) hS d a n ha (by omega) fun p q h1 h2 h3 => by rw [he p h1, he q (by omega)]; exact hG p q h2 h3
      exact ⟨⟨0, ha, by omega, permIn_all d _ a n (fun x => ∃ k, a ≤ k ∧ k < n ∧ x = d0[k]!) (by omega) hP fun i i1 i2 => ⟨i, i1, i2, he i i1⟩, hO⟩, hP⟩
theorem mrgRow_spec (hS : SWO tl) (d0 : Array α) (n s : Nat) (hs : 0 < s) (hn : n ≤ d0.size) (hG : ∀ i j, i < j → j < n → lt d0[j]! d0[i]! = tl d0[j]! d0[i]!) : ∀ (f a k : Nat) (d : Array α), n - a < f → a ≤ n → d.size = d0.size → Chain (Ok tl d0 d) s n k a →
    (∃ k', Chain (Ok tl d0 (mrgRow lt n s f a d)) (2 * s) n k' a) ∧ PermIn a n d (mrgRow lt n s f a d)
  | 0, a, _, d, hf, _, _, _ => by omega
  | f + 1, a, k, d, hf, ha, hz, hC => by
    rw [mrgRow]
    by_cases c : a + 2 * s ≤ n
    · rw [if_pos c]
      obtain ⟨h1, h2, k2, h3⟩ : Ok tl d0 d a (a + s) ∧ Ok tl d0 d (a + s) (a + 2 * s) ∧ ∃ k2, Chain (Ok tl d0 d) s n k2 (a + 2 * s) := by
        cases k with
        | zero => have := hC.2.1; omega
        | succ k =>
          obtain ⟨_, x1, x2⟩ := hC
          cases k with
          | zero =>
            obtain ⟨_, y2, y3⟩ := x2
            have e : n = a + 2 * s := by omega
            subst e
            exact ⟨x1, y3, 0, Nat.le_refl _, by omega, Ok.none⟩
          | succ k =>
            obtain ⟨_, y2, y3⟩ := x2
            rw [show a + s + s = a + 2 * s by omega] at y2 y3
            exact ⟨x1, y2, k, y3⟩
      obtain ⟨hP, hO⟩ := Ok.merge (f := n) hS (by omega) (by omega) (by omega) (by omega) h1 h2 fun i j h h' => hG i j h (by omega)
      obtain ⟨⟨k', hk⟩, hQ⟩ := mrgRow_spec hS d0 n s hs hn hG f (a + 2 * s) k2 (symMerge lt n d a (a + s) (a + 2 * s)) (by omega) c (hP.1.trans hz) (h3.congr fun t ht => hP.2.1 t (Or.inr ht))
      exact ⟨⟨k' + 1, c, hO.congr fun t _ h2 => hQ.2.1 t (Or.inl h2), hk⟩, permIn_trans _ _ _ a n (permIn_mono _ _ a (a + 2 * s) a n (Nat.le_refl _) c (by omega) hP) (permIn_mono _ _ (a + 2 * s) n a n (by omega) (Nat.le_refl _) (by rw [hP.1]; omega) hQ)⟩
    · rw [if_neg c]
      by_cases c2 : a + s < n
      · rw [if_pos c2]
        obtain ⟨h1, h2⟩ : Ok tl d0 d a (a + s) ∧ Ok tl d0 d (a + s) n := by
          cases k with
          | zero => have := hC.2.1; omega
          | succ k =>
            obtain ⟨_, x1, x2⟩ := hC
            cases k with
            | zero => exact ⟨x1, x2.2.2⟩
            | succ k => have := x2.1; omega
        obtain ⟨hP, hO⟩ := Ok.merge (f := n) hS (by omega) (by omega) c2 (by omega) h1 h2 fun i j h h' => hG i j h (by omega)
        exact ⟨⟨0, ha, by omega, hO⟩, hP⟩
      · rw [if_neg c2]
        refine ⟨⟨0, ha, by omega, ?_⟩, permIn_refl _ _ _⟩
        cases k with
        | zero => exact hC.2.2
        | succ k =>
          obtain ⟨x0, x1, x2⟩ := hC
          have e : n = a + s := by omega
          rw [e]; exact x1
theorem mrgAll_spec (hS : SWO tl) (d0 : Array α) (n : Nat) (hn : n ≤ d0.size) (hG : ∀ i j, i < j → j < n → lt d0[j]! d0[i]! = tl d0[j]! d0[i]!) : ∀ (f s k : Nat) (d : Array α), 0 < s → n - s < f → d.size = d0.size → Chain (Ok tl d0 d) s n k 0 →
    Ok tl d0 (mrgAll lt n f s d) 0 n ∧ PermIn 0 n d (mrgAll lt n f s d)
  | 0, s, _, d, _, hf, _, _ => by omega
  | f + 1, s, k, d, h0, hf, hz, hC => by
    rw [mrgAll]
    by_cases c : s < n
    · rw [if_pos c]
      obtain ⟨⟨k', hk⟩, hP⟩ := mrgRow_spec hS d0 n s h0 hn hG (n + 1) 0 k d (by omega) (Nat.zero_le _) hz hC
      obtain ⟨hO, hQ⟩ := mrgAll_spec hS d0 n hn hG f (2 * s) k' _ (by omega) (by omega) (hP.1.trans hz) hk
      exact ⟨hO, permIn_trans _ _ _ 0 n hP hQ⟩
    · rw [if_neg c]
      refine ⟨?_, permIn_refl _ _ _⟩
      cases k with
      | zero => exact hC.2.2
      | succ k =>
        obtain ⟨x0, x1, x2⟩ := hC
        have e : n = 0 + s := by omega
        rw [e]; exact x1
theorem stable_spec (hS : SWO tl) (d : Array α) (hG : ∀ i j, i < j → j < d.size → lt d[j]! d[i]! = tl d[j]! d[i]!) : PermIn 0 d.size d (stable lt d) ∧ SortedIn tl 0 d.size (stable lt d) := by
  obtain ⟨⟨k, hk⟩, hP⟩ := insBl_spec (lt := lt) hS d d.size (Nat.le_refl _) hG (d.size + 1) 0 d (by omega) (Nat.zero_le _) rfl fun _ _ => rfl
  obtain ⟨hO, hQ⟩ := mrgAll_spec (lt := lt) hS d d.size (Nat.le_refl _) hG (d.size + 1) 20 k _ (by omega) (by omega) hP.1 hk
  exact ⟨permIn_trans _ _ _ 0 d.size hP hQ, hO.srt⟩
theorem size_ins (lt : α → α → Bool) (d : Array α) (a b : Nat) : (insertionSort lt d a b).size = d.size := by
  have h1 : ∀ (j : Nat) (d : Array α), (insInner lt a j d).size = d.size := by
    intro j
    induction j with
    | zero => intro d; unfold insInner; rfl
    | succ j ih => intro d; unfold insInner; split; rw [ih, swp_size]; rfl
  have h2 : ∀ (n i : Nat) (d : Array α), b - i = n → (insOuter lt a b i d).size = d.size := by
    intro n
    induction n with
    | zero => intro i d hn; rw [insOuter, if_neg (by omega)]
    | succ n ih => intro i d hn; rw [insOuter, if_pos (by omega), ih _ _ (by omega), h1]
  exact h2 _ _ _ rfl
theorem size_insBl (lt : α → α → Bool) (n : Nat) : ∀ (f a : Nat) (d : Array α), (insBl lt n f a d).size = d.size
  | 0, _, _ => rfl
  | f + 1, a, d => by rw [insBl]; split; rw [size_insBl lt n f, size_ins]; exact size_ins _ _ _ _
theorem size_mrgRow (lt : α → α → Bool) (n s : Nat) : ∀ (f a : Nat) (d : Array α), (mrgRow lt n s f a d).size = d.size
  | 0, _, _ => rfl
  | f + 1, a, d => by
    rw [mrgRow]; split
    · rw [size_mrgRow lt n s f, size_symMerge]
    · split
      · exact size_symMerge _ _ _ _ _ _
      · rfl
theorem size_mrgAll (lt : α → α → Bool) (n : Nat) : ∀ (f s : Nat) (d : Array α), (mrgAll lt n f s d).size = d.size
  | 0, _, _ => rfl
  | f + 1, s, d => by rw [mrgAll]; split; rw [size_mrgAll lt n f, size_mrgRow]; rfl
theorem size_stable (lt : α → α → Bool) (d : Array α) : (stable lt d).size = d.size := by rw [stable, size_mrgAll, size_insBl]
theorem stable_tiny (lt : α → α → Bool) (d : Array α) (h : d.size ≤ 1) : stable lt d = d := by
  have h1 : insertionSort lt d 0 d.size = d := by rw [insertionSort, insOuter, if_neg (by omega)]
  rw [stable, insBl, if_neg (by omega), h1, mrgAll, if_neg (by omega)]
end Go.Proofs.Ytkijhilmgljegaa.Sym

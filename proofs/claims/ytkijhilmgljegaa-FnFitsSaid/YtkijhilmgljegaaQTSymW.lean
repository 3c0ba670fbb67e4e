/- sort.SliceStable at whatever length: the library's swapRange, rotate, symMerge, stable compute the plain functions of the text before. Conditions: 'less' tells lt and turns nothing; elements of one cell. -/
import Derived.Test.YtkijhilmgljegaaQTSym
import Derived.Shelf.GgSortMore.Stable
import Derived.Shelf.GgSortFunc.SW
import Derived.Deep.LoopGhost
import Derived.Deep.Cut
import Derived.Lib.Hide
namespace Go.Proofs.Ytkijhilmgljegaa.Sym
open Go.Shelf Go.RowKit Go.Lib Go.Sort
variable {P : Program} {ρ : Ren} {α : Type} [Inhabited α]
structure Box2 (B : Nat) (x y : Value) (W : World) : Prop where
  c0 : W.cell? ⟨B, 0, none⟩ = some x
  c1 : W.cell? ⟨B, 1, none⟩ = some y
  lt : B < W.heap.size
theorem Box2.setCell {B : Nat} {x y : Value} {W : World} (h : Box2 B x y W) {b o : Nat} {v : Value} (hne : B ≠ b) : Box2 B x y (W.setCell ⟨b, o, none⟩ v) where
  c0 := (World.cell?_setCell_other _ _ _ _ (fun e => hne (congrArg Addr.block e).symm)).trans h.c0
  c1 := (World.cell?_setCell_other _ _ _ _ (fun e => hne (congrArg Addr.block e).symm)).trans h.c1
  lt := by rw [World.size_setCell]; exact h.lt
theorem Box2.drewN {B : Nat} {x y : Value} {W : World} (h : Box2 B x y W) (q : Nat) : Box2 B x y (W.drewN q) := ⟨h.c0, h.c1, h.lt⟩
theorem cell_sw (enc : α → Value) (W : World) (blk off n : Nat) (dk : Array α) (os : Array Obj) (a : Addr) (h1 : a.block ≠ blk) (h2 : a.block < W.heap.size) : (sortWorld enc W blk off n dk os).cell? a = W.cell? a := by
  unfold sortWorld; rw [cell?_grow _ _ _ (by rw [size_putRow]; exact h2), cell?_putRow_other enc _ blk off dk a (Or.inl h1)]; rfl
theorem Box2.on {B : Nat} {x y : Value} {W w1 : World} (h : Box2 B x y W) (enc : α → Value) {blk off : Nat} {d' : Array α} (hne : B ≠ blk) (h1 : ∃ m os', w1 = sortWorld enc W blk off m d' os') : Box2 B x y w1 := by
  obtain ⟨m, os', rfl⟩ := h1
  exact ⟨(cell_sw enc W blk off m d' os' ⟨B, 0, none⟩ hne h.lt).trans h.c0, (cell_sw enc W blk off m d' os' ⟨B, 1, none⟩ hne h.lt).trans h.c1,
    by unfold sortWorld; rw [size_grow, size_putRow]; exact Nat.lt_of_lt_of_le h.lt (Nat.le_add_right _ _)⟩
theorem sw_on {enc : α → Value} {w0 W w1 : World} {blk off : Nat} {dk dk' : Array α} (h : SW enc w0 blk off dk W) (hblk : blk < w0.heap.size) (hs : dk'.size = dk.size) (h1 : ∃ m os', w1 = sortWorld enc W blk off m dk' os') : SW enc w0 blk off dk' w1 := by
  obtain ⟨m, os', rfl⟩ := h1
  exact h.on hblk m dk' os' hs
set_option maxHeartbeats 1600000 in
set_option maxRecDepth 1000000 in
theorem swapRange_w (L : LaysGt.n49 P ρ) (enc : α → Value) (lf : Fn) (la lb : Array Value) (sf : Nat) (sb : Array Value) (blk off a b n : Nat) (d : Array α) (w : World)
    (hswap : SwapSwaps P sf sb enc blk off d.size) (hH : Holds enc w blk off d) (hblk : blk < w.heap.size) (ha : a + n ≤ d.size) (hb : b + n ≤ d.size) (hsz : d.size < 4611686018427387904) :
    Calls P (ρ.f 49) #[.agg #[.func lf la lb, .func (.func sf) #[] sb], .int .i64 a, .int .i64 b, .int .i64 n] w fun e w' => e = .returned (.tuple #[]) ∧ ∃ m os, w' = sortWorld enc w blk off m (swapRange d a b n) os := by
  have mixed := L.mixed; have t0 := L.t0; have a0 := L.a0; have z0 := L.z0; have v0 := L.v0; have t3 := L.t3; have a3 := L.a3; have z3 := L.z3; have v3 := L.v3; have t4 := L.t4; have a4 := L.a4; have z4 := L.z4; have v4 := L.v4; have t26 := L.t26; have a26 := L.a26; have z26 := L.z26; have v26 := L.v26; have t38 := L.t38; have a38 := L.a38; have z38 := L.z38; have v38 := L.v38; have t42 := L.t42; have a42 := L.a42; have z42 := L.z42; have v42 := L.v42
  have u42 := run_underlying L.t42
  have hne : w.heap.size ≠ blk := by omega
  have hS0 := (SW.start hH).alloc (.cells #[.func lf la lb, .func (.func sf) #[] sb] (ρ.t 42))
  go_enter L.f49, BodyGt.n49_ntmps ρ
  go_wp2
  go_loopg [8] n (fun k s8 wr => ∃ (i : Nat) (dk : Array α), s8 = .int .i64 i ∧ i ≤ n ∧ n - i ≤ k ∧ dk.size = d.size ∧ SW enc w blk off dk wr ∧ Box2 w.heap.size (.func lf la lb) (.func (.func sf) #[] sb) wr ∧ swR a b (n - i) i dk = swR a b n 0 d)
  case atStart => exact ⟨0, d, rfl, by omega, by omega, rfl, hS0, ⟨by simp, by simp, by simp⟩, rfl⟩
  case round =>
    obtain ⟨i, dk, rfl, hi, hk, hds, hSW, hBx, heq⟩ := hrel
    have A : Aside (swR a b (n - i) i dk = swR a b n 0 d) := heq
    have hHk := hSW.holds hblk hH hds
    clear heq hH hS0
    by_cases hlt : i < n
    · have hs := hswap wr dk hHk hds (a + i) (b + i) (by omega) (by omega)
      have c1 := hBx.c1
      have hN := hSW.swap hblk (a + i) (b + i) (by omega) (by omega)
      have hB := (hBx.setCell (b := blk) (o := off + (a + i)) (v := enc dk[b + i]!) hne).setCell (b := blk) (o := off + (b + i)) (v := enc dk[a + i]!) hne
      generalize ((wr.setCell ⟨blk, off + (a + i), none⟩ (enc dk[b + i]!)).setCell ⟨blk, off + (b + i), none⟩ (enc dk[a + i]!)) = W2 at *
      rw [show ((a + i : Nat) : Int) = (a : Int) + (i : Int) by omega, show ((b + i : Nat) : Int) = (b : Int) + (i : Int) by omega] at hs
      clear hHk hSW hBx hswap
      go_wp2
      go_roundg (n - (i + 1))
      case measure => omega
      case rel => exact ⟨i + 1, swp dk (a + i) (b + i), by go_num, by omega, by omega, by rw [size_swp]; exact hds, hN, hB, by rw [← A.out, show n - i = (n - (i + 1)) + 1 by omega]; rfl⟩
    · obtain rfl : i = n := by omega
      clear hswap
      go_wp2
      go_end0
      obtain ⟨m, os, hw⟩ := hSW
      exact ⟨rfl, m, os, by rw [swapRange, ← A.out, Nat.sub_self]; exact hw⟩
set_option maxHeartbeats 3200000 in
set_option maxRecDepth 1000000 in
theorem rotate_w (L : LaysGt.n42 P ρ) (enc : α → Value) (lf : Fn) (la lb : Array Value) (sf : Nat) (sb : Array Value) (blk off a m b : Nat) (d : Array α) (w : World)
    (hswap : SwapSwaps P sf sb enc blk off d.size) (hH : Holds enc w blk off d) (hblk : blk < w.heap.size) (ha : a < m) (hm : m < b) (hb : b ≤ d.size) (hsz : d.size < 4611686018427387904) :
    Calls P (ρ.f 42) #[.agg #[.func lf la lb, .func (.func sf) #[] sb], .int .i64 a, .int .i64 m, .int .i64 b] w fun e w' => e = .returned (.tuple #[]) ∧ ∃ n os, w' = sortWorld enc w blk off n (rot m d.size (m - a) (b - m) d) os := by
  have mixed := L.mixed; have t0 := L.t0; have a0 := L.a0; have z0 := L.z0; have v0 := L.v0; have t3 := L.t3; have a3 := L.a3; have z3 := L.z3; have v3 := L.v3; have t4 := L.t4; have a4 := L.a4; have z4 := L.z4; have v4 := L.v4; have t26 := L.t26; have a26 := L.a26; have z26 := L.z26; have v26 := L.v26; have t38 := L.t38; have a38 := L.a38; have z38 := L.z38; have v38 := L.v38; have t42 := L.t42; have a42 := L.a42; have z42 := L.z42; have v42 := L.v42
  have u42 := run_underlying L.t42
  have e49 : ∀ args w, (callFunc (ρ.f 49) args).run P w = .ok (.enter (ρ.f 49) args) w := enters_of L.f49 (by kernel_rfl) rfl
  have hne : w.heap.size ≠ blk := by omega
  have hS0 := (SW.start hH).alloc (.cells #[.func lf la lb, .func (.func sf) #[] sb] (ρ.t 42))
  have ei : (((m - a : Nat)) : Int) = (m : Int) - (a : Int) := by omega
  have ej : (((b - m : Nat)) : Int) = (b : Int) - (m : Int) := by omega
  have EI := Lib.hid ei
  have EJ := Lib.hid ej
  clear ei ej
  go_enter L.f42, BodyGt.n42_ntmps ρ
  go_wp2
  go_loopg [8, 9] (b - a) (fun k s8 s9 wr => ∃ (i j f : Nat) (dk : Array α), s8 = .int .i64 i ∧ s9 = .int .i64 j ∧ 0 < i ∧ 0 < j ∧ i ≤ m ∧ m + j ≤ d.size ∧ i + j ≤ k ∧ i + j ≤ f ∧ dk.size = d.size ∧ SW enc w blk off dk wr ∧ Box2 w.heap.size (.func lf la lb) (.func (.func sf) #[] sb) wr ∧
    rot m f i j dk = rot m d.size (m - a) (b - m) d)
  case atStart => exact ⟨m - a, b - m, d.size, d, by rw [EI.out], by rw [EJ.out], by omega, by omega, by omega, by omega, by omega, by omega, rfl, hS0, ⟨by simp, by simp, by simp⟩, rfl⟩
  case round =>
    obtain ⟨i, j, f, dk, rfl, rfl, hi, hj, him, hjm, hk, hf, hds, hSW, hBx, heq⟩ := hrel
    have A : Aside (rot m f i j dk = rot m d.size (m - a) (b - m) d) := heq
    have hHk := hSW.holds hblk hH hds
    have hlt := hSW.lt hblk
    have HS : SwapSwaps P sf sb enc blk off dk.size := by rw [hds]; exact hswap
    have c0 := hBx.c0
    have c1 := hBx.c1
    clear heq hH hS0 hswap
    obtain ⟨f, rfl⟩ : ∃ q, f = q + 1 := ⟨f - 1, by omega⟩
    by_cases hij : i = j
    · subst hij
      have hc := swapRange_w { L with } enc lf la lb sf sb blk off (m - i) m i dk wr HS hHk hlt (by omega) (by omega) (by omega)
      rw [show ((m - i : Nat) : Int) = (m : Int) - (i : Int) by omega] at hc
      clear HS
      go_wp2_with (go_at_fn (ρ.f 49); refine hc.mono ?_; rintro e w1 ⟨rfl, hw1⟩)
      go_end0
      obtain ⟨n, os, hw⟩ := sw_on hSW hblk (size_swapRange _ _ _ _) hw1
      exact ⟨rfl, n, os, by rw [← A.out, rot, if_pos rfl]; exact hw⟩
    · by_cases hl : j < i
      · have hc := swapRange_w { L with } enc lf la lb sf sb blk off (m - i) m j dk wr HS hHk hlt (by omega) (by omega) (by omega)
        rw [show ((m - i : Nat) : Int) = (m : Int) - (i : Int) by omega] at hc
        clear HS
        have hn1 : ((i : Int) != (j : Int)) = true := by rw [bne_iff_ne]; omega
        go_wp2_with (go_at_fn (ρ.f 49); refine hc.mono ?_; rintro e w1 ⟨rfl, hw1⟩)
        go_roundg (i - j + j)
        case measure => omega
        case rel =>
          exact ⟨i - j, j, f, swapRange dk (m - i) m j, by congr 1; omega, rfl, by omega, by omega, by omega, by omega, by omega, by omega, (size_swapRange _ _ _ _).trans hds, sw_on hSW hblk (size_swapRange _ _ _ _) hw1, hBx.on enc hne hw1, by rw [← A.out, rot, if_neg hij, if_pos hl]⟩
      · have hc := swapRange_w { L with } enc lf la lb sf sb blk off (m - i) (m + j - i) i dk wr HS hHk hlt (by omega) (by omega) (by omega)
        rw [show ((m - i : Nat) : Int) = (m : Int) - (i : Int) by omega, show ((m + j - i : Nat) : Int) = (m : Int) + (j : Int) - (i : Int) by omega] at hc
        clear HS
        have hn1 : ((i : Int) != (j : Int)) = true := by rw [bne_iff_ne]; omega
        go_wp2_with (go_at_fn (ρ.f 49); refine hc.mono ?_; rintro e w1 ⟨rfl, hw1⟩)
        go_roundg (i + (j - i))
        case measure => omega
        case rel =>
          exact ⟨i, j - i, f, swapRange dk (m - i) (m + j - i) i, rfl, by congr 1; omega, by omega, by omega, by omega, by omega, by omega, by omega, (size_swapRange _ _ _ _).trans hds, sw_on hSW hblk (size_swapRange _ _ _ _) hw1, hBx.on enc hne hw1, by rw [← A.out, rot, if_neg hij, if_neg hl]⟩
set_option maxHeartbeats 3200000 in
set_option maxRecDepth 1000000 in
theorem symMerge_w (L : LaysGt.n30 P ρ) (enc : α → Value) (lt : α → α → Bool) (g : Nat) (lb : Array Value) (sf : Nat) (sb : Array Value) (eg : ∀ args w, (callFunc g args).run P w = .ok (.enter g args) w) :
    ∀ (N blk off a m b : Nat) (d : Array α) (w : World), b - a ≤ N → LessReads P g lb enc lt blk off d.size w → SwapSwaps P sf sb enc blk off d.size → Holds enc w blk off d → blk < w.heap.size → a < m → m < b → b ≤ d.size → d.size < 4611686018427387904 →
    Calls P (ρ.f 30) #[.agg #[.func (.func g) #[] lb, .func (.func sf) #[] sb], .int .i64 a, .int .i64 m, .int .i64 b] w fun e w' => e = .returned (.tuple #[]) ∧ ∃ n os, w' = sortWorld enc w blk off n (symMerge lt N d a m b) os := by
  have mixed := L.mixed; have t0 := L.t0; have a0 := L.a0; have z0 := L.z0; have v0 := L.v0; have t3 := L.t3; have a3 := L.a3; have z3 := L.z3; have v3 := L.v3; have t4 := L.t4; have a4 := L.a4; have z4 := L.z4; have v4 := L.v4; have t26 := L.t26; have a26 := L.a26; have z26 := L.z26; have v26 := L.v26; have t38 := L.t38; have a38 := L.a38; have z38 := L.z38; have v38 := L.v38; have t42 := L.t42; have a42 := L.a42; have z42 := L.z42; have v42 := L.v42; have t47 := L.t47; have a47 := L.a47; have z47 := L.z47; have v47 := L.v47
  have u42 := run_underlying L.t42
  have e42 : ∀ args w, (callFunc (ρ.f 42) args).run P w = .ok (.enter (ρ.f 42) args) w := enters_of L.f42 (by kernel_rfl) rfl
  have e30 : ∀ args w, (callFunc (ρ.f 30) args).run P w = .ok (.enter (ρ.f 30) args) w := enters_of L.f30 (by kernel_rfl) rfl
  intro N
  induction N with
  | zero => intro _ _ _ _ _ _ _ h _ _ _ _ h1 h2; omega
  | succ N ih =>
    intro blk off a m b d w hN hless hswap hH hblk h1 h2 hb hsz
    have hne : w.heap.size ≠ blk := by omega
    have hS0 := (SW.start hH).alloc (.cells #[.func (.func g) #[] lb, .func (.func sf) #[] sb] (ρ.t 42))
    by_cases c1 : m - a = 1
    · have tb : ((m : Int) - (a : Int) == 1) = true := beq_iff_eq.2 (by omega)
      have C1 := Lib.hid c1
      clear c1
      have am : m ≤ a + 1 := by have := C1.out; omega
      go_enter L.f30, BodyGt.n30_ntmps ρ
      go_wp2
      go_loopg [8, 9] (b - m) (fun k s8 s9 wr => ∃ (i j : Nat), s8 = .int .i64 i ∧ s9 = .int .i64 j ∧ m ≤ i ∧ i ≤ j ∧ j ≤ b ∧ j - i ≤ k ∧ SW enc w blk off d wr ∧ Box2 w.heap.size (.func (.func g) #[] lb) (.func (.func sf) #[] sb) wr ∧ bs (fun h => lt d[h]! d[a]!) i j = bs (fun h => lt d[h]! d[a]!) m b)
      case atStart => exact ⟨m, b, rfl, rfl, by omega, by omega, by omega, by omega, hS0, ⟨by simp, by simp, by simp⟩, rfl⟩
      case round =>
        obtain ⟨i, j, rfl, rfl, hi, hij, hj, hk, hSW, hBx, heq⟩ := hrel
        have A : Aside (bs (fun h => lt d[h]! d[a]!) i j = bs (fun h => lt d[h]! d[a]!) m b) := heq
        have c0 := hBx.c0
        clear heq ih hS0
        by_cases hlt : i < j
        · have hl := hSW.less hless rfl ((i + j) / 2) a (by omega) (by omega)
          rw [show (((i + j) / 2 : Nat) : Int) = ((i : Int) + (j : Int)) / 2 by omega] at hl
          cases hlv : lt d[(i + j) / 2]! d[a]! with
          | true =>
            rw [hlv] at hl
            go_wp2_with (go_at_fn g; refine hl.mono ?_; rintro e w' ⟨rfl, q, rfl⟩)
            go_roundg (j - ((i + j) / 2 + 1))
            case measure => omega
            case rel => exact ⟨(i + j) / 2 + 1, j, by first | rfl | (congr 1; omega), rfl, by omega, by omega, hj, Nat.le_refl _, hSW.drewN q, hBx.drewN q, by rw [← A.out, bs.eq_1 _ i j, if_pos hlt, if_pos hlv]⟩
          | false =>
            rw [hlv] at hl
            go_wp2_with (go_at_fn g; refine hl.mono ?_; rintro e w' ⟨rfl, q, rfl⟩)
            go_roundg ((i + j) / 2 - i)
            case measure => omega
            case rel => exact ⟨i, (i + j) / 2, rfl, by first | rfl | (congr 1; omega), hi, by omega, by omega, Nat.le_refl _, hSW.drewN q, hBx.drewN q, by rw [← A.out, bs.eq_1 _ i j, if_pos hlt, if_neg (by rw [hlv]; simp)]⟩
        · obtain rfl : i = j := by omega
          have hr : i = bs (fun h => lt d[h]! d[a]!) m b := by rw [← A.out, bs.eq_1, if_neg (Nat.lt_irrefl _)]
          have R := Lib.hid hr
          clear hr A
          go_wp2
          go_loopg [11] (i - 1 - a) (fun k s11 wr => ∃ (c : Nat) (dk : Array α), s11 = .int .i64 c ∧ a ≤ c ∧ c ≤ i - 1 ∧ i - 1 - c ≤ k ∧ dk.size = d.size ∧ SW enc w blk off dk wr ∧ Box2 w.heap.size (.func (.func g) #[] lb) (.func (.func sf) #[] sb) wr ∧ shU (i - 1 - c) c dk = shU (i - 1 - a) a d)
          case atStart => exact ⟨a, d, rfl, by omega, by omega, by omega, rfl, hSW, hBx, rfl⟩
          case round =>
            obtain ⟨c, dk, rfl, ha, hc, hk, hds, hSW, hBx, heq⟩ := hrel
            have A : Aside (shU (i - 1 - c) c dk = shU (i - 1 - a) a d) := heq
            clear heq
            by_cases hlt : c < i - 1
            · have hs := hswap wr dk (hSW.holds hblk hH hds) hds c (c + 1) (by omega) (by omega)
              have c1 := hBx.c1
              have hN := hSW.swap hblk c (c + 1) (by omega) (by omega)
              have hB := (hBx.setCell (b := blk) (o := off + c) (v := enc dk[c + 1]!) hne).setCell (b := blk) (o := off + (c + 1)) (v := enc dk[c]!) hne
              generalize ((wr.setCell ⟨blk, off + c, none⟩ (enc dk[c + 1]!)).setCell ⟨blk, off + (c + 1), none⟩ (enc dk[c]!)) = W2 at *
              rw [show ((c + 1 : Nat) : Int) = (c : Int) + 1 by omega] at hs
              have hz : (c : Int) < (i : Int) - 1 := by omega
              clear hSW hBx hswap hH c0 hless
              go_wp2
              go_roundg (i - 1 - (c + 1))
              case measure => omega
              case rel => exact ⟨c + 1, swp dk c (c + 1), by go_num, by omega, by omega, Nat.le_refl _, by rw [size_swp]; exact hds, hN, hB, by rw [← A.out, show i - 1 - c = (i - 1 - (c + 1)) + 1 by omega]; rfl⟩
            · obtain rfl : c = i - 1 := by omega
              have hz : ¬ (((i - 1 : Nat) : Int) < (i : Int) - 1) := by omega
              clear hswap hH c0 hless
              go_wp2
              (try simp only [Exit.inBlock, Exit.then]); refine bodyPost_ret (results_none rfl _ _ _) rfl ?_
              obtain ⟨n, os, hw⟩ := hSW
              exact ⟨rfl, n, os, by rw [symMerge, if_pos C1.out, ← R.out, ← A.out, Nat.sub_self]; exact hw⟩
    · have ta : ((m : Int) - (a : Int) == 1) = false := beq_eq_false_iff_ne.2 (by omega)
      have C1 := Lib.hid c1
      by_cases c2 : b - m = 1
      · have tb : ((b : Int) - (m : Int) == 1) = true := beq_iff_eq.2 (by omega)
        have C2 := Lib.hid c2
        have am : b ≤ m + 1 := by omega
        clear c1 c2
        go_enter L.f30, BodyGt.n30_ntmps ρ
        go_wp2
        go_loopg [12, 13] (m - a) (fun k s8 s9 wr => ∃ (i j : Nat), s8 = .int .i64 i ∧ s9 = .int .i64 j ∧ a ≤ i ∧ i ≤ j ∧ j ≤ m ∧ j - i ≤ k ∧ SW enc w blk off d wr ∧ Box2 w.heap.size (.func (.func g) #[] lb) (.func (.func sf) #[] sb) wr ∧ bs (fun h => !lt d[m]! d[h]!) i j = bs (fun h => !lt d[m]! d[h]!) a m)
        case atStart => exact ⟨a, m, rfl, rfl, by omega, by omega, by omega, by omega, hS0, ⟨by simp, by simp, by simp⟩, rfl⟩
        case round =>
          obtain ⟨i, j, rfl, rfl, hi, hij, hj, hk, hSW, hBx, heq⟩ := hrel
          have A : Aside (bs (fun h => !lt d[m]! d[h]!) i j = bs (fun h => !lt d[m]! d[h]!) a m) := heq
          have c0 := hBx.c0
          clear heq ih hS0
          by_cases hlt : i < j
          · have hl := hSW.less hless rfl m ((i + j) / 2) (by omega) (by omega)
            rw [show (((i + j) / 2 : Nat) : Int) = ((i : Int) + (j : Int)) / 2 by omega] at hl
            cases hlv : lt d[m]! d[(i + j) / 2]! with
            | false =>
              rw [hlv] at hl
              go_wp2_with (go_at_fn g; refine hl.mono ?_; rintro e w' ⟨rfl, q, rfl⟩)
              go_roundg (j - ((i + j) / 2 + 1))
              case measure => omega
              case rel => exact ⟨(i + j) / 2 + 1, j, by first | rfl | (congr 1; omega), rfl, by omega, by omega, hj, Nat.le_refl _, hSW.drewN q, hBx.drewN q, by rw [← A.out, bs.eq_1 _ i j, if_pos hlt, if_pos (by rw [hlv]; rfl)]⟩
            | true =>
              rw [hlv] at hl
              go_wp2_with (go_at_fn g; refine hl.mono ?_; rintro e w' ⟨rfl, q, rfl⟩)
              go_roundg ((i + j) / 2 - i)
              case measure => omega
              case rel => exact ⟨i, (i + j) / 2, rfl, by first | rfl | (congr 1; omega), hi, by omega, by omega, Nat.le_refl _, hSW.drewN q, hBx.drewN q, by rw [← A.out, bs.eq_1 _ i j, if_pos hlt, if_neg (by rw [hlv]; simp)]⟩
          · obtain rfl : i = j := by omega
            have hr : i = bs (fun h => !lt d[m]! d[h]!) a m := by rw [← A.out, bs.eq_1, if_neg (Nat.lt_irrefl _)]
            have R := Lib.hid hr
            clear hr A
            go_wp2
            go_loopg [15] (m - i) (fun k s11 wr => ∃ (c : Nat) (dk : Array α), s11 = .int .i64 c ∧ i ≤ c ∧ c ≤ m ∧ c - i ≤ k ∧ dk.size = d.size ∧ SW enc w blk off dk wr ∧ Box2 w.heap.size (.func (.func g) #[] lb) (.func (.func sf) #[] sb) wr ∧ shD i c dk = shD i m d)
            case atStart => exact ⟨m, d, rfl, by omega, by omega, by omega, rfl, hSW, hBx, rfl⟩
            case round =>
              obtain ⟨c, dk, rfl, ha, hc, hk, hds, hSW, hBx, heq⟩ := hrel
              have A : Aside (shD i c dk = shD i m d) := heq
              clear heq
              by_cases hlt : i < c
              · obtain ⟨c, rfl⟩ : ∃ q, c = q + 1 := ⟨c - 1, by omega⟩
                have hs := hswap wr dk (hSW.holds hblk hH hds) hds (c + 1) c (by omega) (by omega)
                have c1 := hBx.c1
                have hN := hSW.swap hblk (c + 1) c (by omega) (by omega)
                have hB := (hBx.setCell (b := blk) (o := off + (c + 1)) (v := enc dk[c]!) hne).setCell (b := blk) (o := off + c) (v := enc dk[c + 1]!) hne
                generalize ((wr.setCell ⟨blk, off + (c + 1), none⟩ (enc dk[c]!)).setCell ⟨blk, off + c, none⟩ (enc dk[c + 1]!)) = W2 at *
                rw [show ((c + 1 : Nat) : Int) = (c : Int) + 1 by omega] at hs
                clear hSW hBx hswap hH c0 hless
                go_wp2
                go_roundg (c - i)
                case measure => omega
                case rel => exact ⟨c, swp dk (c + 1) c, by go_num, by omega, by omega, Nat.le_refl _, by rw [size_swp]; exact hds, hN, hB, by rw [← A.out, shD, if_pos hlt]⟩
              · obtain rfl : c = i := by omega
                clear hswap hH c0 hless
                go_wp2
                (try simp only [Exit.inBlock, Exit.then]); refine bodyPost_ret (results_none rfl _ _ _) rfl ?_
                obtain ⟨n, os, hw⟩ := hSW
                have hq : shD c c dk = dk := by
                  cases c with
                  | zero => rfl
                  | succ c => rw [shD, if_neg (Nat.lt_irrefl _)]
                exact ⟨rfl, n, os, by rw [symMerge, if_neg C1.out, if_pos C2.out, ← R.out, ← A.out, hq]; exact hw⟩
      · have tb : ((b : Int) - (m : Int) == 1) = false := beq_eq_false_iff_ne.2 (by omega)
        have C2 := Lib.hid c2
        clear c2
        obtain ⟨M, hM⟩ : ∃ M, M = (a + b) / 2 := ⟨_, rfl⟩
        have hs3 := st3_bd (lt := lt) d h1 h2
        have hro := size_ro3 lt d a m b
        have hst : st3 lt d a m b = bs (fun c => !lt d[M + m - 1 - c]! d[c]!) (lo3 a m b) (hi3 a m b) := by rw [st3, hM]
        have hen : en3 lt d a m b = M + m - st3 lt d a m b := by rw [en3, hM]
        have hro3 : ro3 lt d a m b = if st3 lt d a m b < m ∧ m < en3 lt d a m b then rot m d.size (m - st3 lt d a m b) (en3 lt d a m b - m) d else d := rfl
        have hlo : lo3 a m b = if M < m then M + m - b else a := by rw [lo3, hM]
        have hhi : hi3 a m b = if M < m then M else m := by rw [hi3, hM]
        have hsym : symMerge lt (N + 1) d a m b = (let d2 := if a < st3 lt d a m b ∧ st3 lt d a m b < M then symMerge lt N (ro3 lt d a m b) a (st3 lt d a m b) M else ro3 lt d a m b
            if M < en3 lt d a m b ∧ en3 lt d a m b < b then symMerge lt N d2 M (en3 lt d a m b) b else d2) := by rw [symMerge, if_neg C1.out, if_neg C2.out, hM]
        have SYM := Lib.hid hsym
        have hMb : 2 * M ≤ a + b ∧ a + b < 2 * M + 2 := by omega
        have HM := Lib.hid hM
        clear hsym hM c1
        obtain ⟨hM1, hM2⟩ := hMb
        generalize st3 lt d a m b = S at *
        generalize en3 lt d a m b = E at *
        generalize ro3 lt d a m b = R at *
        generalize lo3 a m b = lo at *
        generalize hi3 a m b = hi at *
        have hb1 : a ≤ lo ∧ hi ≤ m ∧ hi ≤ M ∧ a ≤ M ∧ M < b ∧ lo + b ≥ M + m := by
          by_cases c : M < m <;> simp only [c, if_true, if_false] at hlo hhi <;> omega
        obtain ⟨q1, q2, q3, q4, q5, q6⟩ := hb1
        have HST := Lib.hid hst
        have HEN := Lib.hid hen
        have HRO := Lib.hid hro3
        have HLO := Lib.hid hlo
        have HHI := Lib.hid hhi
        have HZ := Lib.hid hro
        obtain ⟨s1, s2⟩ := hs3
        have he1 : E + S = M + m := by omega
        have HE := Lib.hid he1
        have e1 : m ≤ E := by omega
        have e2 : E ≤ b := by omega
        have e3 : M ≤ E := by omega
        clear hst hen hro3 hlo hhi hro he1
        go_enter L.f30, BodyGt.n30_ntmps ρ
        go_upto_if 106 with fail
        go_cut [16, 17, 18, 19] from 23 (fun s16 s17 s18 s19 wc => s16 = .int .i64 (M : Nat) ∧ s17 = .int .i64 ((M : Int) + (m : Int)) ∧ s18 = .int .i64 (lo : Nat) ∧ s19 = .int .i64 (hi : Nat) ∧ SW enc w blk off d wc ∧ Box2 w.heap.size (.func (.func g) #[] lb) (.func (.func sf) #[] sb) wc)
        case first =>
          have hMi : ((a : Int) + (b : Int)) / 2 = (M : Int) := by have := HM.out; omega
          have HMI := Lib.hid hMi
          clear hMi
          by_cases c : M < m
          · have t1 : ((a : Int) + (b : Int)) / 2 < (m : Int) := by rw [HMI.out]; omega
            go_wp2_with fail
            go_meet
            case rel => exact ⟨by rw [HMI.out], by rw [HMI.out], by rw [HMI.out, HLO.out, if_pos c]; congr 1; omega, by rw [HMI.out, HHI.out, if_pos c], hS0, ⟨by simp, by simp, by simp⟩⟩
          · have t1 : ¬ (((a : Int) + (b : Int)) / 2 < (m : Int)) := by rw [HMI.out]; omega
            go_wp2_with fail
            go_meet
            case rel => exact ⟨by rw [HMI.out], by rw [HMI.out], by rw [HLO.out, if_neg c], by rw [HHI.out, if_neg c], hS0, ⟨by simp, by simp, by simp⟩⟩
        case rest =>
          obtain ⟨rfl, rfl, rfl, rfl, hSW, hBx⟩ := hcut
          clear hS0
          go_wp2
          go_loopg [18, 19] (hi - lo) (fun k s18 s19 wr => ∃ (i j : Nat), s18 = .int .i64 i ∧ s19 = .int .i64 j ∧ lo ≤ i ∧ i ≤ j ∧ j ≤ hi ∧ j - i ≤ k ∧ SW enc w blk off d wr ∧ Box2 w.heap.size (.func (.func g) #[] lb) (.func (.func sf) #[] sb) wr ∧ bs (fun c => !lt d[M + m - 1 - c]! d[c]!) i j = S)
          case atStart => exact ⟨lo, hi, rfl, rfl, Nat.le_refl _, by omega, Nat.le_refl _, by omega, hSW, hBx, HST.out.symm⟩
          case round =>
            clear hSW hBx
            obtain ⟨i, j, rfl, rfl, hi', hij, hj, hk, hSW, hBx, heq⟩ := hrel
            have A : Aside (bs (fun c => !lt d[M + m - 1 - c]! d[c]!) i j = S) := heq
            have c0 := hBx.c0
            clear heq
            by_cases hlt : i < j
            · have hl := hSW.less hless rfl (M + m - 1 - (i + j) / 2) ((i + j) / 2) (by omega) (by omega)
              rw [show (((i + j) / 2 : Nat) : Int) = ((i : Int) + (j : Int)) / 2 by omega, show ((M + m - 1 - (i + j) / 2 : Nat) : Int) = (M : Int) + (m : Int) - 1 - ((i : Int) + (j : Int)) / 2 by omega] at hl
              clear ih
              cases hlv : lt d[M + m - 1 - (i + j) / 2]! d[(i + j) / 2]! with
              | false =>
                rw [hlv] at hl
                go_wp2_with (go_at_fn g; refine hl.mono ?_; rintro e w' ⟨rfl, q, rfl⟩)
                go_roundg (j - ((i + j) / 2 + 1))
                case measure => omega
                case rel => exact ⟨(i + j) / 2 + 1, j, by first | rfl | (congr 1; omega), rfl, by omega, by omega, hj, Nat.le_refl _, hSW.drewN q, hBx.drewN q, by rw [← A.out, bs.eq_1 _ i j, if_pos hlt, if_pos (by rw [hlv]; rfl)]⟩
              | true =>
                rw [hlv] at hl
                go_wp2_with (go_at_fn g; refine hl.mono ?_; rintro e w' ⟨rfl, q, rfl⟩)
                go_roundg ((i + j) / 2 - i)
                case measure => omega
                case rel => exact ⟨i, (i + j) / 2, rfl, by first | rfl | (congr 1; omega), hi', by omega, by omega, Nat.le_refl _, hSW.drewN q, hBx.drewN q, by rw [← A.out, bs.eq_1 _ i j, if_pos hlt, if_neg (by rw [hlv]; simp)]⟩
            · obtain rfl : i = j := by omega
              obtain rfl : i = S := by rw [← A.out, bs.eq_1, if_neg (Nat.lt_irrefl _)]
              clear A c0
              have hEi : (M : Int) + (m : Int) - (i : Int) = (E : Int) := by have := HE.out; omega
              have HEI := Lib.hid hEi
              clear hEi
              obtain ⟨b1, hb1⟩ : ∃ x : Bool, x = decide (i < m ∧ m < E) := ⟨_, rfl⟩
              obtain ⟨b2, hb2⟩ : ∃ x : Bool, x = decide (a < i ∧ i < M) := ⟨_, rfl⟩
              obtain ⟨b3, hb3⟩ : ∃ x : Bool, x = decide (M < E ∧ E < b) := ⟨_, rfl⟩
              have B1 := Lib.hid hb1
              have B2 := Lib.hid hb2
              have B3 := Lib.hid hb3
              clear hb1 hb2 hb3
              go_upto_region 40 with fail
              go_cut [22, 145] from 23 (fun s22 s145 wc => s22 = .int .i64 (E : Nat) ∧ s145 = .bool b1 ∧ SW enc w blk off d wc ∧ Box2 w.heap.size (.func (.func g) #[] lb) (.func (.func sf) #[] sb) wc)
              case first =>
                by_cases k1 : i < m
                · by_cases k2 : m < E
                  · have k3 : (m : Int) < (M : Int) + (m : Int) - (i : Int) := by rw [HEI.out]; omega
                    go_wp2_with fail
                    go_meet
                    exact ⟨by rw [HEI.out], by rw [B1.out]; simp [k1, k2], hSW, hBx⟩
                  · have k3 : decide ((m : Int) < (M : Int) + (m : Int) - (i : Int)) = false := by rw [HEI.out]; simp; omega
                    go_wp2_with fail
                    go_meet
                    exact ⟨by rw [HEI.out], by rw [B1.out]; simp [k2], hSW, hBx⟩
                · have k3 : decide (i < m) = false := by simp; omega
                  go_wp2_with fail
                  go_meet
                  exact ⟨by rw [HEI.out], by rw [B1.out]; simp [k1], hSW, hBx⟩
              case rest =>
                clear hSW hBx
                obtain ⟨rfl, rfl, hSW, hBx⟩ := hcut
                go_upto_if 145 with fail
                go_cut [] from 23 (fun wx => SW enc w blk off R wx ∧ Box2 w.heap.size (.func (.func g) #[] lb) (.func (.func sf) #[] sb) wx)
                case first =>
                  have c0 := hBx.c0
                  have c1 := hBx.c1
                  cases b1 with
                  | true =>
                    have k1 : i < m ∧ m < E := by simpa using B1.out.symm
                    have hc := rotate_w (P := P) (ρ := ρ) { L with } enc (.func g) #[] lb sf sb blk off i m E d _ hswap (hSW.holds hblk hH rfl) (hSW.lt hblk) k1.1 k1.2 (by omega) hsz
                    go_wp2_with (go_at_fn (ρ.f 42); refine hc.mono ?_; rintro e w1 ⟨rfl, hw1⟩)
                    go_meet
                    have hr : R = rot m d.size (m - i) (E - m) d := by rw [HRO.out, if_pos k1]
                    exact ⟨sw_on hSW hblk (by rw [HZ.out]) (by rw [hr]; exact hw1), hBx.on enc hne hw1⟩
                  | false =>
                    have k1 : ¬ (i < m ∧ m < E) := by simpa using B1.out.symm
                    go_wp2_with fail
                    go_meet
                    have hr : R = d := by rw [HRO.out, if_neg k1]
                    rw [hr]
                    exact ⟨hSW, hBx⟩
                case rest =>
                  clear hSW hBx
                  obtain ⟨hSW, hBx⟩ := hcut
                  have hzR : R.size = d.size := HZ.out
                  have LR : ∀ {D : Array α} {X : World}, SW enc w blk off D X → D.size = d.size → LessReads P g lb enc lt blk off D.size X := fun {D X} hA hs => by rw [hs]; exact SW.lessReads hA hless hblk hs
                  have SR : ∀ {D : Array α}, D.size = d.size → SwapSwaps P sf sb enc blk off D.size := fun {D} hs => by rw [hs]; exact hswap
                  go_upto_region 42 with fail
                  go_cut [158] from 23 (fun s158 wy => s158 = .bool b2 ∧ SW enc w blk off R wy ∧ Box2 w.heap.size (.func (.func g) #[] lb) (.func (.func sf) #[] sb) wy)
                  case first =>
                    by_cases k1 : a < i
                    · by_cases k2 : i < M
                      · go_wp2_with fail
                        go_meet
                        exact ⟨by rw [B2.out]; simp [k1, k2], hSW, hBx⟩
                      · have k3 : decide (i < M) = false := by simp; omega
                        go_wp2_with fail
                        go_meet
                        exact ⟨by rw [B2.out]; simp [k2], hSW, hBx⟩
                    · have k3 : decide (a < i) = false := by simp; omega
                      go_wp2_with fail
                      go_meet
                      exact ⟨by rw [B2.out]; simp [k1], hSW, hBx⟩
                  case rest =>
                    clear hSW hBx
                    obtain ⟨rfl, hSW, hBx⟩ := hcut
                    obtain ⟨D2, hD2⟩ : ∃ D2, D2 = if a < i ∧ i < M then symMerge lt N R a i M else R := ⟨_, rfl⟩
                    have hz2 : D2.size = d.size := by rw [hD2]; split; rw [size_symMerge, hzR]; exact hzR
                    have HD2 := Lib.hid hD2
                    clear hD2
                    go_upto_if 158 with fail
                    go_cut [] from 23 (fun wz => SW enc w blk off D2 wz ∧ Box2 w.heap.size (.func (.func g) #[] lb) (.func (.func sf) #[] sb) wz)
                    case first =>
                      have c0 := hBx.c0
                      have c1 := hBx.c1
                      cases b2 with
                      | true =>
                        have k1 : a < i ∧ i < M := by simpa using B2.out.symm
                        have hc := ih blk off a i M R _ (by omega) (LR hSW hzR) (SR hzR) (hSW.holds hblk hH hzR) (hSW.lt hblk) k1.1 k1.2 (by omega) (by omega)
                        clear ih LR SR
                        go_wp2_with (go_at_fn (ρ.f 30); refine hc.mono ?_; rintro e w1 ⟨rfl, hw1⟩)
                        go_meet
                        have hr : D2 = symMerge lt N R a i M := by rw [HD2.out, if_pos k1]
                        exact ⟨sw_on hSW hblk (by rw [hz2, hzR]) (by rw [hr]; exact hw1), hBx.on enc hne hw1⟩
                      | false =>
                        have k1 : ¬ (a < i ∧ i < M) := by simpa using B2.out.symm
                        clear ih LR SR
                        go_wp2_with fail
                        go_meet
                        have hr : D2 = R := by rw [HD2.out, if_neg k1]
                        rw [hr]
                        exact ⟨hSW, hBx⟩
                    case rest =>
                      clear hSW hBx
                      obtain ⟨hSW, hBx⟩ := hcut
                      go_upto_region 44 with fail
                      go_cut [171] from 23 (fun s171 wy => s171 = .bool b3 ∧ SW enc w blk off D2 wy ∧ Box2 w.heap.size (.func (.func g) #[] lb) (.func (.func sf) #[] sb) wy)
                      case first =>
                        by_cases k1 : M < E
                        · by_cases k2 : E < b
                          · go_wp2_with fail
                            go_meet
                            exact ⟨by rw [B3.out]; simp [k1, k2], hSW, hBx⟩
                          · have k3 : decide (E < b) = false := by simp; omega
                            go_wp2_with fail
                            go_meet
                            exact ⟨by rw [B3.out]; simp [k2], hSW, hBx⟩
                        · have k3 : decide (M < E) = false := by simp; omega
                          go_wp2_with fail
                          go_meet
                          exact ⟨by rw [B3.out]; simp [k1], hSW, hBx⟩
                      case rest =>
                        clear hSW hBx
                        obtain ⟨rfl, hSW, hBx⟩ := hcut
                        have c0 := hBx.c0
                        have c1 := hBx.c1
                        cases b3 with
                        | true =>
                          have k1 : M < E ∧ E < b := by simpa using B3.out.symm
                          have hc := ih blk off M E b D2 _ (by omega) (LR hSW hz2) (SR hz2) (hSW.holds hblk hH hz2) (hSW.lt hblk) k1.1 k1.2 (by omega) (by omega)
                          clear ih LR SR
                          go_wp2_with (go_at_fn (ρ.f 30); refine hc.mono ?_; rintro e w1 ⟨rfl, hw1⟩)
                          go_end0
                          obtain ⟨n, os, hw⟩ := sw_on hSW hblk (size_symMerge _ _ _ _ _ _) hw1
                          exact ⟨rfl, n, os, by rw [SYM.out, ← HD2.out]; simp only [k1, and_self, if_true]; exact hw⟩
                        | false =>
                          have k1 : ¬ (M < E ∧ E < b) := by simpa using B3.out.symm
                          clear ih LR SR
                          go_wp2_with fail
                          go_end0
                          obtain ⟨n, os, hw⟩ := hSW
                          exact ⟨rfl, n, os, by rw [SYM.out, ← HD2.out]; simp only [k1, if_false]; exact hw⟩
set_option maxHeartbeats 3200000 in
set_option maxRecDepth 1000000 in
theorem stable_w (L : LaysGt.n15 P ρ) (enc : α → Value) (lt : α → α → Bool) (g : Nat) (lb : Array Value) (sf : Nat) (sb : Array Value) (eg : ∀ args w, (callFunc g args).run P w = .ok (.enter g args) w) (blk off : Nat) (d : Array α) (w : World)
    (hless : LessReads P g lb enc lt blk off d.size w) (hswap : SwapSwaps P sf sb enc blk off d.size) (hH : Holds enc w blk off d) (hblk : blk < w.heap.size) (hsz : d.size < 1152921504606846976) :
    Calls P (ρ.f 15) #[.agg #[.func (.func g) #[] lb, .func (.func sf) #[] sb], .int .i64 d.size] w fun e w' => e = .returned (.tuple #[]) ∧ ∃ n os, w' = sortWorld enc w blk off n (stable lt d) os := by
  have mixed := L.mixed; have t0 := L.t0; have a0 := L.a0; have z0 := L.z0; have v0 := L.v0; have t3 := L.t3; have a3 := L.a3; have z3 := L.z3; have v3 := L.v3; have t4 := L.t4; have a4 := L.a4; have z4 := L.z4; have v4 := L.v4; have t26 := L.t26; have a26 := L.a26; have z26 := L.z26; have v26 := L.v26; have t38 := L.t38; have a38 := L.a38; have z38 := L.z38; have v38 := L.v38; have t42 := L.t42; have a42 := L.a42; have z42 := L.z42; have v42 := L.v42; have t47 := L.t47; have a47 := L.a47; have z47 := L.z47; have v47 := L.v47
  have u42 := run_underlying L.t42
  have e29 : ∀ args w, (callFunc (ρ.f 29) args).run P w = .ok (.enter (ρ.f 29) args) w := enters_of L.f29 (by kernel_rfl) rfl
  have e30 : ∀ args w, (callFunc (ρ.f 30) args).run P w = .ok (.enter (ρ.f 30) args) w := enters_of L.f30 (by kernel_rfl) rfl
  have LI : LaysGg.n26 P ρ.viaGt := ({ L with } : LaysGt.n29 P ρ).elder
  have hne : w.heap.size ≠ blk := by omega
  have hS0 := (SW.start hH).alloc (.cells #[.func (.func g) #[] lb, .func (.func sf) #[] sb] (ρ.t 42))
  have LR : ∀ {D : Array α} {X : World}, SW enc w blk off D X → D.size = d.size → LessReads P g lb enc lt blk off D.size X := fun {D X} hA hs => by rw [hs]; exact SW.lessReads hA hless hblk hs
  have SR : ∀ {D : Array α}, D.size = d.size → SwapSwaps P sf sb enc blk off D.size := fun {D} hs => by rw [hs]; exact hswap
  have ins : ∀ (a b : Nat) (D : Array α) (X : World), a ≤ b → b ≤ d.size → SW enc w blk off D X → D.size = d.size → Calls P (ρ.f 29) #[.agg #[.func (.func g) #[] lb, .func (.func sf) #[] sb], .int .i64 a, .int .i64 b] X fun e w' => e = .returned (.tuple #[]) ∧ ∃ n os, w' = sortWorld enc X blk off n (insertionSort lt D a b) os :=
    fun a b D X h1 h2 h3 h4 => Any.insertionSort_func_w LI enc lt g lb sf sb blk off a b D X eg (LR h3 h4) (SR h4) (h3.holds hblk hH h4) (h3.lt hblk) h1 (by omega) (by omega)
  have mrg : ∀ (a m b : Nat) (D : Array α) (X : World), a < m → m < b → b ≤ d.size → SW enc w blk off D X → D.size = d.size → Calls P (ρ.f 30) #[.agg #[.func (.func g) #[] lb, .func (.func sf) #[] sb], .int .i64 a, .int .i64 m, .int .i64 b] X fun e w' => e = .returned (.tuple #[]) ∧ ∃ n os, w' = sortWorld enc X blk off n (symMerge lt d.size D a m b) os :=
    fun a m b D X h1 h2 h3 h4 h5 => symMerge_w (P := P) (ρ := ρ) { L with } enc lt g lb sf sb eg d.size blk off a m b D X (by omega) (LR h4 h5) (SR h5) (h4.holds hblk hH h5) (h4.lt hblk) h1 h2 (by omega) (by omega)
  have zins : ∀ (a b : Nat) (D : Array α), (insertionSort lt D a b).size = D.size := fun a b D => size_ins lt D a b
  have INS := Lib.hid ins
  have MRG := Lib.hid mrg
  have ZI := Lib.hid zins
  obtain ⟨n, hn⟩ : ∃ n, n = d.size := ⟨_, rfl⟩
  have HN := Lib.hid hn
  have hsz' : n < 1152921504606846976 := by omega
  have hst : stable lt d = mrgAll lt n (n + 1) 20 (insBl lt n (n + 1) 0 d) := by rw [hn]; rfl
  have HST := Lib.hid hst
  rw [← hn]
  clear LR SR LI hless hswap hH ins mrg zins hn hst hsz
  go_enter L.f15, BodyGt.n15_ntmps ρ
  go_wp2
  go_loopg [5, 6] n (fun k s5 s6 wr => ∃ (a f : Nat) (dk : Array α), s5 = .int .i64 a ∧ s6 = .int .i64 ((a : Int) + 20) ∧ a ≤ n ∧ n - a ≤ k ∧ n - a < f ∧ dk.size = d.size ∧ SW enc w blk off dk wr ∧ Box2 w.heap.size (.func (.func g) #[] lb) (.func (.func sf) #[] sb) wr ∧ insBl lt n f a dk = insBl lt n (n + 1) 0 d)
  case atStart => exact ⟨0, n + 1, d, by go_num, by go_num, by omega, by omega, by omega, rfl, hS0, ⟨by simp, by simp, by simp⟩, rfl⟩
  case round =>
    obtain ⟨a, f, dk, rfl, rfl, han, hk, hf, hds, hSW, hBx, heq⟩ := hrel
    have A : Aside (insBl lt n f a dk = insBl lt n (n + 1) 0 d) := heq
    have HDS := Lib.hid hds
    have c0 := hBx.c0
    have c1 := hBx.c1
    clear heq hS0 hds
    obtain ⟨f, rfl⟩ : ∃ q, f = q + 1 := ⟨f - 1, by omega⟩
    by_cases hlt : a + 20 ≤ n
    · have hc := INS.out a (a + 20) dk _ (by omega) (by have := HN.out; omega) hSW HDS.out
      rw [show ((a + 20 : Nat) : Int) = (a : Int) + 20 by omega] at hc
      have hz : (a : Int) + 20 ≤ (n : Int) := by omega
      go_wp2_with (go_at_fn (ρ.f 29); refine hc.mono ?_; rintro e w1 ⟨rfl, hw1⟩)
      go_roundg (n - (a + 20))
      case measure => omega
      case rel => exact ⟨a + 20, f, insertionSort lt dk a (a + 20), by go_num, by go_num, hlt, Nat.le_refl _, by omega, by rw [ZI.out]; exact HDS.out, sw_on hSW hblk (ZI.out _ _ _) hw1, hBx.on enc hne hw1, by rw [← A.out, insBl, if_pos hlt]⟩
    · have hc := INS.out a n dk _ (by omega) (by have := HN.out; omega) hSW HDS.out
      have hz : ¬ ((a : Int) + 20 ≤ (n : Int)) := by omega
      go_wp2_with (go_at_fn (ρ.f 29); refine hc.mono ?_; rintro e w1 ⟨rfl, hw1⟩)
      obtain ⟨D1, hD1⟩ : ∃ D1, D1 = insBl lt n (n + 1) 0 d := ⟨_, rfl⟩
      have hi : insertionSort lt dk a n = D1 := by rw [hD1, ← A.out, insBl, if_neg hlt]
      have hz1 : D1.size = d.size := by rw [← hi, ZI.out]; exact HDS.out
      have hSW1 : SW enc w blk off D1 w1 := by rw [← hi]; exact sw_on hSW hblk (ZI.out _ _ _) hw1
      have hBx1 := hBx.on enc hne hw1
      have HD1 := Lib.hid hD1
      have HZ1 := Lib.hid hz1
      clear hD1 hz1 hi hSW hBx c0 c1 A HDS hw1
      go_loopg [4] n (fun k s4 wr => ∃ (s f : Nat) (dk : Array α), s4 = .int .i64 s ∧ 0 < s ∧ s ≤ 2 * n + 20 ∧ n - s ≤ k ∧ n - s < f ∧ dk.size = d.size ∧ SW enc w blk off dk wr ∧ Box2 w.heap.size (.func (.func g) #[] lb) (.func (.func sf) #[] sb) wr ∧ mrgAll lt n f s dk = mrgAll lt n (n + 1) 20 D1)
      case atStart => exact ⟨20, n + 1, D1, by go_num, by omega, by omega, by omega, by omega, HZ1.out, hSW1, hBx1, rfl⟩
      case round =>
        clear hSW1 hBx1
        obtain ⟨s, f, dk, rfl, hs0, hs2, hk, hf, hds, hSW, hBx, heq⟩ := hrel
        have A : Aside (mrgAll lt n f s dk = mrgAll lt n (n + 1) 20 D1) := heq
        have HDS := Lib.hid hds
        clear heq hds HZ1
        obtain ⟨f, rfl⟩ : ∃ q, f = q + 1 := ⟨f - 1, by omega⟩
        by_cases hlt : s < n
        · go_wp2
          go_loopg [5, 6] n (fun k s5 s6 wr => ∃ (a f : Nat) (dj : Array α), s5 = .int .i64 a ∧ s6 = .int .i64 ((a : Int) + 2 * (s : Int)) ∧ a ≤ n ∧ n - a ≤ k ∧ n - a < f ∧ dj.size = d.size ∧ SW enc w blk off dj wr ∧ Box2 w.heap.size (.func (.func g) #[] lb) (.func (.func sf) #[] sb) wr ∧ mrgRow lt n s f a dj = mrgRow lt n s (n + 1) 0 dk)
          case atStart => exact ⟨0, n + 1, dk, by go_num, by congr 1; omega, by omega, by omega, by omega, HDS.out, hSW, hBx, rfl⟩
          case round =>
            clear hSW hBx
            obtain ⟨a, f', dj, rfl, rfl, han, hk', hf', hdj, hSW, hBx, heq⟩ := hrel
            have A2 : Aside (mrgRow lt n s f' a dj = mrgRow lt n s (n + 1) 0 dk) := heq
            have HDJ := Lib.hid hdj
            have c0 := hBx.c0
            have c1 := hBx.c1
            clear heq hdj
            obtain ⟨f', rfl⟩ : ∃ q, f' = q + 1 := ⟨f' - 1, by omega⟩
            by_cases h2 : a + 2 * s ≤ n
            · have hc := MRG.out a (a + s) (a + 2 * s) dj _ (by omega) (by omega) (by have := HN.out; omega) hSW HDJ.out
              rw [show ((a + 2 * s : Nat) : Int) = (a : Int) + 2 * (s : Int) by omega, show ((a + s : Nat) : Int) = (a : Int) + (s : Int) by omega, ← HN.out] at hc
              have hz : (a : Int) + 2 * (s : Int) ≤ (n : Int) := by omega
              go_wp2_with (go_at_fn (ρ.f 30); refine hc.mono ?_; rintro e w2 ⟨rfl, hw2⟩)
              go_roundg (n - (a + 2 * s))
              case measure => omega
              case rel => exact ⟨a + 2 * s, f', symMerge lt n dj a (a + s) (a + 2 * s), by first | (congr 1; done) | (congr 1; omega), by first | (congr 1; done) | (congr 1; omega), h2, Nat.le_refl _, by omega, by rw [size_symMerge]; exact HDJ.out, sw_on hSW hblk (size_symMerge _ _ _ _ _ _) hw2, hBx.on enc hne hw2, by rw [← A2.out, mrgRow, if_pos h2]⟩
            · have hz : ¬ ((a : Int) + 2 * (s : Int) ≤ (n : Int)) := by omega
              by_cases h3 : a + s < n
              · have hc := MRG.out a (a + s) n dj _ (by omega) (by omega) (by have := HN.out; omega) hSW HDJ.out
                rw [show ((a + s : Nat) : Int) = (a : Int) + (s : Int) by omega, ← HN.out] at hc
                have hz2 : (a : Int) + (s : Int) < (n : Int) := by omega
                go_wp2_with (go_at_fn (ρ.f 30); refine hc.mono ?_; rintro e w2 ⟨rfl, hw2⟩)
                go_roundg (n - 2 * s)
                case measure => omega
                case rel => exact ⟨2 * s, f, symMerge lt n dj a (a + s) n, by congr 1; omega, by omega, by omega, Nat.le_refl _, by omega, by rw [size_symMerge]; exact HDJ.out, sw_on hSW hblk (size_symMerge _ _ _ _ _ _) hw2, hBx.on enc hne hw2, by rw [← A.out, mrgAll, if_pos hlt, ← A2.out, mrgRow, if_neg h2, if_pos h3]⟩
              · have hz2 : ¬ ((a : Int) + (s : Int) < (n : Int)) := by omega
                go_wp2
                go_roundg (n - 2 * s)
                case measure => omega
                case rel => exact ⟨2 * s, f, dj, by congr 1; omega, by omega, by omega, Nat.le_refl _, by omega, HDJ.out, hSW, hBx, by rw [← A.out, mrgAll, if_pos hlt, ← A2.out, mrgRow, if_neg h2, if_neg h3]⟩
        · go_wp2
          go_end0
          obtain ⟨m, os, hw⟩ := hSW
          exact ⟨rfl, m, os, by rw [HST.out, ← HD1.out, ← A.out, mrgAll, if_neg hlt]; exact hw⟩
theorem SliceStable_w (L : LaysGt.n8 P ρ) (t e : TypeId) (i ie : TypeInfo) (hi : P.info? t = some i) (hd : i.desc = .slice e) (hpk : P.packed t = false) (hie : P.info? e = some ie) (ke : Nat) (hke : ∀ w, (Extern.Rtype.kind e).run P w = .ok ke w)
    (hs1 : ie.size = 1) (hagg : ∀ w, (isAgg e).run P w = .ok false w) (enc : α → Value) (h1 : ∀ x, (enc x).oneCell' = true) (lt : α → α → Bool) (g : Nat) (lb : Array Value)
    (eg : ∀ args w, (callFunc g args).run P w = .ok (.enter g args) w) (blk off c : Nat) (d : Array α) (h2 : 2 ≤ d.size) (hsz : d.size < 1152921504606846976)
    (f : Nat) (hf : P.funcs.findIdx? (·.name == "internal/reflectlite" ++ ".Swapper$" ++ toString (swapperK d.size ie ke)) = some f)
    (gS : Bool) (hx : ∀ args W, (callFunc f args).run P W = ((Extern.ReflectliteSwapper.swap gS args).run P W).andThen fun v w' => .ok (.value v) w')
    (w : World) (hless : LessReads P g lb enc lt blk off d.size w) (hH : Holds enc w blk off d) (hblk : blk < w.heap.size) :
    Calls P (ρ.f 8) #[.iface t (.slice (some ⟨blk, off, none⟩) d.size c), .func (.func g) #[] lb] w fun e w' =>
      e = .returned (.tuple #[]) ∧ ∃ n os, w' = grow (putRow enc (Sort.ahead w n) blk off (stable lt d)) os := by
  refine Any.sort_SliceStable_of_stable L t e i ie hi hd hpk hie ke hke _ d.size c (by omega) f hf (.func g) #[] lb w _ ?_
  have hB : sliceBound P e ie ke (some ⟨blk, off, none⟩) d.size c = #[.slice (some ⟨blk, off, none⟩) d.size c, typeHandle P e] := by
    unfold sliceBound; rw [if_neg (swapperK_gt _ _ _ h2)]
  obtain ⟨os0, hW⟩ : ∃ os0, stableWorld P ρ t (some ⟨blk, off, none⟩) d.size c w = grow w os0 := by
    unfold stableWorld; rw [alloc_eq_grow, alloc_eq_grow, grow_grow]; exact ⟨_, rfl⟩
  rw [hB, hW]
  have hp := stable_w (P := P) (ρ := ρ) { L with } enc lt g lb f _ eg blk off d (grow w os0) (hless.grow hblk os0)
    (swapSwaps_of_literal gS f hx e ie hie hs1 hagg enc h1 blk off d.size c) (holds_grow enc w _ blk off d hblk hH) (by rw [size_grow]; omega) hsz
  refine hp.mono ?_
  rintro e w' ⟨rfl, n, os, rfl⟩
  exact ⟨rfl, n, _, by unfold sortWorld; rw [ahead_grow, putRow_grow enc (Sort.ahead w n) _ blk off _ hblk, grow_grow]⟩
end Go.Proofs.Ytkijhilmgljegaa.Sym

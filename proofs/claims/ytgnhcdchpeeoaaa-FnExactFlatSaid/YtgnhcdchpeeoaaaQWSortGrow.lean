/- sort.Slice over 2 to 12 elements of k cells whose 'less' may lay blocks of its own: the row ends as the insertion sort of what it held. Conditions: less tells lt and turns nothing that was there. -/
import Derived.Shelf.GgSortFunc.SmallK
import Derived.Lib.Hide
namespace Go.Proofs.Ytgnhcdchpeeoaaa.SG
open Go.Shelf Go.RowKit Go.Lib Go.Sort
variable {P : Program} {ρ : Ren} {α : Type} [Inhabited α]
def SW (enc : α → List Value) (k : Nat) (w : World) (blk off m : Nat) (dk : Array α) (os : Array Obj) : World := putRowK enc k (Sort.ahead (Sort.grow w os) m) blk off dk
def LessG (P : Program) (g : Nat) (lb : Array Value) (enc : α → List Value) (k : Nat) (lt : α → α → Bool) (blk off size : Nat) (w : World) : Prop :=
  ∀ (m : Nat) (os : Array Obj) (dk : Array α), dk.size = size → ∀ i j : Nat, i < size → j < size →
    Calls P g (#[.int .i64 i, .int .i64 j] ++ lb) (SW enc k w blk off m dk os) fun e w' => e = .returned (.bool (lt dk[i]! dk[j]!)) ∧ ∃ q os', w' = SW enc k w blk off q dk (os ++ os')
theorem SW_grow (enc : α → List Value) (k : Nat) (w : World) (blk off m : Nat) (dk : Array α) (os0 os : Array Obj) : SW enc k (Sort.grow w os0) blk off m dk os = SW enc k w blk off m dk (os0 ++ os) := by
  unfold SW; rw [grow_grow]
theorem LessG.grow {g : Nat} {lb : Array Value} {enc : α → List Value} {k : Nat} {lt : α → α → Bool} {blk off size : Nat} {w : World} (h : LessG P g lb enc k lt blk off size w) (os0 : Array Obj) : LessG P g lb enc k lt blk off size (Sort.grow w os0) := by
  intro m os dk hs i j hi hj
  rw [SW_grow]
  refine (h m (os0 ++ os) dk hs i j hi hj).mono ?_
  rintro e w' ⟨rfl, q, os', rfl⟩
  exact ⟨rfl, q, os', by rw [SW_grow, Array.append_assoc]⟩
theorem SW_self (enc : α → List Value) (k : Nat) (w : World) (blk off : Nat) (d : Array α) (h : HoldsK enc k w blk off d) : w = SW enc k w blk off 0 d #[] := by
  unfold SW
  have e : Sort.ahead (Sort.grow w #[]) 0 = w := by simp [Sort.ahead, Sort.grow]
  rw [e, putRowK_self _ _ _ _ _ _ h]
theorem SW_drewN (enc : α → List Value) (k : Nat) (w : World) (blk off m q : Nat) (dk : Array α) (os : Array Obj) : (SW enc k w blk off m dk os).drewN q = SW enc k w blk off (m + q) dk os := putRowK_drewN _ _ _ _ _ _ _ _
theorem SW_holds (enc : α → List Value) (k : Nat) (w : World) (blk off m : Nat) (d dk : Array α) (os : Array Obj) (h : HoldsK enc k w blk off d) (hb : blk < w.heap.size) (hs : dk.size = d.size) : HoldsK enc k (SW enc k w blk off m dk os) blk off dk :=
  holdsK_putRowK enc k _ blk off d dk (holdsK_ahead _ _ _ _ _ _ _ (holdsK_grow _ _ _ _ _ _ _ hb h)) hs
theorem SW_cell (enc : α → List Value) (k : Nat) (w : World) (blk off m : Nat) (dk : Array α) (os : Array Obj) (a : Addr) (h : a.block ≠ blk) (hl : a.block < w.heap.size) : (SW enc k w blk off m dk os).cell? a = w.cell? a := by
  unfold SW
  rw [cell?_putRowK_other enc k _ blk off dk _ h]
  exact cell?_grow w os a hl
theorem SW_swap (enc : α → List Value) (k : Nat) (hk : ∀ x, (enc x).length = k) (w : World) (m blk off : Nat) (d : Array α) (os : Array Obj) (i j : Nat) (hi : i < d.size) (hj : j < d.size) :
    ((SW enc k w blk off m d os).setCells blk (off + i * k) (enc d[j]!)).setCells blk (off + j * k) (enc d[i]!) = SW enc k w blk off m (swp d i j) os :=
  swap_worldK enc k hk (Sort.grow w os) m 0 blk off d i j hi hj
set_option maxHeartbeats 2000000 in
set_option maxRecDepth 100000 in
theorem insertion (L : LaysGg.n26 P ρ) (enc : α → List Value) (k : Nat) (hk : ∀ x, (enc x).length = k) (lt : α → α → Bool) (g : Nat) (lb : Array Value) (sf : Nat) (sb : Array Value) (blk off a b : Nat) (d : Array α) (w : World)
    (eg : ∀ args w, (callFunc g args).run P w = .ok (.enter g args) w) (hless : LessG P g lb enc k lt blk off d.size w) (hswap : SwapSwapsK P sf sb enc k blk off d.size)
    (hH : HoldsK enc k w blk off d) (hblk : blk < w.heap.size) (hab : a ≤ b) (hb : b ≤ d.size) (hsz : d.size < 4611686018427387904) :
    Calls P (ρ.f 26) #[.agg #[.func (.func g) #[] lb, .func (.func sf) #[] sb], .int .i64 a, .int .i64 b] w fun e w' =>
      e = .returned (.tuple #[]) ∧ ∃ n os, w' = SW enc k w blk off n (Sort.insertionSort lt d a b) os := by
  have mixed := L.mixed; have t0 := L.t0; have a0 := L.a0; have z0 := L.z0; have v0 := L.v0; have t3 := L.t3; have a3 := L.a3; have z3 := L.z3; have v3 := L.v3; have t4 := L.t4; have a4 := L.a4; have z4 := L.z4; have v4 := L.v4; have t26 := L.t26; have a26 := L.a26; have z26 := L.z26; have v26 := L.v26; have t37 := L.t37; have a37 := L.a37; have z37 := L.z37; have v37 := L.v37; have t44 := L.t44; have a44 := L.a44; have z44 := L.z44; have v44 := L.v44
  have u44 := run_underlying L.t44
  have hl1 : LessG P g lb enc k lt blk off d.size (w.alloc (.cells #[.func (.func g) #[] lb, .func (.func sf) #[] sb] (ρ.t 44))) := by rw [alloc_eq_grow]; exact hless.grow _
  have hH1 : HoldsK enc k (w.alloc (.cells #[.func (.func g) #[] lb, .func (.func sf) #[] sb] (ρ.t 44))) blk off d := by rw [alloc_eq_grow]; exact holdsK_grow enc k w _ blk off d hblk hH
  have hb1 : blk < (w.alloc (.cells #[.func (.func g) #[] lb, .func (.func sf) #[] sb] (ρ.t 44))).heap.size := by rw [alloc_eq_grow, size_grow]; omega
  have back : ∀ n dk os, SW enc k (w.alloc (.cells #[.func (.func g) #[] lb, .func (.func sf) #[] sb] (ρ.t 44))) blk off n dk os = SW enc k w blk off n dk (#[(.cells #[.func (.func g) #[] lb, .func (.func sf) #[] sb] (ρ.t 44))] ++ os) := fun n dk os => by rw [alloc_eq_grow, SW_grow]
  have BACK : Hid _ := back
  have k0 : ∀ n dk os, (SW enc k (w.alloc (.cells #[.func (.func g) #[] lb, .func (.func sf) #[] sb] (ρ.t 44))) blk off n dk os).cell? ⟨w.heap.size, 0, none⟩ = some (.func (.func g) #[] lb) := fun n dk os => by
    rw [SW_cell enc k _ blk off n dk os _ (by show w.heap.size ≠ blk; omega) (by show w.heap.size < _; rw [alloc_eq_grow, size_grow]; simp)]; simp
  have k1 : ∀ n dk os, (SW enc k (w.alloc (.cells #[.func (.func g) #[] lb, .func (.func sf) #[] sb] (ρ.t 44))) blk off n dk os).cell? ⟨w.heap.size, 1, none⟩ = some (.func (.func sf) #[] sb) := fun n dk os => by
    rw [SW_cell enc k _ blk off n dk os _ (by show w.heap.size ≠ blk; omega) (by show w.heap.size < _; rw [alloc_eq_grow, size_grow]; simp)]; simp
  have K0 : Hid _ := k0
  have K1 : Hid _ := k1
  clear back k0 k1 hless
  go_enter L.f26, BodyGg.n26_ntmps ρ
  go_wp2
  go_loopw [6] (fun vi wr => ∃ (i n : Nat) (dk : Array α) (os : Array Obj), vi = .int .i64 i ∧ a < i ∧ i ≤ b + 1 ∧ dk.size = d.size ∧ wr = SW enc k (w.alloc (.cells #[.func (.func g) #[] lb, .func (.func sf) #[] sb] (ρ.t 44))) blk off n dk os ∧
      insOuter lt a b i dk = insOuter lt a b (a + 1) d) (fun vi _ => b + 1 - (intOf vi).toNat)
  case atStart => exact ⟨a + 1, 0, d, #[], by go_num, by omega, by omega, rfl, SW_self _ _ _ _ _ _ hH1, rfl⟩
  case round =>
    obtain ⟨i, n, dk, os, rfl, hai, hib, hsk, hwr, hO⟩ := hrel
    have HWR := Lib.hid hwr
    clear hwr
    have HO : Hid (insOuter lt a b i dk = insOuter lt a b (a + 1) d) := hO
    clear hO
    go_wp2
    · go_loopw [7] (fun vj wr2 => ∃ (j m : Nat) (dj : Array α) (os : Array Obj), vj = .int .i64 j ∧ a ≤ j ∧ j ≤ i ∧ dj.size = d.size ∧ wr2 = SW enc k (w.alloc (.cells #[.func (.func g) #[] lb, .func (.func sf) #[] sb] (ρ.t 44))) blk off m dj os ∧
          insInner lt a j dj = insInner lt a i dk) (fun vj _ => (intOf vj).toNat)
      case atStart => exact ⟨i, n, dk, os, rfl, by omega, Nat.le_refl _, hsk, HWR.out, rfl⟩
      case round =>
        clear HWR
        obtain ⟨j, m, dj, os2, rfl, haj, hji, hsj, hw2, hI⟩ := hrel
        have hlt : i < b := by assumption
        have c0' : wr.cell? ⟨w.heap.size, 0, none⟩ = some (.func (.func g) #[] lb) := by rw [hw2]; exact K0.out m dj os2
        have HW : Hid (wr = SW enc k (w.alloc (.cells #[.func (.func g) #[] lb, .func (.func sf) #[] sb] (ρ.t 44))) blk off m dj os2) := hw2
        have HI : Hid (insInner lt a j dj = insInner lt a i dk) := hI
        clear hw2 hI
        have out : (j ≤ a ∨ lt dj[j]! dj[j - 1]! = false) → ∀ q os3, ∃ i' n' dk' os', Value.int .i64 ((i : Int) + 1) = .int .i64 (i' : Nat) ∧ a < i' ∧ i' ≤ b + 1 ∧ dk'.size = d.size ∧
            SW enc k (w.alloc (.cells #[.func (.func g) #[] lb, .func (.func sf) #[] sb] (ρ.t 44))) blk off q dj os3 = SW enc k (w.alloc (.cells #[.func (.func g) #[] lb, .func (.func sf) #[] sb] (ρ.t 44))) blk off n' dk' os' ∧ insOuter lt a b i' dk' = insOuter lt a b (a + 1) d := fun hs q os3 =>
          ⟨i + 1, q, dj, os3, by go_num, by omega, by omega, hsj, rfl,
            by rw [← HO.out, insOuter_go _ _ _ _ _ hlt, ← HI.out, insInner_stop _ _ _ _ hs]⟩
        have OUT : Hid _ := out
        clear out
        by_cases hja : a < j
        · have hl := hl1 m os2 dj hsj j (j - 1) (by omega) (by omega)
          rw [show SW enc k (w.alloc (.cells #[.func (.func g) #[] lb, .func (.func sf) #[] sb] (ρ.t 44))) blk off m dj os2 = wr from HW.out.symm] at hl
          rw [show (((j - 1 : Nat) : Int)) = (j : Int) - 1 by omega] at hl
          cases hlv : lt dj[j]! dj[j - 1]! with
          | true =>
            rw [hlv] at hl
            go_wp2_with (go_at_fn g; refine hl.mono ?_; rintro e w' ⟨rfl, q, os', hw'⟩; have c1 : w'.cell? ⟨w.heap.size, 1, none⟩ = some (.func (.func sf) #[] sb) := (by rw [hw']; exact K1.out q dj _); have HW' := Lib.hid hw'; clear hw')
            have hs := hswap w' dj (by rw [HW'.out]; exact SW_holds enc k _ blk off q d dj _ hH1 hb1 hsj) hsj j (j - 1) (by omega) (by omega)
            rw [show (((j - 1 : Nat) : Int)) = (j : Int) - 1 by omega] at hs
            rw [hs, Oper.upon_value]
            go_wp2
            go_roundw
            case rel =>
              (repeat apply Exists.intro)
              refine ⟨⟨j - 1, q, swp dj j (j - 1), os2 ++ os', by congr 1 <;> omega, by omega, by omega, by rw [size_swp]; exact hsj, ?_, ?_⟩, by rw [decide_eq_true hlt, show ((j - 1 : Nat) : Int) = (j : Int) - 1 by omega]⟩
              · rw [HW'.out]
                exact SW_swap enc k hk _ q blk off dj _ j (j - 1) (by omega) (by omega)
              · rw [← HI.out, insInner_go lt a j dj hja hlv]
            case measure => simp [intOf]; omega
          | false =>
            rw [hlv] at hl
            go_wp2_with (go_at_fn g; refine hl.mono ?_; rintro e w' ⟨rfl, q, os', hw'⟩; have HW' := Lib.hid hw'; clear hw')
            go_roundw
            case rel => rw [HW'.out]; exact OUT.out (Or.inr hlv) _ _
            case measure => simp [intOf]; omega
        · go_wp2
          go_roundw
          case rel => rw [HW.out]; exact OUT.out (Or.inl (by omega)) _ _
          case measure => simp [intOf]; omega
    · have hge : ¬ i < b := by assumption
      go_end0
      exact ⟨rfl, n, _, by unfold Sort.insertionSort; rw [← HO.out, insOuter_stop _ _ _ _ _ hge]; rw [HWR.out]; exact BACK.out _ _ _⟩
set_option maxHeartbeats 2000000 in
set_option maxRecDepth 100000 in
theorem pdq_small (L : LaysGg.n14 P ρ) (enc : α → List Value) (k : Nat) (hk : ∀ x, (enc x).length = k) (lt : α → α → Bool) (g : Nat) (lb : Array Value) (sf : Nat) (sb : Array Value) (blk off a b : Nat) (lim : Int) (d : Array α) (w : World)
    (eg : ∀ args w, (callFunc g args).run P w = .ok (.enter g args) w) (hless : LessG P g lb enc k lt blk off d.size w) (hswap : SwapSwapsK P sf sb enc k blk off d.size)
    (hH : HoldsK enc k w blk off d) (hblk : blk < w.heap.size) (hab : a ≤ b) (hb : b ≤ d.size) (hsz : d.size < 4611686018427387904) (h12 : b - a ≤ 12) :
    Calls P (ρ.f 14) #[.agg #[.func (.func g) #[] lb, .func (.func sf) #[] sb], .int .i64 a, .int .i64 b, .int .i64 lim] w fun e w' =>
      e = .returned (.tuple #[]) ∧ ∃ n os, w' = SW enc k w blk off n (Sort.insertionSort lt d a b) os := by
  have mixed := L.mixed; have t0 := L.t0; have a0 := L.a0; have z0 := L.z0; have v0 := L.v0; have t3 := L.t3; have a3 := L.a3; have z3 := L.z3; have v3 := L.v3; have t4 := L.t4; have a4 := L.a4; have z4 := L.z4; have v4 := L.v4; have t5 := L.t5; have a5 := L.a5; have z5 := L.z5; have v5 := L.v5; have t9 := L.t9; have a9 := L.a9; have z9 := L.z9; have v9 := L.v9; have t26 := L.t26; have a26 := L.a26; have z26 := L.z26; have v26 := L.v26; have t37 := L.t37; have a37 := L.a37; have z37 := L.z37; have v37 := L.v37; have t41 := L.t41; have a41 := L.a41; have z41 := L.z41; have v41 := L.v41; have t44 := L.t44; have a44 := L.a44; have z44 := L.z44; have v44 := L.v44; have t49 := L.t49; have a49 := L.a49; have z49 := L.z49; have v49 := L.v49; have t51 := L.t51; have a51 := L.a51; have z51 := L.z51; have v51 := L.v51; have t53 := L.t53; have a53 := L.a53; have z53 := L.z53; have v53 := L.v53; have t54 := L.t54; have a54 := L.a54; have z54 := L.z54; have v54 := L.v54; have t58 := L.t58; have a58 := L.a58; have z58 := L.z58; have v58 := L.v58; have t60 := L.t60; have a60 := L.a60; have z60 := L.z60; have v60 := L.v60; have t64 := L.t64; have a64 := L.a64; have z64 := L.z64; have v64 := L.v64; have t66 := L.t66; have a66 := L.a66; have z66 := L.z66; have v66 := L.v66; have t67 := L.t67; have a67 := L.a67; have z67 := L.z67; have v67 := L.v67
  have u44 := run_underlying L.t44
  have e26 : ∀ args w, (callFunc (ρ.f 26) args).run P w = .ok (.enter (ρ.f 26) args) w := enters_of L.f26 (by kernel_rfl) rfl
  have hH1 : HoldsK enc k (w.alloc (.cells #[.func (.func g) #[] lb, .func (.func sf) #[] sb] (ρ.t 44))) blk off d := by rw [alloc_eq_grow]; exact holdsK_grow enc k w _ blk off d hblk hH
  have hb1 : blk < (w.alloc (.cells #[.func (.func g) #[] lb, .func (.func sf) #[] sb] (ρ.t 44))).heap.size := by rw [alloc_eq_grow, size_grow]; omega
  have hi := insertion (P := P) (ρ := ρ) { L with } enc k hk lt g lb sf sb blk off a b d _ eg (by rw [alloc_eq_grow]; exact hless.grow _) hswap hH1 hb1 hab hb hsz
  have back : ∀ n dk os, SW enc k (w.alloc (.cells #[.func (.func g) #[] lb, .func (.func sf) #[] sb] (ρ.t 44))) blk off n dk os = SW enc k w blk off n dk (#[(.cells #[.func (.func g) #[] lb, .func (.func sf) #[] sb] (ρ.t 44))] ++ os) := fun n dk os => by rw [alloc_eq_grow, SW_grow]
  have BACK : Hid _ := back
  clear hH hH1 hless hswap back
  go_enter L.f14, BodyGg.n14_ntmps ρ
  go_wp2
  refine wp_loop_rounds 1 ?_
  rw [rounds_succ]
  go_wp2_with (go_at_fn (ρ.f 26); refine hi.mono ?_; rintro e w' ⟨rfl, n, os, hw'⟩; have HW' := Lib.hid hw'; clear hw')
  (try simp only [Exit.inBlock, Exit.then]); refine bodyPost_ret (results_none rfl _ _ _) rfl ?_
  exact ⟨rfl, n, _, by rw [HW'.out]; exact BACK.out _ _ _⟩
theorem slice_small (L : LaysGg.n6 P ρ) (t e : TypeId) (i ie : TypeInfo) (hi : P.info? t = some i) (hd : i.desc = .slice e) (hpk : P.packed t = false) (hie : P.info? e = some ie) (ke : Nat) (hke : ∀ w, (Extern.Rtype.kind e).run P w = .ok ke w)
    (enc : α → List Value) (k : Nat) (hk : ∀ x, (enc x).length = k) (hs1 : ie.size = k) (hagg : ∀ w, (isAgg e).run P w = .ok true w) (h1 : ∀ x, ∀ v ∈ enc x, v.oneCell' = true) (lt : α → α → Bool) (g : Nat) (lb : Array Value)
    (eg : ∀ args w, (callFunc g args).run P w = .ok (.enter g args) w) (blk off c : Nat) (d : Array α) (h2 : 2 ≤ d.size) (h12 : d.size ≤ 12)
    (f : Nat) (hf : P.funcs.findIdx? (·.name == "internal/reflectlite" ++ ".Swapper$" ++ toString (swapperK d.size ie ke)) = some f)
    (gS : Bool) (hx : ∀ args W, (callFunc f args).run P W = ((Extern.ReflectliteSwapper.swap gS args).run P W).andThen fun v w' => .ok (.value v) w')
    (w : World) (hless : LessG P g lb enc k lt blk off d.size w) (hH : HoldsK enc k w blk off d) (hblk : blk < w.heap.size) :
    Calls P (ρ.f 6) #[.iface t (.slice (some ⟨blk, off, none⟩) d.size c), .func (.func g) #[] lb] w fun e w' =>
      e = .returned (.tuple #[]) ∧ ∃ n os, w' = SW enc k w blk off n (Sort.insertionSort lt d 0 d.size) os := by
  refine Any.sort_Slice_of_pdq L t e i ie hi hd hpk hie ke hke _ d.size c (by omega) f hf (.func g) #[] lb w _ ?_
  have hB : sliceBound P e ie ke (some ⟨blk, off, none⟩) d.size c = #[.slice (some ⟨blk, off, none⟩) d.size c, typeHandle P e] := by
    unfold sliceBound; rw [if_neg (swapperK_gt _ _ _ h2)]
  obtain ⟨os0, hW⟩ : ∃ os0, sliceWorld P ρ t (some ⟨blk, off, none⟩) d.size c w = Sort.grow w os0 := by
    unfold sliceWorld; rw [alloc_eq_grow, alloc_eq_grow, grow_grow]; exact ⟨_, rfl⟩
  rw [hB, hW]
  have hp := pdq_small (P := P) (ρ := ρ) { L with } enc k hk lt g lb f _ blk off 0 d.size (Lib.bitLen d.size) d (Sort.grow w os0) eg (hless.grow os0)
    (swapSwapsK_of_literal gS f hx e ie hie enc k hk hs1 hagg h1 blk off d.size c) (holdsK_grow enc k w _ blk off d hblk hH) (by rw [size_grow]; omega) (by omega) (Nat.le_refl _) (by omega) (by omega)
  refine hp.mono ?_
  rintro e w' ⟨rfl, n, os, rfl⟩
  exact ⟨rfl, n, _, SW_grow _ _ _ _ _ _ _ _ _⟩
end Go.Proofs.Ytgnhcdchpeeoaaa.SG

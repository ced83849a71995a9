/- The law CrcPieces. -/
import Derived.Test.YtlejmoaeijjnbaaLFar
import Derived.Test.YtlejmoaeijjnbaaInv2
namespace Go.Proofs.Ytlejmoaeijjnbaa
open Go.RowKit
set_option linter.unusedVariables false

theorem heap_alloc_drew (w : World) (o : Obj) : (w.alloc o).drew.heap[w.heap.size]? = some o := heap_alloc_new w o
theorem sumF_nil (f : Nat → Int) : sumF f 0 = 0 := Nat.xor_self _
theorem pieces2 (f : Nat → Int) {k n : Nat} (h : k ≤ n) : shN (8 * (n - k)) (sumF f k) ^^^ sumF (fun i => f (k + i)) (n - k) = sumF f n := by
  have e := sumF_add f k (n - k)
  rw [show k + (n - k) = n by omega] at e
  exact e.symm
theorem pieces_nil (f g h : Nat → Int) (n : Nat) : shN (8 * 0) (shN (8 * n) (sumF g 0) ^^^ sumF f n) ^^^ sumF h 0 = sumF f n := by
  rw [sumF_nil, sumF_nil, shN_zero, Nat.zero_xor, Nat.xor_zero]; rfl
theorem pieces3 (f g : Nat → Int) {k n : Nat} (h : k ≤ n) : shN (8 * (n - k)) (shN (8 * 0) (sumF f k) ^^^ sumF g 0) ^^^ sumF (fun i => f (k + i)) (n - k) = sumF f n := by
  rw [sumF_nil, Nat.xor_zero]; exact pieces2 f h

theorem sum_two (g : Nat) (t : TypeId) (A0 A1 : Option Addr) (l0 l1 c0 c1 k : Nat) (f0 f1 : Nat → Int) (w : World) (v : Nat) (hv : shN (8 * l1) (sumF f0 l0) ^^^ sumF f1 l1 = v) (h : w.heap[g]? = some (.cells #[.slice A0 l0 c0, .slice A1 l1 c1] t (0, 0)))
    (hb0 : Bs w A0 l0 f0) (hf0 : IsByte f0) (hl0 : l0 ≤ c0) (hc0 : (c0 : Int) ≤ 9223372036854775807)
    (hb1 : Bs w A1 l1 f1) (hf1 : IsByte f1) (hl1 : l1 ≤ c1) (hc1 : (c1 : Int) ≤ 9223372036854775807) :
    Calls Try.prog 12 #[.slice (some ⟨g, 0, none⟩) 2 k] w fun e w' => e = .returned (.int .u32 ((v : Nat) : Int)) ∧ Below w.heap.size w w' := by
  have := sum2_any g t A0 A1 l0 l1 c0 c1 k f0 f1 w h hb0 hf0 hl0 hc0 hb1 hf1 hl1 hc1
  rw [hv] at this; exact this
theorem sum_mid (g : Nat) (t : TypeId) (A : Option Addr) (l c k : Nat) (f : Nat → Int) (w : World) (v : Nat) (hv : sumF f l = v) (h : w.heap[g]? = some (.cells #[.slice none 0 0, .slice A l c, .slice none 0 0] t (0, 0)))
    (hb : Bs w A l f) (hf : IsByte f) (hl : l ≤ c) (hc : (c : Int) ≤ 9223372036854775807) :
    Calls Try.prog 12 #[.slice (some ⟨g, 0, none⟩) 3 k] w fun e w' => e = .returned (.int .u32 ((v : Nat) : Int)) ∧ Below w.heap.size w w' := by
  have := sum3_any g t none A none 0 l 0 0 c 0 k zeroF f zeroF w h (Bs.none_ _ _ _ rfl) zeroF_isByte (Nat.le_refl _) (by decide) hb hf hl hc (Bs.none_ _ _ _ rfl) zeroF_isByte (Nat.le_refl _) (by decide)
  rw [pieces_nil, hv] at this; exact this
theorem sum_gap (g : Nat) (t : TypeId) (A0 A1 : Option Addr) (l0 l1 c0 c1 k : Nat) (f0 f1 : Nat → Int) (w : World) (v : Nat) (hv : shN (8 * l1) (sumF f0 l0) ^^^ sumF f1 l1 = v) (h : w.heap[g]? = some (.cells #[.slice A0 l0 c0, .slice none 0 0, .slice A1 l1 c1] t (0, 0)))
    (hb0 : Bs w A0 l0 f0) (hf0 : IsByte f0) (hl0 : l0 ≤ c0) (hc0 : (c0 : Int) ≤ 9223372036854775807)
    (hb1 : Bs w A1 l1 f1) (hf1 : IsByte f1) (hl1 : l1 ≤ c1) (hc1 : (c1 : Int) ≤ 9223372036854775807) :
    Calls Try.prog 12 #[.slice (some ⟨g, 0, none⟩) 3 k] w fun e w' => e = .returned (.int .u32 ((v : Nat) : Int)) ∧ Below w.heap.size w w' := by
  have := sum3_any g t A0 none A1 l0 0 l1 c0 0 c1 k f0 zeroF f1 w h hb0 hf0 hl0 hc0 (Bs.none_ _ _ _ rfl) zeroF_isByte (Nat.le_refl _) (by decide) hb1 hf1 hl1 hc1
  rw [sumF_nil, Nat.xor_zero, show shN (8 * 0) (sumF f0 l0) = sumF f0 l0 from rfl, hv] at this; exact this

/-- A slot that holds the slice of a row that was made. -/
def Bx (v : World) (s : Value) (cells : Array Value) (n : Nat) : Prop := ∃ g t, s = .slice (some ⟨g, 0, none⟩) n n ∧ v.heap[g]? = some (.cells cells t (0, 0))
theorem Bx.below {v v' : World} {s : Value} {cells : Array Value} {n : Nat} (h : Bx v s cells n) (k : Below v.heap.size v v') : Bx v' s cells n := by
  obtain ⟨g, t, e, m⟩ := h
  exact ⟨g, t, e, (k.block g (lt_of_block m)).trans m⟩
theorem Bx.new (v : World) (cells : Array Value) (n : Nat) (t : TypeId) : Bx (v.alloc (.cells cells t)) (.slice (some ⟨v.heap.size, 0, none⟩) n n) cells n := ⟨_, _, rfl, heap_alloc_new v _⟩
structure PcSt (w : World) (A D : Option Addr) (la : Nat) (f : Nat → Int) (k r : Nat) (v : World) : Prop where
  old : Below w.heap.size w v
  a : Bs v A la f
  t : Bs v D r (fun i => f (k + i))
theorem PcSt.below {w v v' : World} {A D : Option Addr} {la k r : Nat} {f : Nat → Int} (H : PcSt w A D la f k r v) (q : Below v.heap.size v v') : PcSt w A D la f k r v' := ⟨H.old.trans (q.mono H.old.size), H.a.old q, H.t.old q⟩
theorem PcSt.drew {w v : World} {A D : Option Addr} {la k r : Nat} {f : Nat → Int} (H : PcSt w A D la f k r v) : PcSt w A D la f k r v.drew := ⟨H.old.drew, H.a, H.t⟩
def Pc6 (w : World) (A D : Option Addr) (la ca : Nat) (f : Nat → Int) (k r c2 V : Nat) (p2 p3 p6 p7 p8 p9 p10 p11 p12 p13 p14 p15 p16 p17 p18 p19 p20 p21 p22 p23 : Value) (d : Nat → Bool) (a : Act) (v : World) : Prop := ∃ s24 s25 s26 s27 s28 s29 s30 s31 s32 s33 s34 s35 s36 s37 s38 s39 s40 s41 s42 s43 s44 s45 s46 s47 s48 s49 s50 s51 s52 s4, a = { tmps := (Value.slice A la ca :: Value.int .i64 (k : Int) :: p2 :: p3 :: s4 :: Value.int .u32 ((V : Nat) : Int) :: p6 :: p7 :: p8 :: p9 :: p10 :: p11 :: p12 :: p13 :: p14 :: p15 :: p16 :: p17 :: p18 :: p19 :: p20 :: p21 :: p22 :: p23 :: s24 :: s25 :: s26 :: s27 :: s28 :: s29 :: s30 :: s31 :: s32 :: s33 :: s34 :: s35 :: s36 :: s37 :: s38 :: s39 :: s40 :: s41 :: s42 :: s43 :: s44 :: s45 :: s46 :: s47 :: s48 :: s49 :: s50 :: s51 :: s52 :: []).toArray, defers := [] } ∧ PcSt w A D la f k r v ∧ (d 0 = true → s24 = Value.slice A la ca) ∧ (d 1 = true → s25 = Value.int .i64 (k : Int)) ∧ (d 2 = true → s26 = Value.slice A k ca) ∧ (d 3 = true → s27 = Value.slice A la ca) ∧ (d 4 = true → s28 = Value.int .i64 (k : Int)) ∧ (d 5 = true → s29 = Value.slice D r c2) ∧ (d 6 = true → Bx v s30 #[.slice A k ca, .slice D r c2] 2) ∧ (d 7 = true → s31 = Value.int .u32 ((V : Nat) : Int)) ∧ (d 8 = true → s32 = Value.int .u32 ((V : Nat) : Int)) ∧ (d 9 = true → s33 = Value.bool true) ∧ (d 10 = true → s34 = Value.bool true) ∧ (d 11 = true → s35 = Value.slice A la ca) ∧ (d 12 = true → Bx v s36 #[.slice none 0 0, .slice A la ca, .slice none 0 0] 3) ∧ (d 13 = true → s37 = Value.int .u32 ((V : Nat) : Int)) ∧ (d 14 = true → s38 = Value.int .u32 ((V : Nat) : Int)) ∧ (d 15 = true → s39 = Value.bool true) ∧ (d 16 = true → s40 = Value.bool true) ∧ (d 17 = true → s41 = Value.bool true) ∧ (d 18 = true → s42 = Value.slice A la ca) ∧ (d 19 = true → s43 = Value.int .i64 (k : Int)) ∧ (d 20 = true → s44 = Value.slice A k ca) ∧ (d 21 = true → s45 = Value.slice A la ca) ∧ (d 22 = true → s46 = Value.int .i64 (k : Int)) ∧ (d 23 = true → s47 = Value.slice D r c2) ∧ (d 24 = true → Bx v s48 #[.slice A k ca, .slice none 0 0, .slice D r c2] 3) ∧ (d 25 = true → s49 = Value.int .u32 ((V : Nat) : Int)) ∧ (d 26 = true → s50 = Value.int .u32 ((V : Nat) : Int)) ∧ (d 27 = true → s51 = Value.bool true) ∧ (d 28 = true → s52 = Value.bool true) ∧ (d 29 = true → s4 = Value.bool true)
theorem Pc6.elim {w : World} {A D : Option Addr} {la ca : Nat} {f : Nat → Int} {k r c2 V : Nat} {p2 p3 p6 p7 p8 p9 p10 p11 p12 p13 p14 p15 p16 p17 p18 p19 p20 p21 p22 p23 : Value} {d : Nat → Bool} {a : Act} {v : World} (H : Pc6 w A D la ca f k r c2 V p2 p3 p6 p7 p8 p9 p10 p11 p12 p13 p14 p15 p16 p17 p18 p19 p20 p21 p22 p23 d a v) {G : Prop} (k : ∀ s24 s25 s26 s27 s28 s29 s30 s31 s32 s33 s34 s35 s36 s37 s38 s39 s40 s41 s42 s43 s44 s45 s46 s47 s48 s49 s50 s51 s52 s4, a = { tmps := (Value.slice A la ca :: Value.int .i64 (k : Int) :: p2 :: p3 :: s4 :: Value.int .u32 ((V : Nat) : Int) :: p6 :: p7 :: p8 :: p9 :: p10 :: p11 :: p12 :: p13 :: p14 :: p15 :: p16 :: p17 :: p18 :: p19 :: p20 :: p21 :: p22 :: p23 :: s24 :: s25 :: s26 :: s27 :: s28 :: s29 :: s30 :: s31 :: s32 :: s33 :: s34 :: s35 :: s36 :: s37 :: s38 :: s39 :: s40 :: s41 :: s42 :: s43 :: s44 :: s45 :: s46 :: s47 :: s48 :: s49 :: s50 :: s51 :: s52 :: []).toArray, defers := [] } → PcSt w A D la f k r v → (d 0 = true → s24 = Value.slice A la ca) → (d 1 = true → s25 = Value.int .i64 (k : Int)) → (d 2 = true → s26 = Value.slice A k ca) → (d 3 = true → s27 = Value.slice A la ca) → (d 4 = true → s28 = Value.int .i64 (k : Int)) → (d 5 = true → s29 = Value.slice D r c2) → (d 6 = true → Bx v s30 #[.slice A k ca, .slice D r c2] 2) → (d 7 = true → s31 = Value.int .u32 ((V : Nat) : Int)) → (d 8 = true → s32 = Value.int .u32 ((V : Nat) : Int)) → (d 9 = true → s33 = Value.bool true) → (d 10 = true → s34 = Value.bool true) → (d 11 = true → s35 = Value.slice A la ca) → (d 12 = true → Bx v s36 #[.slice none 0 0, .slice A la ca, .slice none 0 0] 3) → (d 13 = true → s37 = Value.int .u32 ((V : Nat) : Int)) → (d 14 = true → s38 = Value.int .u32 ((V : Nat) : Int)) → (d 15 = true → s39 = Value.bool true) → (d 16 = true → s40 = Value.bool true) → (d 17 = true → s41 = Value.bool true) → (d 18 = true → s42 = Value.slice A la ca) → (d 19 = true → s43 = Value.int .i64 (k : Int)) → (d 20 = true → s44 = Value.slice A k ca) → (d 21 = true → s45 = Value.slice A la ca) → (d 22 = true → s46 = Value.int .i64 (k : Int)) → (d 23 = true → s47 = Value.slice D r c2) → (d 24 = true → Bx v s48 #[.slice A k ca, .slice none 0 0, .slice D r c2] 3) → (d 25 = true → s49 = Value.int .u32 ((V : Nat) : Int)) → (d 26 = true → s50 = Value.int .u32 ((V : Nat) : Int)) → (d 27 = true → s51 = Value.bool true) → (d 28 = true → s52 = Value.bool true) → (d 29 = true → s4 = Value.bool true) → G) : G := by
  obtain ⟨s24, s25, s26, s27, s28, s29, s30, s31, s32, s33, s34, s35, s36, s37, s38, s39, s40, s41, s42, s43, s44, s45, s46, s47, s48, s49, s50, s51, s52, s4, e, HS, h0, h1, h2, h3, h4, h5, h6, h7, h8, h9, h10, h11, h12, h13, h14, h15, h16, h17, h18, h19, h20, h21, h22, h23, h24, h25, h26, h27, h28, h29⟩ := H
  exact k s24 s25 s26 s27 s28 s29 s30 s31 s32 s33 s34 s35 s36 s37 s38 s39 s40 s41 s42 s43 s44 s45 s46 s47 s48 s49 s50 s51 s52 s4 e HS h0 h1 h2 h3 h4 h5 h6 h7 h8 h9 h10 h11 h12 h13 h14 h15 h16 h17 h18 h19 h20 h21 h22 h23 h24 h25 h26 h27 h28 h29
set_option maxHeartbeats 4000000 in
theorem crcPieces_law (A : Option Addr) (la ca : Nat) (f : Nat → Int) (cut : Int) (w : World)
    (hla : la ≤ ca) (hca : (ca : Int) ≤ 9223372036854775807) (hA : Bs w A la f) (hf : IsByte f) :
    Calls Try.prog 9 #[.slice A la ca, .int .i64 cut] w fun e w' => e = .returned (.bool true) ∧ Below w.heap.size w w' := by
  have HA := hide hA
  have Hf := hide hf
  clear hA hf
  by_cases g1 : (la : Int) > 20000
  · go_enter Try.func9, Try.ntmps9
    go_wp2_with (go_at_call 18; refine (awake02_any _).mono ?_; rintro e w1 ⟨rfl, h1⟩; have H1 : Hid (Below w.heap.size w w1) := h1; clear h1)
    go_ret
    exact ⟨rfl, H1.out⟩
  by_cases g2 : cut < 0
  · go_enter Try.func9, Try.ntmps9
    go_wp2_with (go_at_call 18; refine (awake02_any _).mono ?_; rintro e w1 ⟨rfl, h1⟩; have H1 : Hid (Below w.heap.size w w1) := h1; clear h1)
    go_ret
    exact ⟨rfl, H1.out⟩
  by_cases g3 : cut > (la : Int)
  · go_enter Try.func9, Try.ntmps9
    go_wp2_with (go_at_call 18; refine (awake02_any _).mono ?_; rintro e w1 ⟨rfl, h1⟩; have H1 : Hid (Below w.heap.size w w1) := h1; clear h1)
    go_ret
    exact ⟨rfl, H1.out⟩
  obtain ⟨k, rfl⟩ := Int.eq_ofNat_of_zero_le (show 0 ≤ cut by omega)
  have g1' : (la : Int) ≤ 20000 := by omega
  have g2' : (0 : Int) ≤ (k : Int) := by omega
  have g3' : (k : Int) ≤ (la : Int) := by omega
  have g4 : (la : Int) ≤ (ca : Int) := by omega
  have g5 : (k : Int) ≤ (ca : Int) := by omega
  clear g1 g2 g3
  go_enter Try.func9, Try.ntmps9
  go_wp2_with (go_at_call 18; refine (awake02_any _).mono ?_; rintro e w1 ⟨rfl, h1⟩; have H1 : Hid (Below w.heap.size w w1) := h1; clear h1)
  refine (sum1_any _ _ A la ca 1 f _ (heap_alloc_new _ _) ((HA.out.old H1.out).alloc _) Hf.out hla hca).mono ?_
  rintro e w2 ⟨rfl, hw⟩
  have H2 : Hid (Below w.heap.size w w2) := B_then (B_alloc H1.out _) hw
  clear hw H1
  go_wp2_with fail
  have E1 := hide (pieces2 f (k := k) (n := la) (by omega))
  have Hk : Hid (k ≤ la) := (by omega : k ≤ la)
  have Hfk : Hid (IsByte (fun i => f (k + i))) := fun i => Hf.out (k + i)
  have Hc1 : Hid (k ≤ ca) := (by omega : k ≤ ca)
  have Hc2 : Hid (la - k ≤ ca - k) := (by omega : la - k ≤ ca - k)
  have Hc3 : Hid (((ca - k : Nat) : Int) ≤ 9223372036854775807) := (by omega : ((ca - k : Nat) : Int) ≤ 9223372036854775807)
  generalize hV : sumF f la = V at *
  have EV := hide hV
  clear hV
  by_cases hck : ca = k
  · obtain rfl : la = k := by omega
    subst hck
    have H2 : Hid (PcSt w A A ca f ca 0 w2) := ⟨H2.out, HA.out.old H2.out, Bs.none_ _ _ _ rfl⟩
    have E1 : Hid (shN (8 * 0) (sumF f ca) ^^^ sumF (fun i => f (ca + i)) 0 = V) := by rw [Hid, sumF_nil, Nat.xor_zero]; exact EV.out
    have Hc2 : Hid (0 ≤ 0) := Nat.le_refl 0
    have Hc3 : Hid (((0 : Nat) : Int) ≤ 9223372036854775807) := (by decide : ((0 : Nat) : Int) ≤ 9223372036854775807)
    refine wp_region_steps (by kernel_rfl) (by kernel_rfl) (Pc6 w A A ca ca f ca 0 0 V _ _ _ _ _ _ _ _ _ _ _ _ _ _ _ _ _ _ _ _) ⟨_, _, _, _, _, _, _, _, _, _, _, _, _, _, _, _, _, _, _, _, _, _, _, _, _, _, _, _, _, _, rfl, H2.out.drew, (fun e => Bool.noConfusion e), (fun e => Bool.noConfusion e), (fun e => Bool.noConfusion e), (fun e => Bool.noConfusion e), (fun e => Bool.noConfusion e), (fun e => Bool.noConfusion e), (fun e => Bool.noConfusion e), (fun e => Bool.noConfusion e), (fun e => Bool.noConfusion e), (fun e => Bool.noConfusion e), (fun e => Bool.noConfusion e), (fun e => Bool.noConfusion e), (fun e => Bool.noConfusion e), (fun e => Bool.noConfusion e), (fun e => Bool.noConfusion e), (fun e => Bool.noConfusion e), (fun e => Bool.noConfusion e), (fun e => Bool.noConfusion e), (fun e => Bool.noConfusion e), (fun e => Bool.noConfusion e), (fun e => Bool.noConfusion e), (fun e => Bool.noConfusion e), (fun e => Bool.noConfusion e), (fun e => Bool.noConfusion e), (fun e => Bool.noConfusion e), (fun e => Bool.noConfusion e), (fun e => Bool.noConfusion e), (fun e => Bool.noConfusion e), (fun e => Bool.noConfusion e), (fun e => Bool.noConfusion e)⟩ ?hs ?he
    case hs =>
      go_tidy
      refine ⟨?o0, ?o1, ?o2, ?o3, ?o4, ?o5, ?o6, ?o7, ?o8, ?o9, ?o10, ?o11, ?o12, ?o13, ?o14, ?o15, ?o16, ?o17, ?o18, ?o19, ?o20, ?o21, ?o22, ?o23, ?o24, ?o25, ?o26, ?o27, ?o28, ?o29, trivial⟩
      case o0 =>
        intro d a v hd hr hJ; refine Pc6.elim hJ ?_; intro s24 s25 s26 s27 s28 s29 s30 s31 s32 s33 s34 s35 s36 s37 s38 s39 s40 s41 s42 s43 s44 s45 s46 s47 s48 s49 s50 s51 s52 s4 e HS h0 h1 h2 h3 h4 h5 h6 h7 h8 h9 h10 h11 h12 h13 h14 h15 h16 h17 h18 h19 h20 h21 h22 h23 h24 h25 h26 h27 h28 h29; subst e
        go_wp2_with fail
        exact ⟨_, s25, s26, s27, s28, s29, s30, s31, s32, s33, s34, s35, s36, s37, s38, s39, s40, s41, s42, s43, s44, s45, s46, s47, s48, s49, s50, s51, s52, s4, rfl, HS, fun _ => rfl, h1, h2, h3, h4, h5, h6, h7, h8, h9, h10, h11, h12, h13, h14, h15, h16, h17, h18, h19, h20, h21, h22, h23, h24, h25, h26, h27, h28, h29⟩
      case o1 =>
        intro d a v hd hr hJ; refine Pc6.elim hJ ?_; intro s24 s25 s26 s27 s28 s29 s30 s31 s32 s33 s34 s35 s36 s37 s38 s39 s40 s41 s42 s43 s44 s45 s46 s47 s48 s49 s50 s51 s52 s4 e HS h0 h1 h2 h3 h4 h5 h6 h7 h8 h9 h10 h11 h12 h13 h14 h15 h16 h17 h18 h19 h20 h21 h22 h23 h24 h25 h26 h27 h28 h29; subst e
        go_wp2_with fail
        exact ⟨s24, _, s26, s27, s28, s29, s30, s31, s32, s33, s34, s35, s36, s37, s38, s39, s40, s41, s42, s43, s44, s45, s46, s47, s48, s49, s50, s51, s52, s4, rfl, HS, h0, fun _ => rfl, h2, h3, h4, h5, h6, h7, h8, h9, h10, h11, h12, h13, h14, h15, h16, h17, h18, h19, h20, h21, h22, h23, h24, h25, h26, h27, h28, h29⟩
      case o2 =>
        intro d a v hd hr hJ; refine Pc6.elim hJ ?_; intro s24 s25 s26 s27 s28 s29 s30 s31 s32 s33 s34 s35 s36 s37 s38 s39 s40 s41 s42 s43 s44 s45 s46 s47 s48 s49 s50 s51 s52 s4 e HS h0 h1 h2 h3 h4 h5 h6 h7 h8 h9 h10 h11 h12 h13 h14 h15 h16 h17 h18 h19 h20 h21 h22 h23 h24 h25 h26 h27 h28 h29; subst e
        have e0 : d 0 = true := by first | exact hr.1 rfl | exact hr.2.1 rfl | exact hr.2.2.1 rfl | exact hr.2.2.2.1 rfl | exact hr.2.2.2.2.1 rfl
        obtain rfl := h0 e0
        have e1 : d 1 = true := by first | exact hr.1 rfl | exact hr.2.1 rfl | exact hr.2.2.1 rfl | exact hr.2.2.2.1 rfl | exact hr.2.2.2.2.1 rfl
        obtain rfl := h1 e1
        go_wp2_with fail
        exact ⟨_, _, _, s27, s28, s29, s30, s31, s32, s33, s34, s35, s36, s37, s38, s39, s40, s41, s42, s43, s44, s45, s46, s47, s48, s49, s50, s51, s52, s4, rfl, HS, fun _ => rfl, fun _ => rfl, fun _ => rfl, h3, h4, h5, h6, h7, h8, h9, h10, h11, h12, h13, h14, h15, h16, h17, h18, h19, h20, h21, h22, h23, h24, h25, h26, h27, h28, h29⟩
      case o3 =>
        intro d a v hd hr hJ; refine Pc6.elim hJ ?_; intro s24 s25 s26 s27 s28 s29 s30 s31 s32 s33 s34 s35 s36 s37 s38 s39 s40 s41 s42 s43 s44 s45 s46 s47 s48 s49 s50 s51 s52 s4 e HS h0 h1 h2 h3 h4 h5 h6 h7 h8 h9 h10 h11 h12 h13 h14 h15 h16 h17 h18 h19 h20 h21 h22 h23 h24 h25 h26 h27 h28 h29; subst e
        go_wp2_with fail
        exact ⟨s24, s25, s26, _, s28, s29, s30, s31, s32, s33, s34, s35, s36, s37, s38, s39, s40, s41, s42, s43, s44, s45, s46, s47, s48, s49, s50, s51, s52, s4, rfl, HS, h0, h1, h2, fun _ => rfl, h4, h5, h6, h7, h8, h9, h10, h11, h12, h13, h14, h15, h16, h17, h18, h19, h20, h21, h22, h23, h24, h25, h26, h27, h28, h29⟩
      case o4 =>
        intro d a v hd hr hJ; refine Pc6.elim hJ ?_; intro s24 s25 s26 s27 s28 s29 s30 s31 s32 s33 s34 s35 s36 s37 s38 s39 s40 s41 s42 s43 s44 s45 s46 s47 s48 s49 s50 s51 s52 s4 e HS h0 h1 h2 h3 h4 h5 h6 h7 h8 h9 h10 h11 h12 h13 h14 h15 h16 h17 h18 h19 h20 h21 h22 h23 h24 h25 h26 h27 h28 h29; subst e
        go_wp2_with fail
        exact ⟨s24, s25, s26, s27, _, s29, s30, s31, s32, s33, s34, s35, s36, s37, s38, s39, s40, s41, s42, s43, s44, s45, s46, s47, s48, s49, s50, s51, s52, s4, rfl, HS, h0, h1, h2, h3, fun _ => rfl, h5, h6, h7, h8, h9, h10, h11, h12, h13, h14, h15, h16, h17, h18, h19, h20, h21, h22, h23, h24, h25, h26, h27, h28, h29⟩
      case o5 =>
        intro d a v hd hr hJ; refine Pc6.elim hJ ?_; intro s24 s25 s26 s27 s28 s29 s30 s31 s32 s33 s34 s35 s36 s37 s38 s39 s40 s41 s42 s43 s44 s45 s46 s47 s48 s49 s50 s51 s52 s4 e HS h0 h1 h2 h3 h4 h5 h6 h7 h8 h9 h10 h11 h12 h13 h14 h15 h16 h17 h18 h19 h20 h21 h22 h23 h24 h25 h26 h27 h28 h29; subst e
        have e3 : d 3 = true := by first | exact hr.1 rfl | exact hr.2.1 rfl | exact hr.2.2.1 rfl | exact hr.2.2.2.1 rfl | exact hr.2.2.2.2.1 rfl
        obtain rfl := h3 e3
        have e4 : d 4 = true := by first | exact hr.1 rfl | exact hr.2.1 rfl | exact hr.2.2.1 rfl | exact hr.2.2.2.1 rfl | exact hr.2.2.2.2.1 rfl
        obtain rfl := h4 e4
        go_wp2_with fail
        exact ⟨s24, s25, s26, _, _, _, s30, s31, s32, s33, s34, s35, s36, s37, s38, s39, s40, s41, s42, s43, s44, s45, s46, s47, s48, s49, s50, s51, s52, s4, rfl, HS, h0, h1, h2, fun _ => rfl, fun _ => rfl, fun _ => rfl, h6, h7, h8, h9, h10, h11, h12, h13, h14, h15, h16, h17, h18, h19, h20, h21, h22, h23, h24, h25, h26, h27, h28, h29⟩
      case o6 =>
        intro d a v hd hr hJ; refine Pc6.elim hJ ?_; intro s24 s25 s26 s27 s28 s29 s30 s31 s32 s33 s34 s35 s36 s37 s38 s39 s40 s41 s42 s43 s44 s45 s46 s47 s48 s49 s50 s51 s52 s4 e HS h0 h1 h2 h3 h4 h5 h6 h7 h8 h9 h10 h11 h12 h13 h14 h15 h16 h17 h18 h19 h20 h21 h22 h23 h24 h25 h26 h27 h28 h29; subst e
        have e2 : d 2 = true := by first | exact hr.1 rfl | exact hr.2.1 rfl | exact hr.2.2.1 rfl | exact hr.2.2.2.1 rfl | exact hr.2.2.2.2.1 rfl
        obtain rfl := h2 e2
        have e5 : d 5 = true := by first | exact hr.1 rfl | exact hr.2.1 rfl | exact hr.2.2.1 rfl | exact hr.2.2.2.1 rfl | exact hr.2.2.2.2.1 rfl
        obtain rfl := h5 e5
        go_wp2_with fail
        exact ⟨s24, s25, _, s27, s28, _, _, s31, s32, s33, s34, s35, s36, s37, s38, s39, s40, s41, s42, s43, s44, s45, s46, s47, s48, s49, s50, s51, s52, s4, rfl, HS.below ((Below.refl _ v).alloc (Nat.le_refl _) _), h0, h1, fun _ => rfl, h3, h4, fun _ => rfl, fun _ => Bx.new _ _ _ _, h7, h8, h9, h10, h11, fun q => (h12 q).below ((Below.refl _ v).alloc (Nat.le_refl _) _), h13, h14, h15, h16, h17, h18, h19, h20, h21, h22, h23, fun q => (h24 q).below ((Below.refl _ v).alloc (Nat.le_refl _) _), h25, h26, h27, h28, h29⟩
      case o7 =>
        intro d a v hd hr hJ; refine Pc6.elim hJ ?_; intro s24 s25 s26 s27 s28 s29 s30 s31 s32 s33 s34 s35 s36 s37 s38 s39 s40 s41 s42 s43 s44 s45 s46 s47 s48 s49 s50 s51 s52 s4 e HS h0 h1 h2 h3 h4 h5 h6 h7 h8 h9 h10 h11 h12 h13 h14 h15 h16 h17 h18 h19 h20 h21 h22 h23 h24 h25 h26 h27 h28 h29; subst e
        have e6 : d 6 = true := by first | exact hr.1 rfl | exact hr.2.1 rfl | exact hr.2.2.1 rfl | exact hr.2.2.2.1 rfl | exact hr.2.2.2.2.1 rfl
        obtain ⟨g6, t6, rfl, m6⟩ := h6 e6
        go_wp2_with fail
        refine (sum_two g6 t6 A A ca 0 ca 0 2 f (fun i => f (ca + i)) _ V E1.out m6 (HS.a.take Hk.out) Hf.out Hc1.out hca HS.t Hfk.out Hc2.out Hc3.out).mono ?_
        rintro e v' ⟨rfl, hw⟩
        go_wp2_with fail
        exact ⟨s24, s25, s26, s27, s28, s29, _, _, s32, s33, s34, s35, s36, s37, s38, s39, s40, s41, s42, s43, s44, s45, s46, s47, s48, s49, s50, s51, s52, s4, rfl, HS.below hw, h0, h1, h2, h3, h4, h5, fun _ => Bx.below ⟨g6, t6, rfl, m6⟩ hw, fun _ => rfl, h8, h9, h10, h11, fun q => (h12 q).below hw, h13, h14, h15, h16, h17, h18, h19, h20, h21, h22, h23, fun q => (h24 q).below hw, h25, h26, h27, h28, h29⟩
      case o8 =>
        intro d a v hd hr hJ; refine Pc6.elim hJ ?_; intro s24 s25 s26 s27 s28 s29 s30 s31 s32 s33 s34 s35 s36 s37 s38 s39 s40 s41 s42 s43 s44 s45 s46 s47 s48 s49 s50 s51 s52 s4 e HS h0 h1 h2 h3 h4 h5 h6 h7 h8 h9 h10 h11 h12 h13 h14 h15 h16 h17 h18 h19 h20 h21 h22 h23 h24 h25 h26 h27 h28 h29; subst e
        go_wp2_with fail
        exact ⟨s24, s25, s26, s27, s28, s29, s30, s31, _, s33, s34, s35, s36, s37, s38, s39, s40, s41, s42, s43, s44, s45, s46, s47, s48, s49, s50, s51, s52, s4, rfl, HS, h0, h1, h2, h3, h4, h5, h6, h7, fun _ => rfl, h9, h10, h11, h12, h13, h14, h15, h16, h17, h18, h19, h20, h21, h22, h23, h24, h25, h26, h27, h28, h29⟩
      case o9 =>
        intro d a v hd hr hJ; refine Pc6.elim hJ ?_; intro s24 s25 s26 s27 s28 s29 s30 s31 s32 s33 s34 s35 s36 s37 s38 s39 s40 s41 s42 s43 s44 s45 s46 s47 s48 s49 s50 s51 s52 s4 e HS h0 h1 h2 h3 h4 h5 h6 h7 h8 h9 h10 h11 h12 h13 h14 h15 h16 h17 h18 h19 h20 h21 h22 h23 h24 h25 h26 h27 h28 h29; subst e
        have e7 : d 7 = true := by first | exact hr.1 rfl | exact hr.2.1 rfl | exact hr.2.2.1 rfl | exact hr.2.2.2.1 rfl | exact hr.2.2.2.2.1 rfl
        obtain rfl := h7 e7
        have e8 : d 8 = true := by first | exact hr.1 rfl | exact hr.2.1 rfl | exact hr.2.2.1 rfl | exact hr.2.2.2.1 rfl | exact hr.2.2.2.2.1 rfl
        obtain rfl := h8 e8
        go_wp2_with fail
        exact ⟨s24, s25, s26, s27, s28, s29, s30, _, _, _, s34, s35, s36, s37, s38, s39, s40, s41, s42, s43, s44, s45, s46, s47, s48, s49, s50, s51, s52, s4, rfl, HS, h0, h1, h2, h3, h4, h5, h6, fun _ => rfl, fun _ => rfl, fun _ => rfl, h10, h11, h12, h13, h14, h15, h16, h17, h18, h19, h20, h21, h22, h23, h24, h25, h26, h27, h28, h29⟩
      case o10 =>
        intro d a v hd hr hJ; refine Pc6.elim hJ ?_; intro s24 s25 s26 s27 s28 s29 s30 s31 s32 s33 s34 s35 s36 s37 s38 s39 s40 s41 s42 s43 s44 s45 s46 s47 s48 s49 s50 s51 s52 s4 e HS h0 h1 h2 h3 h4 h5 h6 h7 h8 h9 h10 h11 h12 h13 h14 h15 h16 h17 h18 h19 h20 h21 h22 h23 h24 h25 h26 h27 h28 h29; subst e
        have e9 : d 9 = true := by first | exact hr.1 rfl | exact hr.2.1 rfl | exact hr.2.2.1 rfl | exact hr.2.2.2.1 rfl | exact hr.2.2.2.2.1 rfl
        obtain rfl := h9 e9
        go_wp2_with fail
        exact ⟨s24, s25, s26, s27, s28, s29, s30, s31, s32, _, _, s35, s36, s37, s38, s39, s40, s41, s42, s43, s44, s45, s46, s47, s48, s49, s50, s51, s52, s4, rfl, HS, h0, h1, h2, h3, h4, h5, h6, h7, h8, fun _ => rfl, fun _ => rfl, h11, h12, h13, h14, h15, h16, h17, h18, h19, h20, h21, h22, h23, h24, h25, h26, h27, h28, h29⟩
      case o11 =>
        intro d a v hd hr hJ; refine Pc6.elim hJ ?_; intro s24 s25 s26 s27 s28 s29 s30 s31 s32 s33 s34 s35 s36 s37 s38 s39 s40 s41 s42 s43 s44 s45 s46 s47 s48 s49 s50 s51 s52 s4 e HS h0 h1 h2 h3 h4 h5 h6 h7 h8 h9 h10 h11 h12 h13 h14 h15 h16 h17 h18 h19 h20 h21 h22 h23 h24 h25 h26 h27 h28 h29; subst e
        have e10 : d 10 = true := by first | exact hr.1 rfl | exact hr.2.1 rfl | exact hr.2.2.1 rfl | exact hr.2.2.2.1 rfl | exact hr.2.2.2.2.1 rfl
        obtain rfl := h10 e10
        go_wp2_with fail
        exact ⟨s24, s25, s26, s27, s28, s29, s30, s31, s32, s33, _, _, s36, s37, s38, s39, s40, s41, s42, s43, s44, s45, s46, s47, s48, s49, s50, s51, s52, s4, rfl, HS, h0, h1, h2, h3, h4, h5, h6, h7, h8, h9, fun _ => rfl, fun _ => rfl, h12, h13, h14, h15, h16, h17, h18, h19, h20, h21, h22, h23, h24, h25, h26, h27, h28, h29⟩
      case o12 =>
        intro d a v hd hr hJ; refine Pc6.elim hJ ?_; intro s24 s25 s26 s27 s28 s29 s30 s31 s32 s33 s34 s35 s36 s37 s38 s39 s40 s41 s42 s43 s44 s45 s46 s47 s48 s49 s50 s51 s52 s4 e HS h0 h1 h2 h3 h4 h5 h6 h7 h8 h9 h10 h11 h12 h13 h14 h15 h16 h17 h18 h19 h20 h21 h22 h23 h24 h25 h26 h27 h28 h29; subst e
        have e11 : d 11 = true := by first | exact hr.1 rfl | exact hr.2.1 rfl | exact hr.2.2.1 rfl | exact hr.2.2.2.1 rfl | exact hr.2.2.2.2.1 rfl
        obtain rfl := h11 e11
        have e10 : d 10 = true := by first | exact hr.1 rfl | exact hr.2.1 rfl | exact hr.2.2.1 rfl | exact hr.2.2.2.1 rfl | exact hr.2.2.2.2.1 rfl
        obtain rfl := h10 e10
        go_wp2_with fail
        exact ⟨s24, s25, s26, s27, s28, s29, s30, s31, s32, s33, _, _, _, s37, s38, s39, s40, s41, s42, s43, s44, s45, s46, s47, s48, s49, s50, s51, s52, s4, rfl, HS.below ((Below.refl _ v).alloc (Nat.le_refl _) _), h0, h1, h2, h3, h4, h5, fun q => (h6 q).below ((Below.refl _ v).alloc (Nat.le_refl _) _), h7, h8, h9, fun _ => rfl, fun _ => rfl, fun _ => Bx.new _ _ _ _, h13, h14, h15, h16, h17, h18, h19, h20, h21, h22, h23, fun q => (h24 q).below ((Below.refl _ v).alloc (Nat.le_refl _) _), h25, h26, h27, h28, h29⟩
      case o13 =>
        intro d a v hd hr hJ; refine Pc6.elim hJ ?_; intro s24 s25 s26 s27 s28 s29 s30 s31 s32 s33 s34 s35 s36 s37 s38 s39 s40 s41 s42 s43 s44 s45 s46 s47 s48 s49 s50 s51 s52 s4 e HS h0 h1 h2 h3 h4 h5 h6 h7 h8 h9 h10 h11 h12 h13 h14 h15 h16 h17 h18 h19 h20 h21 h22 h23 h24 h25 h26 h27 h28 h29; subst e
        have e12 : d 12 = true := by first | exact hr.1 rfl | exact hr.2.1 rfl | exact hr.2.2.1 rfl | exact hr.2.2.2.1 rfl | exact hr.2.2.2.2.1 rfl
        obtain ⟨g12, t12, rfl, m12⟩ := h12 e12
        have e10 : d 10 = true := by first | exact hr.1 rfl | exact hr.2.1 rfl | exact hr.2.2.1 rfl | exact hr.2.2.2.1 rfl | exact hr.2.2.2.2.1 rfl
        obtain rfl := h10 e10
        go_wp2_with fail
        refine (sum_mid g12 t12 A ca ca 3 f _ V EV.out m12 HS.a Hf.out hla hca).mono ?_
        rintro e v' ⟨rfl, hw⟩
        go_wp2_with fail
        exact ⟨s24, s25, s26, s27, s28, s29, s30, s31, s32, s33, _, s35, _, _, s38, s39, s40, s41, s42, s43, s44, s45, s46, s47, s48, s49, s50, s51, s52, s4, rfl, HS.below hw, h0, h1, h2, h3, h4, h5, fun q => (h6 q).below hw, h7, h8, h9, fun _ => rfl, h11, fun _ => Bx.below ⟨g12, t12, rfl, m12⟩ hw, fun _ => rfl, h14, h15, h16, h17, h18, h19, h20, h21, h22, h23, fun q => (h24 q).below hw, h25, h26, h27, h28, h29⟩
      case o14 =>
        intro d a v hd hr hJ; refine Pc6.elim hJ ?_; intro s24 s25 s26 s27 s28 s29 s30 s31 s32 s33 s34 s35 s36 s37 s38 s39 s40 s41 s42 s43 s44 s45 s46 s47 s48 s49 s50 s51 s52 s4 e HS h0 h1 h2 h3 h4 h5 h6 h7 h8 h9 h10 h11 h12 h13 h14 h15 h16 h17 h18 h19 h20 h21 h22 h23 h24 h25 h26 h27 h28 h29; subst e
        have e10 : d 10 = true := by first | exact hr.1 rfl | exact hr.2.1 rfl | exact hr.2.2.1 rfl | exact hr.2.2.2.1 rfl | exact hr.2.2.2.2.1 rfl
        obtain rfl := h10 e10
        go_wp2_with fail
        exact ⟨s24, s25, s26, s27, s28, s29, s30, s31, s32, s33, _, s35, s36, s37, _, s39, s40, s41, s42, s43, s44, s45, s46, s47, s48, s49, s50, s51, s52, s4, rfl, HS, h0, h1, h2, h3, h4, h5, h6, h7, h8, h9, fun _ => rfl, h11, h12, h13, fun _ => rfl, h15, h16, h17, h18, h19, h20, h21, h22, h23, h24, h25, h26, h27, h28, h29⟩
      case o15 =>
        intro d a v hd hr hJ; refine Pc6.elim hJ ?_; intro s24 s25 s26 s27 s28 s29 s30 s31 s32 s33 s34 s35 s36 s37 s38 s39 s40 s41 s42 s43 s44 s45 s46 s47 s48 s49 s50 s51 s52 s4 e HS h0 h1 h2 h3 h4 h5 h6 h7 h8 h9 h10 h11 h12 h13 h14 h15 h16 h17 h18 h19 h20 h21 h22 h23 h24 h25 h26 h27 h28 h29; subst e
        have e13 : d 13 = true := by first | exact hr.1 rfl | exact hr.2.1 rfl | exact hr.2.2.1 rfl | exact hr.2.2.2.1 rfl | exact hr.2.2.2.2.1 rfl
        obtain rfl := h13 e13
        have e14 : d 14 = true := by first | exact hr.1 rfl | exact hr.2.1 rfl | exact hr.2.2.1 rfl | exact hr.2.2.2.1 rfl | exact hr.2.2.2.2.1 rfl
        obtain rfl := h14 e14
        have e10 : d 10 = true := by first | exact hr.1 rfl | exact hr.2.1 rfl | exact hr.2.2.1 rfl | exact hr.2.2.2.1 rfl | exact hr.2.2.2.2.1 rfl
        obtain rfl := h10 e10
        go_wp2_with fail
        exact ⟨s24, s25, s26, s27, s28, s29, s30, s31, s32, s33, _, s35, s36, _, _, _, s40, s41, s42, s43, s44, s45, s46, s47, s48, s49, s50, s51, s52, s4, rfl, HS, h0, h1, h2, h3, h4, h5, h6, h7, h8, h9, fun _ => rfl, h11, h12, fun _ => rfl, fun _ => rfl, fun _ => rfl, h16, h17, h18, h19, h20, h21, h22, h23, h24, h25, h26, h27, h28, h29⟩
      case o16 =>
        intro d a v hd hr hJ; refine Pc6.elim hJ ?_; intro s24 s25 s26 s27 s28 s29 s30 s31 s32 s33 s34 s35 s36 s37 s38 s39 s40 s41 s42 s43 s44 s45 s46 s47 s48 s49 s50 s51 s52 s4 e HS h0 h1 h2 h3 h4 h5 h6 h7 h8 h9 h10 h11 h12 h13 h14 h15 h16 h17 h18 h19 h20 h21 h22 h23 h24 h25 h26 h27 h28 h29; subst e
        have e10 : d 10 = true := by first | exact hr.1 rfl | exact hr.2.1 rfl | exact hr.2.2.1 rfl | exact hr.2.2.2.1 rfl | exact hr.2.2.2.2.1 rfl
        obtain rfl := h10 e10
        have e15 : d 15 = true := by first | exact hr.1 rfl | exact hr.2.1 rfl | exact hr.2.2.1 rfl | exact hr.2.2.2.1 rfl | exact hr.2.2.2.2.1 rfl
        obtain rfl := h15 e15
        go_wp2_with fail
        exact ⟨s24, s25, s26, s27, s28, s29, s30, s31, s32, s33, _, s35, s36, s37, s38, _, _, s41, s42, s43, s44, s45, s46, s47, s48, s49, s50, s51, s52, s4, rfl, HS, h0, h1, h2, h3, h4, h5, h6, h7, h8, h9, fun _ => rfl, h11, h12, h13, h14, fun _ => rfl, fun _ => rfl, h17, h18, h19, h20, h21, h22, h23, h24, h25, h26, h27, h28, h29⟩
      case o17 =>
        intro d a v hd hr hJ; refine Pc6.elim hJ ?_; intro s24 s25 s26 s27 s28 s29 s30 s31 s32 s33 s34 s35 s36 s37 s38 s39 s40 s41 s42 s43 s44 s45 s46 s47 s48 s49 s50 s51 s52 s4 e HS h0 h1 h2 h3 h4 h5 h6 h7 h8 h9 h10 h11 h12 h13 h14 h15 h16 h17 h18 h19 h20 h21 h22 h23 h24 h25 h26 h27 h28 h29; subst e
        have e16 : d 16 = true := by first | exact hr.1 rfl | exact hr.2.1 rfl | exact hr.2.2.1 rfl | exact hr.2.2.2.1 rfl | exact hr.2.2.2.2.1 rfl
        obtain rfl := h16 e16
        go_wp2_with fail
        exact ⟨s24, s25, s26, s27, s28, s29, s30, s31, s32, s33, s34, s35, s36, s37, s38, s39, _, _, s42, s43, s44, s45, s46, s47, s48, s49, s50, s51, s52, s4, rfl, HS, h0, h1, h2, h3, h4, h5, h6, h7, h8, h9, h10, h11, h12, h13, h14, h15, fun _ => rfl, fun _ => rfl, h18, h19, h20, h21, h22, h23, h24, h25, h26, h27, h28, h29⟩
      case o18 =>
        intro d a v hd hr hJ; refine Pc6.elim hJ ?_; intro s24 s25 s26 s27 s28 s29 s30 s31 s32 s33 s34 s35 s36 s37 s38 s39 s40 s41 s42 s43 s44 s45 s46 s47 s48 s49 s50 s51 s52 s4 e HS h0 h1 h2 h3 h4 h5 h6 h7 h8 h9 h10 h11 h12 h13 h14 h15 h16 h17 h18 h19 h20 h21 h22 h23 h24 h25 h26 h27 h28 h29; subst e
        have e17 : d 17 = true := by first | exact hr.1 rfl | exact hr.2.1 rfl | exact hr.2.2.1 rfl | exact hr.2.2.2.1 rfl | exact hr.2.2.2.2.1 rfl
        obtain rfl := h17 e17
        go_wp2_with fail
        exact ⟨s24, s25, s26, s27, s28, s29, s30, s31, s32, s33, s34, s35, s36, s37, s38, s39, s40, _, _, s43, s44, s45, s46, s47, s48, s49, s50, s51, s52, s4, rfl, HS, h0, h1, h2, h3, h4, h5, h6, h7, h8, h9, h10, h11, h12, h13, h14, h15, h16, fun _ => rfl, fun _ => rfl, h19, h20, h21, h22, h23, h24, h25, h26, h27, h28, h29⟩
      case o19 =>
        intro d a v hd hr hJ; refine Pc6.elim hJ ?_; intro s24 s25 s26 s27 s28 s29 s30 s31 s32 s33 s34 s35 s36 s37 s38 s39 s40 s41 s42 s43 s44 s45 s46 s47 s48 s49 s50 s51 s52 s4 e HS h0 h1 h2 h3 h4 h5 h6 h7 h8 h9 h10 h11 h12 h13 h14 h15 h16 h17 h18 h19 h20 h21 h22 h23 h24 h25 h26 h27 h28 h29; subst e
        have e17 : d 17 = true := by first | exact hr.1 rfl | exact hr.2.1 rfl | exact hr.2.2.1 rfl | exact hr.2.2.2.1 rfl | exact hr.2.2.2.2.1 rfl
        obtain rfl := h17 e17
        go_wp2_with fail
        exact ⟨s24, s25, s26, s27, s28, s29, s30, s31, s32, s33, s34, s35, s36, s37, s38, s39, s40, _, s42, _, s44, s45, s46, s47, s48, s49, s50, s51, s52, s4, rfl, HS, h0, h1, h2, h3, h4, h5, h6, h7, h8, h9, h10, h11, h12, h13, h14, h15, h16, fun _ => rfl, h18, fun _ => rfl, h20, h21, h22, h23, h24, h25, h26, h27, h28, h29⟩
      case o20 =>
        intro d a v hd hr hJ; refine Pc6.elim hJ ?_; intro s24 s25 s26 s27 s28 s29 s30 s31 s32 s33 s34 s35 s36 s37 s38 s39 s40 s41 s42 s43 s44 s45 s46 s47 s48 s49 s50 s51 s52 s4 e HS h0 h1 h2 h3 h4 h5 h6 h7 h8 h9 h10 h11 h12 h13 h14 h15 h16 h17 h18 h19 h20 h21 h22 h23 h24 h25 h26 h27 h28 h29; subst e
        have e18 : d 18 = true := by first | exact hr.1 rfl | exact hr.2.1 rfl | exact hr.2.2.1 rfl | exact hr.2.2.2.1 rfl | exact hr.2.2.2.2.1 rfl
        obtain rfl := h18 e18
        have e19 : d 19 = true := by first | exact hr.1 rfl | exact hr.2.1 rfl | exact hr.2.2.1 rfl | exact hr.2.2.2.1 rfl | exact hr.2.2.2.2.1 rfl
        obtain rfl := h19 e19
        have e17 : d 17 = true := by first | exact hr.1 rfl | exact hr.2.1 rfl | exact hr.2.2.1 rfl | exact hr.2.2.2.1 rfl | exact hr.2.2.2.2.1 rfl
        obtain rfl := h17 e17
        go_wp2_with fail
        exact ⟨s24, s25, s26, s27, s28, s29, s30, s31, s32, s33, s34, s35, s36, s37, s38, s39, s40, _, _, _, _, s45, s46, s47, s48, s49, s50, s51, s52, s4, rfl, HS, h0, h1, h2, h3, h4, h5, h6, h7, h8, h9, h10, h11, h12, h13, h14, h15, h16, fun _ => rfl, fun _ => rfl, fun _ => rfl, fun _ => rfl, h21, h22, h23, h24, h25, h26, h27, h28, h29⟩
      case o21 =>
        intro d a v hd hr hJ; refine Pc6.elim hJ ?_; intro s24 s25 s26 s27 s28 s29 s30 s31 s32 s33 s34 s35 s36 s37 s38 s39 s40 s41 s42 s43 s44 s45 s46 s47 s48 s49 s50 s51 s52 s4 e HS h0 h1 h2 h3 h4 h5 h6 h7 h8 h9 h10 h11 h12 h13 h14 h15 h16 h17 h18 h19 h20 h21 h22 h23 h24 h25 h26 h27 h28 h29; subst e
        have e17 : d 17 = true := by first | exact hr.1 rfl | exact hr.2.1 rfl | exact hr.2.2.1 rfl | exact hr.2.2.2.1 rfl | exact hr.2.2.2.2.1 rfl
        obtain rfl := h17 e17
        go_wp2_with fail
        exact ⟨s24, s25, s26, s27, s28, s29, s30, s31, s32, s33, s34, s35, s36, s37, s38, s39, s40, _, s42, s43, s44, _, s46, s47, s48, s49, s50, s51, s52, s4, rfl, HS, h0, h1, h2, h3, h4, h5, h6, h7, h8, h9, h10, h11, h12, h13, h14, h15, h16, fun _ => rfl, h18, h19, h20, fun _ => rfl, h22, h23, h24, h25, h26, h27, h28, h29⟩
      case o22 =>
        intro d a v hd hr hJ; refine Pc6.elim hJ ?_; intro s24 s25 s26 s27 s28 s29 s30 s31 s32 s33 s34 s35 s36 s37 s38 s39 s40 s41 s42 s43 s44 s45 s46 s47 s48 s49 s50 s51 s52 s4 e HS h0 h1 h2 h3 h4 h5 h6 h7 h8 h9 h10 h11 h12 h13 h14 h15 h16 h17 h18 h19 h20 h21 h22 h23 h24 h25 h26 h27 h28 h29; subst e
        have e17 : d 17 = true := by first | exact hr.1 rfl | exact hr.2.1 rfl | exact hr.2.2.1 rfl | exact hr.2.2.2.1 rfl | exact hr.2.2.2.2.1 rfl
        obtain rfl := h17 e17
        go_wp2_with fail
        exact ⟨s24, s25, s26, s27, s28, s29, s30, s31, s32, s33, s34, s35, s36, s37, s38, s39, s40, _, s42, s43, s44, s45, _, s47, s48, s49, s50, s51, s52, s4, rfl, HS, h0, h1, h2, h3, h4, h5, h6, h7, h8, h9, h10, h11, h12, h13, h14, h15, h16, fun _ => rfl, h18, h19, h20, h21, fun _ => rfl, h23, h24, h25, h26, h27, h28, h29⟩
      case o23 =>
        intro d a v hd hr hJ; refine Pc6.elim hJ ?_; intro s24 s25 s26 s27 s28 s29 s30 s31 s32 s33 s34 s35 s36 s37 s38 s39 s40 s41 s42 s43 s44 s45 s46 s47 s48 s49 s50 s51 s52 s4 e HS h0 h1 h2 h3 h4 h5 h6 h7 h8 h9 h10 h11 h12 h13 h14 h15 h16 h17 h18 h19 h20 h21 h22 h23 h24 h25 h26 h27 h28 h29; subst e
        have e21 : d 21 = true := by first | exact hr.1 rfl | exact hr.2.1 rfl | exact hr.2.2.1 rfl | exact hr.2.2.2.1 rfl | exact hr.2.2.2.2.1 rfl
        obtain rfl := h21 e21
        have e22 : d 22 = true := by first | exact hr.1 rfl | exact hr.2.1 rfl | exact hr.2.2.1 rfl | exact hr.2.2.2.1 rfl | exact hr.2.2.2.2.1 rfl
        obtain rfl := h22 e22
        have e17 : d 17 = true := by first | exact hr.1 rfl | exact hr.2.1 rfl | exact hr.2.2.1 rfl | exact hr.2.2.2.1 rfl | exact hr.2.2.2.2.1 rfl
        obtain rfl := h17 e17
        go_wp2_with fail
        exact ⟨s24, s25, s26, s27, s28, s29, s30, s31, s32, s33, s34, s35, s36, s37, s38, s39, s40, _, s42, s43, s44, _, _, _, s48, s49, s50, s51, s52, s4, rfl, HS, h0, h1, h2, h3, h4, h5, h6, h7, h8, h9, h10, h11, h12, h13, h14, h15, h16, fun _ => rfl, h18, h19, h20, fun _ => rfl, fun _ => rfl, fun _ => rfl, h24, h25, h26, h27, h28, h29⟩
      case o24 =>
        intro d a v hd hr hJ; refine Pc6.elim hJ ?_; intro s24 s25 s26 s27 s28 s29 s30 s31 s32 s33 s34 s35 s36 s37 s38 s39 s40 s41 s42 s43 s44 s45 s46 s47 s48 s49 s50 s51 s52 s4 e HS h0 h1 h2 h3 h4 h5 h6 h7 h8 h9 h10 h11 h12 h13 h14 h15 h16 h17 h18 h19 h20 h21 h22 h23 h24 h25 h26 h27 h28 h29; subst e
        have e20 : d 20 = true := by first | exact hr.1 rfl | exact hr.2.1 rfl | exact hr.2.2.1 rfl | exact hr.2.2.2.1 rfl | exact hr.2.2.2.2.1 rfl
        obtain rfl := h20 e20
        have e23 : d 23 = true := by first | exact hr.1 rfl | exact hr.2.1 rfl | exact hr.2.2.1 rfl | exact hr.2.2.2.1 rfl | exact hr.2.2.2.2.1 rfl
        obtain rfl := h23 e23
        have e17 : d 17 = true := by first | exact hr.1 rfl | exact hr.2.1 rfl | exact hr.2.2.1 rfl | exact hr.2.2.2.1 rfl | exact hr.2.2.2.2.1 rfl
        obtain rfl := h17 e17
        go_wp2_with fail
        exact ⟨s24, s25, s26, s27, s28, s29, s30, s31, s32, s33, s34, s35, s36, s37, s38, s39, s40, _, s42, s43, _, s45, s46, _, _, s49, s50, s51, s52, s4, rfl, HS.below ((Below.refl _ v).alloc (Nat.le_refl _) _), h0, h1, h2, h3, h4, h5, fun q => (h6 q).below ((Below.refl _ v).alloc (Nat.le_refl _) _), h7, h8, h9, h10, h11, fun q => (h12 q).below ((Below.refl _ v).alloc (Nat.le_refl _) _), h13, h14, h15, h16, fun _ => rfl, h18, h19, fun _ => rfl, h21, h22, fun _ => rfl, fun _ => Bx.new _ _ _ _, h25, h26, h27, h28, h29⟩
      case o25 =>
        intro d a v hd hr hJ; refine Pc6.elim hJ ?_; intro s24 s25 s26 s27 s28 s29 s30 s31 s32 s33 s34 s35 s36 s37 s38 s39 s40 s41 s42 s43 s44 s45 s46 s47 s48 s49 s50 s51 s52 s4 e HS h0 h1 h2 h3 h4 h5 h6 h7 h8 h9 h10 h11 h12 h13 h14 h15 h16 h17 h18 h19 h20 h21 h22 h23 h24 h25 h26 h27 h28 h29; subst e
        have e24 : d 24 = true := by first | exact hr.1 rfl | exact hr.2.1 rfl | exact hr.2.2.1 rfl | exact hr.2.2.2.1 rfl | exact hr.2.2.2.2.1 rfl
        obtain ⟨g24, t24, rfl, m24⟩ := h24 e24
        have e17 : d 17 = true := by first | exact hr.1 rfl | exact hr.2.1 rfl | exact hr.2.2.1 rfl | exact hr.2.2.2.1 rfl | exact hr.2.2.2.2.1 rfl
        obtain rfl := h17 e17
        go_wp2_with fail
        refine (sum_gap g24 t24 A A ca 0 ca 0 3 f (fun i => f (ca + i)) _ V E1.out m24 (HS.a.take Hk.out) Hf.out Hc1.out hca HS.t Hfk.out Hc2.out Hc3.out).mono ?_
        rintro e v' ⟨rfl, hw⟩
        go_wp2_with fail
        exact ⟨s24, s25, s26, s27, s28, s29, s30, s31, s32, s33, s34, s35, s36, s37, s38, s39, s40, _, s42, s43, s44, s45, s46, s47, _, _, s50, s51, s52, s4, rfl, HS.below hw, h0, h1, h2, h3, h4, h5, fun q => (h6 q).below hw, h7, h8, h9, h10, h11, fun q => (h12 q).below hw, h13, h14, h15, h16, fun _ => rfl, h18, h19, h20, h21, h22, h23, fun _ => Bx.below ⟨g24, t24, rfl, m24⟩ hw, fun _ => rfl, h26, h27, h28, h29⟩
      case o26 =>
        intro d a v hd hr hJ; refine Pc6.elim hJ ?_; intro s24 s25 s26 s27 s28 s29 s30 s31 s32 s33 s34 s35 s36 s37 s38 s39 s40 s41 s42 s43 s44 s45 s46 s47 s48 s49 s50 s51 s52 s4 e HS h0 h1 h2 h3 h4 h5 h6 h7 h8 h9 h10 h11 h12 h13 h14 h15 h16 h17 h18 h19 h20 h21 h22 h23 h24 h25 h26 h27 h28 h29; subst e
        have e17 : d 17 = true := by first | exact hr.1 rfl | exact hr.2.1 rfl | exact hr.2.2.1 rfl | exact hr.2.2.2.1 rfl | exact hr.2.2.2.2.1 rfl
        obtain rfl := h17 e17
        go_wp2_with fail
        exact ⟨s24, s25, s26, s27, s28, s29, s30, s31, s32, s33, s34, s35, s36, s37, s38, s39, s40, _, s42, s43, s44, s45, s46, s47, s48, s49, _, s51, s52, s4, rfl, HS, h0, h1, h2, h3, h4, h5, h6, h7, h8, h9, h10, h11, h12, h13, h14, h15, h16, fun _ => rfl, h18, h19, h20, h21, h22, h23, h24, h25, fun _ => rfl, h27, h28, h29⟩
      case o27 =>
        intro d a v hd hr hJ; refine Pc6.elim hJ ?_; intro s24 s25 s26 s27 s28 s29 s30 s31 s32 s33 s34 s35 s36 s37 s38 s39 s40 s41 s42 s43 s44 s45 s46 s47 s48 s49 s50 s51 s52 s4 e HS h0 h1 h2 h3 h4 h5 h6 h7 h8 h9 h10 h11 h12 h13 h14 h15 h16 h17 h18 h19 h20 h21 h22 h23 h24 h25 h26 h27 h28 h29; subst e
        have e25 : d 25 = true := by first | exact hr.1 rfl | exact hr.2.1 rfl | exact hr.2.2.1 rfl | exact hr.2.2.2.1 rfl | exact hr.2.2.2.2.1 rfl
        obtain rfl := h25 e25
        have e26 : d 26 = true := by first | exact hr.1 rfl | exact hr.2.1 rfl | exact hr.2.2.1 rfl | exact hr.2.2.2.1 rfl | exact hr.2.2.2.2.1 rfl
        obtain rfl := h26 e26
        have e17 : d 17 = true := by first | exact hr.1 rfl | exact hr.2.1 rfl | exact hr.2.2.1 rfl | exact hr.2.2.2.1 rfl | exact hr.2.2.2.2.1 rfl
        obtain rfl := h17 e17
        go_wp2_with fail
        exact ⟨s24, s25, s26, s27, s28, s29, s30, s31, s32, s33, s34, s35, s36, s37, s38, s39, s40, _, s42, s43, s44, s45, s46, s47, s48, _, _, _, s52, s4, rfl, HS, h0, h1, h2, h3, h4, h5, h6, h7, h8, h9, h10, h11, h12, h13, h14, h15, h16, fun _ => rfl, h18, h19, h20, h21, h22, h23, h24, fun _ => rfl, fun _ => rfl, fun _ => rfl, h28, h29⟩
      case o28 =>
        intro d a v hd hr hJ; refine Pc6.elim hJ ?_; intro s24 s25 s26 s27 s28 s29 s30 s31 s32 s33 s34 s35 s36 s37 s38 s39 s40 s41 s42 s43 s44 s45 s46 s47 s48 s49 s50 s51 s52 s4 e HS h0 h1 h2 h3 h4 h5 h6 h7 h8 h9 h10 h11 h12 h13 h14 h15 h16 h17 h18 h19 h20 h21 h22 h23 h24 h25 h26 h27 h28 h29; subst e
        have e17 : d 17 = true := by first | exact hr.1 rfl | exact hr.2.1 rfl | exact hr.2.2.1 rfl | exact hr.2.2.2.1 rfl | exact hr.2.2.2.2.1 rfl
        obtain rfl := h17 e17
        have e27 : d 27 = true := by first | exact hr.1 rfl | exact hr.2.1 rfl | exact hr.2.2.1 rfl | exact hr.2.2.2.1 rfl | exact hr.2.2.2.2.1 rfl
        obtain rfl := h27 e27
        go_wp2_with fail
        exact ⟨s24, s25, s26, s27, s28, s29, s30, s31, s32, s33, s34, s35, s36, s37, s38, s39, s40, _, s42, s43, s44, s45, s46, s47, s48, s49, s50, _, _, s4, rfl, HS, h0, h1, h2, h3, h4, h5, h6, h7, h8, h9, h10, h11, h12, h13, h14, h15, h16, fun _ => rfl, h18, h19, h20, h21, h22, h23, h24, h25, h26, fun _ => rfl, fun _ => rfl, h29⟩
      case o29 =>
        intro d a v hd hr hJ; refine Pc6.elim hJ ?_; intro s24 s25 s26 s27 s28 s29 s30 s31 s32 s33 s34 s35 s36 s37 s38 s39 s40 s41 s42 s43 s44 s45 s46 s47 s48 s49 s50 s51 s52 s4 e HS h0 h1 h2 h3 h4 h5 h6 h7 h8 h9 h10 h11 h12 h13 h14 h15 h16 h17 h18 h19 h20 h21 h22 h23 h24 h25 h26 h27 h28 h29; subst e
        have e28 : d 28 = true := by first | exact hr.1 rfl | exact hr.2.1 rfl | exact hr.2.2.1 rfl | exact hr.2.2.2.1 rfl | exact hr.2.2.2.2.1 rfl
        obtain rfl := h28 e28
        go_wp2_with fail
        exact ⟨s24, s25, s26, s27, s28, s29, s30, s31, s32, s33, s34, s35, s36, s37, s38, s39, s40, s41, s42, s43, s44, s45, s46, s47, s48, s49, s50, s51, _, _, rfl, HS, h0, h1, h2, h3, h4, h5, h6, h7, h8, h9, h10, h11, h12, h13, h14, h15, h16, h17, h18, h19, h20, h21, h22, h23, h24, h25, h26, h27, fun _ => rfl, fun _ => rfl⟩
    case he =>
      intro d a v hd hJ; refine Pc6.elim hJ ?_; intro s24 s25 s26 s27 s28 s29 s30 s31 s32 s33 s34 s35 s36 s37 s38 s39 s40 s41 s42 s43 s44 s45 s46 s47 s48 s49 s50 s51 s52 s4 e HS _ _ _ _ _ _ _ _ _ _ _ _ _ _ _ _ _ _ _ _ _ _ _ _ _ _ _ _ _ hz; subst e
      obtain rfl := hz (hd 29 (by decide))
      go_wp2_with fail
      go_ret
      exact ⟨rfl, HS.old⟩
  · have H2 : Hid (PcSt w A (Option.map (fun x => x.add k) A) la f k (la - k) w2) := ⟨H2.out, HA.out.old H2.out, (HA.out.old H2.out).from_ Hk.out⟩
    refine wp_region_steps (by kernel_rfl) (by kernel_rfl) (Pc6 w A (Option.map (fun x => x.add k) A) la ca f k (la - k) (ca - k) V _ _ _ _ _ _ _ _ _ _ _ _ _ _ _ _ _ _ _ _) ⟨_, _, _, _, _, _, _, _, _, _, _, _, _, _, _, _, _, _, _, _, _, _, _, _, _, _, _, _, _, _, rfl, H2.out.drew, (fun e => Bool.noConfusion e), (fun e => Bool.noConfusion e), (fun e => Bool.noConfusion e), (fun e => Bool.noConfusion e), (fun e => Bool.noConfusion e), (fun e => Bool.noConfusion e), (fun e => Bool.noConfusion e), (fun e => Bool.noConfusion e), (fun e => Bool.noConfusion e), (fun e => Bool.noConfusion e), (fun e => Bool.noConfusion e), (fun e => Bool.noConfusion e), (fun e => Bool.noConfusion e), (fun e => Bool.noConfusion e), (fun e => Bool.noConfusion e), (fun e => Bool.noConfusion e), (fun e => Bool.noConfusion e), (fun e => Bool.noConfusion e), (fun e => Bool.noConfusion e), (fun e => Bool.noConfusion e), (fun e => Bool.noConfusion e), (fun e => Bool.noConfusion e), (fun e => Bool.noConfusion e), (fun e => Bool.noConfusion e), (fun e => Bool.noConfusion e), (fun e => Bool.noConfusion e), (fun e => Bool.noConfusion e), (fun e => Bool.noConfusion e), (fun e => Bool.noConfusion e), (fun e => Bool.noConfusion e)⟩ ?hs ?he
    case hs =>
      go_tidy
      refine ⟨?o0, ?o1, ?o2, ?o3, ?o4, ?o5, ?o6, ?o7, ?o8, ?o9, ?o10, ?o11, ?o12, ?o13, ?o14, ?o15, ?o16, ?o17, ?o18, ?o19, ?o20, ?o21, ?o22, ?o23, ?o24, ?o25, ?o26, ?o27, ?o28, ?o29, trivial⟩
      case o0 =>
        intro d a v hd hr hJ; refine Pc6.elim hJ ?_; intro s24 s25 s26 s27 s28 s29 s30 s31 s32 s33 s34 s35 s36 s37 s38 s39 s40 s41 s42 s43 s44 s45 s46 s47 s48 s49 s50 s51 s52 s4 e HS h0 h1 h2 h3 h4 h5 h6 h7 h8 h9 h10 h11 h12 h13 h14 h15 h16 h17 h18 h19 h20 h21 h22 h23 h24 h25 h26 h27 h28 h29; subst e
        go_wp2_with fail
        exact ⟨_, s25, s26, s27, s28, s29, s30, s31, s32, s33, s34, s35, s36, s37, s38, s39, s40, s41, s42, s43, s44, s45, s46, s47, s48, s49, s50, s51, s52, s4, rfl, HS, fun _ => rfl, h1, h2, h3, h4, h5, h6, h7, h8, h9, h10, h11, h12, h13, h14, h15, h16, h17, h18, h19, h20, h21, h22, h23, h24, h25, h26, h27, h28, h29⟩
      case o1 =>
        intro d a v hd hr hJ; refine Pc6.elim hJ ?_; intro s24 s25 s26 s27 s28 s29 s30 s31 s32 s33 s34 s35 s36 s37 s38 s39 s40 s41 s42 s43 s44 s45 s46 s47 s48 s49 s50 s51 s52 s4 e HS h0 h1 h2 h3 h4 h5 h6 h7 h8 h9 h10 h11 h12 h13 h14 h15 h16 h17 h18 h19 h20 h21 h22 h23 h24 h25 h26 h27 h28 h29; subst e
        go_wp2_with fail
        exact ⟨s24, _, s26, s27, s28, s29, s30, s31, s32, s33, s34, s35, s36, s37, s38, s39, s40, s41, s42, s43, s44, s45, s46, s47, s48, s49, s50, s51, s52, s4, rfl, HS, h0, fun _ => rfl, h2, h3, h4, h5, h6, h7, h8, h9, h10, h11, h12, h13, h14, h15, h16, h17, h18, h19, h20, h21, h22, h23, h24, h25, h26, h27, h28, h29⟩
      case o2 =>
        intro d a v hd hr hJ; refine Pc6.elim hJ ?_; intro s24 s25 s26 s27 s28 s29 s30 s31 s32 s33 s34 s35 s36 s37 s38 s39 s40 s41 s42 s43 s44 s45 s46 s47 s48 s49 s50 s51 s52 s4 e HS h0 h1 h2 h3 h4 h5 h6 h7 h8 h9 h10 h11 h12 h13 h14 h15 h16 h17 h18 h19 h20 h21 h22 h23 h24 h25 h26 h27 h28 h29; subst e
        have e0 : d 0 = true := by first | exact hr.1 rfl | exact hr.2.1 rfl | exact hr.2.2.1 rfl | exact hr.2.2.2.1 rfl | exact hr.2.2.2.2.1 rfl
        obtain rfl := h0 e0
        have e1 : d 1 = true := by first | exact hr.1 rfl | exact hr.2.1 rfl | exact hr.2.2.1 rfl | exact hr.2.2.2.1 rfl | exact hr.2.2.2.2.1 rfl
        obtain rfl := h1 e1
        go_wp2_with fail
        exact ⟨_, _, _, s27, s28, s29, s30, s31, s32, s33, s34, s35, s36, s37, s38, s39, s40, s41, s42, s43, s44, s45, s46, s47, s48, s49, s50, s51, s52, s4, rfl, HS, fun _ => rfl, fun _ => rfl, fun _ => rfl, h3, h4, h5, h6, h7, h8, h9, h10, h11, h12, h13, h14, h15, h16, h17, h18, h19, h20, h21, h22, h23, h24, h25, h26, h27, h28, h29⟩
      case o3 =>
        intro d a v hd hr hJ; refine Pc6.elim hJ ?_; intro s24 s25 s26 s27 s28 s29 s30 s31 s32 s33 s34 s35 s36 s37 s38 s39 s40 s41 s42 s43 s44 s45 s46 s47 s48 s49 s50 s51 s52 s4 e HS h0 h1 h2 h3 h4 h5 h6 h7 h8 h9 h10 h11 h12 h13 h14 h15 h16 h17 h18 h19 h20 h21 h22 h23 h24 h25 h26 h27 h28 h29; subst e
        go_wp2_with fail
        exact ⟨s24, s25, s26, _, s28, s29, s30, s31, s32, s33, s34, s35, s36, s37, s38, s39, s40, s41, s42, s43, s44, s45, s46, s47, s48, s49, s50, s51, s52, s4, rfl, HS, h0, h1, h2, fun _ => rfl, h4, h5, h6, h7, h8, h9, h10, h11, h12, h13, h14, h15, h16, h17, h18, h19, h20, h21, h22, h23, h24, h25, h26, h27, h28, h29⟩
      case o4 =>
        intro d a v hd hr hJ; refine Pc6.elim hJ ?_; intro s24 s25 s26 s27 s28 s29 s30 s31 s32 s33 s34 s35 s36 s37 s38 s39 s40 s41 s42 s43 s44 s45 s46 s47 s48 s49 s50 s51 s52 s4 e HS h0 h1 h2 h3 h4 h5 h6 h7 h8 h9 h10 h11 h12 h13 h14 h15 h16 h17 h18 h19 h20 h21 h22 h23 h24 h25 h26 h27 h28 h29; subst e
        go_wp2_with fail
        exact ⟨s24, s25, s26, s27, _, s29, s30, s31, s32, s33, s34, s35, s36, s37, s38, s39, s40, s41, s42, s43, s44, s45, s46, s47, s48, s49, s50, s51, s52, s4, rfl, HS, h0, h1, h2, h3, fun _ => rfl, h5, h6, h7, h8, h9, h10, h11, h12, h13, h14, h15, h16, h17, h18, h19, h20, h21, h22, h23, h24, h25, h26, h27, h28, h29⟩
      case o5 =>
        intro d a v hd hr hJ; refine Pc6.elim hJ ?_; intro s24 s25 s26 s27 s28 s29 s30 s31 s32 s33 s34 s35 s36 s37 s38 s39 s40 s41 s42 s43 s44 s45 s46 s47 s48 s49 s50 s51 s52 s4 e HS h0 h1 h2 h3 h4 h5 h6 h7 h8 h9 h10 h11 h12 h13 h14 h15 h16 h17 h18 h19 h20 h21 h22 h23 h24 h25 h26 h27 h28 h29; subst e
        have e3 : d 3 = true := by first | exact hr.1 rfl | exact hr.2.1 rfl | exact hr.2.2.1 rfl | exact hr.2.2.2.1 rfl | exact hr.2.2.2.2.1 rfl
        obtain rfl := h3 e3
        have e4 : d 4 = true := by first | exact hr.1 rfl | exact hr.2.1 rfl | exact hr.2.2.1 rfl | exact hr.2.2.2.1 rfl | exact hr.2.2.2.2.1 rfl
        obtain rfl := h4 e4
        go_wp2_with fail
        exact ⟨s24, s25, s26, _, _, _, s30, s31, s32, s33, s34, s35, s36, s37, s38, s39, s40, s41, s42, s43, s44, s45, s46, s47, s48, s49, s50, s51, s52, s4, rfl, HS, h0, h1, h2, fun _ => rfl, fun _ => rfl, fun _ => rfl, h6, h7, h8, h9, h10, h11, h12, h13, h14, h15, h16, h17, h18, h19, h20, h21, h22, h23, h24, h25, h26, h27, h28, h29⟩
      case o6 =>
        intro d a v hd hr hJ; refine Pc6.elim hJ ?_; intro s24 s25 s26 s27 s28 s29 s30 s31 s32 s33 s34 s35 s36 s37 s38 s39 s40 s41 s42 s43 s44 s45 s46 s47 s48 s49 s50 s51 s52 s4 e HS h0 h1 h2 h3 h4 h5 h6 h7 h8 h9 h10 h11 h12 h13 h14 h15 h16 h17 h18 h19 h20 h21 h22 h23 h24 h25 h26 h27 h28 h29; subst e
        have e2 : d 2 = true := by first | exact hr.1 rfl | exact hr.2.1 rfl | exact hr.2.2.1 rfl | exact hr.2.2.2.1 rfl | exact hr.2.2.2.2.1 rfl
        obtain rfl := h2 e2
        have e5 : d 5 = true := by first | exact hr.1 rfl | exact hr.2.1 rfl | exact hr.2.2.1 rfl | exact hr.2.2.2.1 rfl | exact hr.2.2.2.2.1 rfl
        obtain rfl := h5 e5
        go_wp2_with fail
        exact ⟨s24, s25, _, s27, s28, _, _, s31, s32, s33, s34, s35, s36, s37, s38, s39, s40, s41, s42, s43, s44, s45, s46, s47, s48, s49, s50, s51, s52, s4, rfl, HS.below ((Below.refl _ v).alloc (Nat.le_refl _) _), h0, h1, fun _ => rfl, h3, h4, fun _ => rfl, fun _ => Bx.new _ _ _ _, h7, h8, h9, h10, h11, fun q => (h12 q).below ((Below.refl _ v).alloc (Nat.le_refl _) _), h13, h14, h15, h16, h17, h18, h19, h20, h21, h22, h23, fun q => (h24 q).below ((Below.refl _ v).alloc (Nat.le_refl _) _), h25, h26, h27, h28, h29⟩
      case o7 =>
        intro d a v hd hr hJ; refine Pc6.elim hJ ?_; intro s24 s25 s26 s27 s28 s29 s30 s31 s32 s33 s34 s35 s36 s37 s38 s39 s40 s41 s42 s43 s44 s45 s46 s47 s48 s49 s50 s51 s52 s4 e HS h0 h1 h2 h3 h4 h5 h6 h7 h8 h9 h10 h11 h12 h13 h14 h15 h16 h17 h18 h19 h20 h21 h22 h23 h24 h25 h26 h27 h28 h29; subst e
        have e6 : d 6 = true := by first | exact hr.1 rfl | exact hr.2.1 rfl | exact hr.2.2.1 rfl | exact hr.2.2.2.1 rfl | exact hr.2.2.2.2.1 rfl
        obtain ⟨g6, t6, rfl, m6⟩ := h6 e6
        go_wp2_with fail
        refine (sum_two g6 t6 A (Option.map (fun x => x.add k) A) k (la - k) ca (ca - k) 2 f (fun i => f (k + i)) _ V E1.out m6 (HS.a.take Hk.out) Hf.out Hc1.out hca HS.t Hfk.out Hc2.out Hc3.out).mono ?_
        rintro e v' ⟨rfl, hw⟩
        go_wp2_with fail
        exact ⟨s24, s25, s26, s27, s28, s29, _, _, s32, s33, s34, s35, s36, s37, s38, s39, s40, s41, s42, s43, s44, s45, s46, s47, s48, s49, s50, s51, s52, s4, rfl, HS.below hw, h0, h1, h2, h3, h4, h5, fun _ => Bx.below ⟨g6, t6, rfl, m6⟩ hw, fun _ => rfl, h8, h9, h10, h11, fun q => (h12 q).below hw, h13, h14, h15, h16, h17, h18, h19, h20, h21, h22, h23, fun q => (h24 q).below hw, h25, h26, h27, h28, h29⟩
      case o8 =>
        intro d a v hd hr hJ; refine Pc6.elim hJ ?_; intro s24 s25 s26 s27 s28 s29 s30 s31 s32 s33 s34 s35 s36 s37 s38 s39 s40 s41 s42 s43 s44 s45 s46 s47 s48 s49 s50 s51 s52 s4 e HS h0 h1 h2 h3 h4 h5 h6 h7 h8 h9 h10 h11 h12 h13 h14 h15 h16 h17 h18 h19 h20 h21 h22 h23 h24 h25 h26 h27 h28 h29; subst e
        go_wp2_with fail
        exact ⟨s24, s25, s26, s27, s28, s29, s30, s31, _, s33, s34, s35, s36, s37, s38, s39, s40, s41, s42, s43, s44, s45, s46, s47, s48, s49, s50, s51, s52, s4, rfl, HS, h0, h1, h2, h3, h4, h5, h6, h7, fun _ => rfl, h9, h10, h11, h12, h13, h14, h15, h16, h17, h18, h19, h20, h21, h22, h23, h24, h25, h26, h27, h28, h29⟩
      case o9 =>
        intro d a v hd hr hJ; refine Pc6.elim hJ ?_; intro s24 s25 s26 s27 s28 s29 s30 s31 s32 s33 s34 s35 s36 s37 s38 s39 s40 s41 s42 s43 s44 s45 s46 s47 s48 s49 s50 s51 s52 s4 e HS h0 h1 h2 h3 h4 h5 h6 h7 h8 h9 h10 h11 h12 h13 h14 h15 h16 h17 h18 h19 h20 h21 h22 h23 h24 h25 h26 h27 h28 h29; subst e
        have e7 : d 7 = true := by first | exact hr.1 rfl | exact hr.2.1 rfl | exact hr.2.2.1 rfl | exact hr.2.2.2.1 rfl | exact hr.2.2.2.2.1 rfl
        obtain rfl := h7 e7
        have e8 : d 8 = true := by first | exact hr.1 rfl | exact hr.2.1 rfl | exact hr.2.2.1 rfl | exact hr.2.2.2.1 rfl | exact hr.2.2.2.2.1 rfl
        obtain rfl := h8 e8
        go_wp2_with fail
        exact ⟨s24, s25, s26, s27, s28, s29, s30, _, _, _, s34, s35, s36, s37, s38, s39, s40, s41, s42, s43, s44, s45, s46, s47, s48, s49, s50, s51, s52, s4, rfl, HS, h0, h1, h2, h3, h4, h5, h6, fun _ => rfl, fun _ => rfl, fun _ => rfl, h10, h11, h12, h13, h14, h15, h16, h17, h18, h19, h20, h21, h22, h23, h24, h25, h26, h27, h28, h29⟩
      case o10 =>
        intro d a v hd hr hJ; refine Pc6.elim hJ ?_; intro s24 s25 s26 s27 s28 s29 s30 s31 s32 s33 s34 s35 s36 s37 s38 s39 s40 s41 s42 s43 s44 s45 s46 s47 s48 s49 s50 s51 s52 s4 e HS h0 h1 h2 h3 h4 h5 h6 h7 h8 h9 h10 h11 h12 h13 h14 h15 h16 h17 h18 h19 h20 h21 h22 h23 h24 h25 h26 h27 h28 h29; subst e
        have e9 : d 9 = true := by first | exact hr.1 rfl | exact hr.2.1 rfl | exact hr.2.2.1 rfl | exact hr.2.2.2.1 rfl | exact hr.2.2.2.2.1 rfl
        obtain rfl := h9 e9
        go_wp2_with fail
        exact ⟨s24, s25, s26, s27, s28, s29, s30, s31, s32, _, _, s35, s36, s37, s38, s39, s40, s41, s42, s43, s44, s45, s46, s47, s48, s49, s50, s51, s52, s4, rfl, HS, h0, h1, h2, h3, h4, h5, h6, h7, h8, fun _ => rfl, fun _ => rfl, h11, h12, h13, h14, h15, h16, h17, h18, h19, h20, h21, h22, h23, h24, h25, h26, h27, h28, h29⟩
      case o11 =>
        intro d a v hd hr hJ; refine Pc6.elim hJ ?_; intro s24 s25 s26 s27 s28 s29 s30 s31 s32 s33 s34 s35 s36 s37 s38 s39 s40 s41 s42 s43 s44 s45 s46 s47 s48 s49 s50 s51 s52 s4 e HS h0 h1 h2 h3 h4 h5 h6 h7 h8 h9 h10 h11 h12 h13 h14 h15 h16 h17 h18 h19 h20 h21 h22 h23 h24 h25 h26 h27 h28 h29; subst e
        have e10 : d 10 = true := by first | exact hr.1 rfl | exact hr.2.1 rfl | exact hr.2.2.1 rfl | exact hr.2.2.2.1 rfl | exact hr.2.2.2.2.1 rfl
        obtain rfl := h10 e10
        go_wp2_with fail
        exact ⟨s24, s25, s26, s27, s28, s29, s30, s31, s32, s33, _, _, s36, s37, s38, s39, s40, s41, s42, s43, s44, s45, s46, s47, s48, s49, s50, s51, s52, s4, rfl, HS, h0, h1, h2, h3, h4, h5, h6, h7, h8, h9, fun _ => rfl, fun _ => rfl, h12, h13, h14, h15, h16, h17, h18, h19, h20, h21, h22, h23, h24, h25, h26, h27, h28, h29⟩
      case o12 =>
        intro d a v hd hr hJ; refine Pc6.elim hJ ?_; intro s24 s25 s26 s27 s28 s29 s30 s31 s32 s33 s34 s35 s36 s37 s38 s39 s40 s41 s42 s43 s44 s45 s46 s47 s48 s49 s50 s51 s52 s4 e HS h0 h1 h2 h3 h4 h5 h6 h7 h8 h9 h10 h11 h12 h13 h14 h15 h16 h17 h18 h19 h20 h21 h22 h23 h24 h25 h26 h27 h28 h29; subst e
        have e11 : d 11 = true := by first | exact hr.1 rfl | exact hr.2.1 rfl | exact hr.2.2.1 rfl | exact hr.2.2.2.1 rfl | exact hr.2.2.2.2.1 rfl
        obtain rfl := h11 e11
        have e10 : d 10 = true := by first | exact hr.1 rfl | exact hr.2.1 rfl | exact hr.2.2.1 rfl | exact hr.2.2.2.1 rfl | exact hr.2.2.2.2.1 rfl
        obtain rfl := h10 e10
        go_wp2_with fail
        exact ⟨s24, s25, s26, s27, s28, s29, s30, s31, s32, s33, _, _, _, s37, s38, s39, s40, s41, s42, s43, s44, s45, s46, s47, s48, s49, s50, s51, s52, s4, rfl, HS.below ((Below.refl _ v).alloc (Nat.le_refl _) _), h0, h1, h2, h3, h4, h5, fun q => (h6 q).below ((Below.refl _ v).alloc (Nat.le_refl _) _), h7, h8, h9, fun _ => rfl, fun _ => rfl, fun _ => Bx.new _ _ _ _, h13, h14, h15, h16, h17, h18, h19, h20, h21, h22, h23, fun q => (h24 q).below ((Below.refl _ v).alloc (Nat.le_refl _) _), h25, h26, h27, h28, h29⟩
      case o13 =>
        intro d a v hd hr hJ; refine Pc6.elim hJ ?_; intro s24 s25 s26 s27 s28 s29 s30 s31 s32 s33 s34 s35 s36 s37 s38 s39 s40 s41 s42 s43 s44 s45 s46 s47 s48 s49 s50 s51 s52 s4 e HS h0 h1 h2 h3 h4 h5 h6 h7 h8 h9 h10 h11 h12 h13 h14 h15 h16 h17 h18 h19 h20 h21 h22 h23 h24 h25 h26 h27 h28 h29; subst e
        have e12 : d 12 = true := by first | exact hr.1 rfl | exact hr.2.1 rfl | exact hr.2.2.1 rfl | exact hr.2.2.2.1 rfl | exact hr.2.2.2.2.1 rfl
        obtain ⟨g12, t12, rfl, m12⟩ := h12 e12
        have e10 : d 10 = true := by first | exact hr.1 rfl | exact hr.2.1 rfl | exact hr.2.2.1 rfl | exact hr.2.2.2.1 rfl | exact hr.2.2.2.2.1 rfl
        obtain rfl := h10 e10
        go_wp2_with fail
        refine (sum_mid g12 t12 A la ca 3 f _ V EV.out m12 HS.a Hf.out hla hca).mono ?_
        rintro e v' ⟨rfl, hw⟩
        go_wp2_with fail
        exact ⟨s24, s25, s26, s27, s28, s29, s30, s31, s32, s33, _, s35, _, _, s38, s39, s40, s41, s42, s43, s44, s45, s46, s47, s48, s49, s50, s51, s52, s4, rfl, HS.below hw, h0, h1, h2, h3, h4, h5, fun q => (h6 q).below hw, h7, h8, h9, fun _ => rfl, h11, fun _ => Bx.below ⟨g12, t12, rfl, m12⟩ hw, fun _ => rfl, h14, h15, h16, h17, h18, h19, h20, h21, h22, h23, fun q => (h24 q).below hw, h25, h26, h27, h28, h29⟩
      case o14 =>
        intro d a v hd hr hJ; refine Pc6.elim hJ ?_; intro s24 s25 s26 s27 s28 s29 s30 s31 s32 s33 s34 s35 s36 s37 s38 s39 s40 s41 s42 s43 s44 s45 s46 s47 s48 s49 s50 s51 s52 s4 e HS h0 h1 h2 h3 h4 h5 h6 h7 h8 h9 h10 h11 h12 h13 h14 h15 h16 h17 h18 h19 h20 h21 h22 h23 h24 h25 h26 h27 h28 h29; subst e
        have e10 : d 10 = true := by first | exact hr.1 rfl | exact hr.2.1 rfl | exact hr.2.2.1 rfl | exact hr.2.2.2.1 rfl | exact hr.2.2.2.2.1 rfl
        obtain rfl := h10 e10
        go_wp2_with fail
        exact ⟨s24, s25, s26, s27, s28, s29, s30, s31, s32, s33, _, s35, s36, s37, _, s39, s40, s41, s42, s43, s44, s45, s46, s47, s48, s49, s50, s51, s52, s4, rfl, HS, h0, h1, h2, h3, h4, h5, h6, h7, h8, h9, fun _ => rfl, h11, h12, h13, fun _ => rfl, h15, h16, h17, h18, h19, h20, h21, h22, h23, h24, h25, h26, h27, h28, h29⟩
      case o15 =>
        intro d a v hd hr hJ; refine Pc6.elim hJ ?_; intro s24 s25 s26 s27 s28 s29 s30 s31 s32 s33 s34 s35 s36 s37 s38 s39 s40 s41 s42 s43 s44 s45 s46 s47 s48 s49 s50 s51 s52 s4 e HS h0 h1 h2 h3 h4 h5 h6 h7 h8 h9 h10 h11 h12 h13 h14 h15 h16 h17 h18 h19 h20 h21 h22 h23 h24 h25 h26 h27 h28 h29; subst e
        have e13 : d 13 = true := by first | exact hr.1 rfl | exact hr.2.1 rfl | exact hr.2.2.1 rfl | exact hr.2.2.2.1 rfl | exact hr.2.2.2.2.1 rfl
        obtain rfl := h13 e13
        have e14 : d 14 = true := by first | exact hr.1 rfl | exact hr.2.1 rfl | exact hr.2.2.1 rfl | exact hr.2.2.2.1 rfl | exact hr.2.2.2.2.1 rfl
        obtain rfl := h14 e14
        have e10 : d 10 = true := by first | exact hr.1 rfl | exact hr.2.1 rfl | exact hr.2.2.1 rfl | exact hr.2.2.2.1 rfl | exact hr.2.2.2.2.1 rfl
        obtain rfl := h10 e10
        go_wp2_with fail
        exact ⟨s24, s25, s26, s27, s28, s29, s30, s31, s32, s33, _, s35, s36, _, _, _, s40, s41, s42, s43, s44, s45, s46, s47, s48, s49, s50, s51, s52, s4, rfl, HS, h0, h1, h2, h3, h4, h5, h6, h7, h8, h9, fun _ => rfl, h11, h12, fun _ => rfl, fun _ => rfl, fun _ => rfl, h16, h17, h18, h19, h20, h21, h22, h23, h24, h25, h26, h27, h28, h29⟩
      case o16 =>
        intro d a v hd hr hJ; refine Pc6.elim hJ ?_; intro s24 s25 s26 s27 s28 s29 s30 s31 s32 s33 s34 s35 s36 s37 s38 s39 s40 s41 s42 s43 s44 s45 s46 s47 s48 s49 s50 s51 s52 s4 e HS h0 h1 h2 h3 h4 h5 h6 h7 h8 h9 h10 h11 h12 h13 h14 h15 h16 h17 h18 h19 h20 h21 h22 h23 h24 h25 h26 h27 h28 h29; subst e
        have e10 : d 10 = true := by first | exact hr.1 rfl | exact hr.2.1 rfl | exact hr.2.2.1 rfl | exact hr.2.2.2.1 rfl | exact hr.2.2.2.2.1 rfl
        obtain rfl := h10 e10
        have e15 : d 15 = true := by first | exact hr.1 rfl | exact hr.2.1 rfl | exact hr.2.2.1 rfl | exact hr.2.2.2.1 rfl | exact hr.2.2.2.2.1 rfl
        obtain rfl := h15 e15
        go_wp2_with fail
        exact ⟨s24, s25, s26, s27, s28, s29, s30, s31, s32, s33, _, s35, s36, s37, s38, _, _, s41, s42, s43, s44, s45, s46, s47, s48, s49, s50, s51, s52, s4, rfl, HS, h0, h1, h2, h3, h4, h5, h6, h7, h8, h9, fun _ => rfl, h11, h12, h13, h14, fun _ => rfl, fun _ => rfl, h17, h18, h19, h20, h21, h22, h23, h24, h25, h26, h27, h28, h29⟩
      case o17 =>
        intro d a v hd hr hJ; refine Pc6.elim hJ ?_; intro s24 s25 s26 s27 s28 s29 s30 s31 s32 s33 s34 s35 s36 s37 s38 s39 s40 s41 s42 s43 s44 s45 s46 s47 s48 s49 s50 s51 s52 s4 e HS h0 h1 h2 h3 h4 h5 h6 h7 h8 h9 h10 h11 h12 h13 h14 h15 h16 h17 h18 h19 h20 h21 h22 h23 h24 h25 h26 h27 h28 h29; subst e
        have e16 : d 16 = true := by first | exact hr.1 rfl | exact hr.2.1 rfl | exact hr.2.2.1 rfl | exact hr.2.2.2.1 rfl | exact hr.2.2.2.2.1 rfl
        obtain rfl := h16 e16
        go_wp2_with fail
        exact ⟨s24, s25, s26, s27, s28, s29, s30, s31, s32, s33, s34, s35, s36, s37, s38, s39, _, _, s42, s43, s44, s45, s46, s47, s48, s49, s50, s51, s52, s4, rfl, HS, h0, h1, h2, h3, h4, h5, h6, h7, h8, h9, h10, h11, h12, h13, h14, h15, fun _ => rfl, fun _ => rfl, h18, h19, h20, h21, h22, h23, h24, h25, h26, h27, h28, h29⟩
      case o18 =>
        intro d a v hd hr hJ; refine Pc6.elim hJ ?_; intro s24 s25 s26 s27 s28 s29 s30 s31 s32 s33 s34 s35 s36 s37 s38 s39 s40 s41 s42 s43 s44 s45 s46 s47 s48 s49 s50 s51 s52 s4 e HS h0 h1 h2 h3 h4 h5 h6 h7 h8 h9 h10 h11 h12 h13 h14 h15 h16 h17 h18 h19 h20 h21 h22 h23 h24 h25 h26 h27 h28 h29; subst e
        have e17 : d 17 = true := by first | exact hr.1 rfl | exact hr.2.1 rfl | exact hr.2.2.1 rfl | exact hr.2.2.2.1 rfl | exact hr.2.2.2.2.1 rfl
        obtain rfl := h17 e17
        go_wp2_with fail
        exact ⟨s24, s25, s26, s27, s28, s29, s30, s31, s32, s33, s34, s35, s36, s37, s38, s39, s40, _, _, s43, s44, s45, s46, s47, s48, s49, s50, s51, s52, s4, rfl, HS, h0, h1, h2, h3, h4, h5, h6, h7, h8, h9, h10, h11, h12, h13, h14, h15, h16, fun _ => rfl, fun _ => rfl, h19, h20, h21, h22, h23, h24, h25, h26, h27, h28, h29⟩
      case o19 =>
        intro d a v hd hr hJ; refine Pc6.elim hJ ?_; intro s24 s25 s26 s27 s28 s29 s30 s31 s32 s33 s34 s35 s36 s37 s38 s39 s40 s41 s42 s43 s44 s45 s46 s47 s48 s49 s50 s51 s52 s4 e HS h0 h1 h2 h3 h4 h5 h6 h7 h8 h9 h10 h11 h12 h13 h14 h15 h16 h17 h18 h19 h20 h21 h22 h23 h24 h25 h26 h27 h28 h29; subst e
        have e17 : d 17 = true := by first | exact hr.1 rfl | exact hr.2.1 rfl | exact hr.2.2.1 rfl | exact hr.2.2.2.1 rfl | exact hr.2.2.2.2.1 rfl
        obtain rfl := h17 e17
        go_wp2_with fail
        exact ⟨s24, s25, s26, s27, s28, s29, s30, s31, s32, s33, s34, s35, s36, s37, s38, s39, s40, _, s42, _, s44, s45, s46, s47, s48, s49, s50, s51, s52, s4, rfl, HS, h0, h1, h2, h3, h4, h5, h6, h7, h8, h9, h10, h11, h12, h13, h14, h15, h16, fun _ => rfl, h18, fun _ => rfl, h20, h21, h22, h23, h24, h25, h26, h27, h28, h29⟩
      case o20 =>
        intro d a v hd hr hJ; refine Pc6.elim hJ ?_; intro s24 s25 s26 s27 s28 s29 s30 s31 s32 s33 s34 s35 s36 s37 s38 s39 s40 s41 s42 s43 s44 s45 s46 s47 s48 s49 s50 s51 s52 s4 e HS h0 h1 h2 h3 h4 h5 h6 h7 h8 h9 h10 h11 h12 h13 h14 h15 h16 h17 h18 h19 h20 h21 h22 h23 h24 h25 h26 h27 h28 h29; subst e
        have e18 : d 18 = true := by first | exact hr.1 rfl | exact hr.2.1 rfl | exact hr.2.2.1 rfl | exact hr.2.2.2.1 rfl | exact hr.2.2.2.2.1 rfl
        obtain rfl := h18 e18
        have e19 : d 19 = true := by first | exact hr.1 rfl | exact hr.2.1 rfl | exact hr.2.2.1 rfl | exact hr.2.2.2.1 rfl | exact hr.2.2.2.2.1 rfl
        obtain rfl := h19 e19
        have e17 : d 17 = true := by first | exact hr.1 rfl | exact hr.2.1 rfl | exact hr.2.2.1 rfl | exact hr.2.2.2.1 rfl | exact hr.2.2.2.2.1 rfl
        obtain rfl := h17 e17
        go_wp2_with fail
        exact ⟨s24, s25, s26, s27, s28, s29, s30, s31, s32, s33, s34, s35, s36, s37, s38, s39, s40, _, _, _, _, s45, s46, s47, s48, s49, s50, s51, s52, s4, rfl, HS, h0, h1, h2, h3, h4, h5, h6, h7, h8, h9, h10, h11, h12, h13, h14, h15, h16, fun _ => rfl, fun _ => rfl, fun _ => rfl, fun _ => rfl, h21, h22, h23, h24, h25, h26, h27, h28, h29⟩
      case o21 =>
        intro d a v hd hr hJ; refine Pc6.elim hJ ?_; intro s24 s25 s26 s27 s28 s29 s30 s31 s32 s33 s34 s35 s36 s37 s38 s39 s40 s41 s42 s43 s44 s45 s46 s47 s48 s49 s50 s51 s52 s4 e HS h0 h1 h2 h3 h4 h5 h6 h7 h8 h9 h10 h11 h12 h13 h14 h15 h16 h17 h18 h19 h20 h21 h22 h23 h24 h25 h26 h27 h28 h29; subst e
        have e17 : d 17 = true := by first | exact hr.1 rfl | exact hr.2.1 rfl | exact hr.2.2.1 rfl | exact hr.2.2.2.1 rfl | exact hr.2.2.2.2.1 rfl
        obtain rfl := h17 e17
        go_wp2_with fail
        exact ⟨s24, s25, s26, s27, s28, s29, s30, s31, s32, s33, s34, s35, s36, s37, s38, s39, s40, _, s42, s43, s44, _, s46, s47, s48, s49, s50, s51, s52, s4, rfl, HS, h0, h1, h2, h3, h4, h5, h6, h7, h8, h9, h10, h11, h12, h13, h14, h15, h16, fun _ => rfl, h18, h19, h20, fun _ => rfl, h22, h23, h24, h25, h26, h27, h28, h29⟩
      case o22 =>
        intro d a v hd hr hJ; refine Pc6.elim hJ ?_; intro s24 s25 s26 s27 s28 s29 s30 s31 s32 s33 s34 s35 s36 s37 s38 s39 s40 s41 s42 s43 s44 s45 s46 s47 s48 s49 s50 s51 s52 s4 e HS h0 h1 h2 h3 h4 h5 h6 h7 h8 h9 h10 h11 h12 h13 h14 h15 h16 h17 h18 h19 h20 h21 h22 h23 h24 h25 h26 h27 h28 h29; subst e
        have e17 : d 17 = true := by first | exact hr.1 rfl | exact hr.2.1 rfl | exact hr.2.2.1 rfl | exact hr.2.2.2.1 rfl | exact hr.2.2.2.2.1 rfl
        obtain rfl := h17 e17
        go_wp2_with fail
        exact ⟨s24, s25, s26, s27, s28, s29, s30, s31, s32, s33, s34, s35, s36, s37, s38, s39, s40, _, s42, s43, s44, s45, _, s47, s48, s49, s50, s51, s52, s4, rfl, HS, h0, h1, h2, h3, h4, h5, h6, h7, h8, h9, h10, h11, h12, h13, h14, h15, h16, fun _ => rfl, h18, h19, h20, h21, fun _ => rfl, h23, h24, h25, h26, h27, h28, h29⟩
      case o23 =>
        intro d a v hd hr hJ; refine Pc6.elim hJ ?_; intro s24 s25 s26 s27 s28 s29 s30 s31 s32 s33 s34 s35 s36 s37 s38 s39 s40 s41 s42 s43 s44 s45 s46 s47 s48 s49 s50 s51 s52 s4 e HS h0 h1 h2 h3 h4 h5 h6 h7 h8 h9 h10 h11 h12 h13 h14 h15 h16 h17 h18 h19 h20 h21 h22 h23 h24 h25 h26 h27 h28 h29; subst e
        have e21 : d 21 = true := by first | exact hr.1 rfl | exact hr.2.1 rfl | exact hr.2.2.1 rfl | exact hr.2.2.2.1 rfl | exact hr.2.2.2.2.1 rfl
        obtain rfl := h21 e21
        have e22 : d 22 = true := by first | exact hr.1 rfl | exact hr.2.1 rfl | exact hr.2.2.1 rfl | exact hr.2.2.2.1 rfl | exact hr.2.2.2.2.1 rfl
        obtain rfl := h22 e22
        have e17 : d 17 = true := by first | exact hr.1 rfl | exact hr.2.1 rfl | exact hr.2.2.1 rfl | exact hr.2.2.2.1 rfl | exact hr.2.2.2.2.1 rfl
        obtain rfl := h17 e17
        go_wp2_with fail
        exact ⟨s24, s25, s26, s27, s28, s29, s30, s31, s32, s33, s34, s35, s36, s37, s38, s39, s40, _, s42, s43, s44, _, _, _, s48, s49, s50, s51, s52, s4, rfl, HS, h0, h1, h2, h3, h4, h5, h6, h7, h8, h9, h10, h11, h12, h13, h14, h15, h16, fun _ => rfl, h18, h19, h20, fun _ => rfl, fun _ => rfl, fun _ => rfl, h24, h25, h26, h27, h28, h29⟩
      case o24 =>
        intro d a v hd hr hJ; refine Pc6.elim hJ ?_; intro s24 s25 s26 s27 s28 s29 s30 s31 s32 s33 s34 s35 s36 s37 s38 s39 s40 s41 s42 s43 s44 s45 s46 s47 s48 s49 s50 s51 s52 s4 e HS h0 h1 h2 h3 h4 h5 h6 h7 h8 h9 h10 h11 h12 h13 h14 h15 h16 h17 h18 h19 h20 h21 h22 h23 h24 h25 h26 h27 h28 h29; subst e
        have e20 : d 20 = true := by first | exact hr.1 rfl | exact hr.2.1 rfl | exact hr.2.2.1 rfl | exact hr.2.2.2.1 rfl | exact hr.2.2.2.2.1 rfl
        obtain rfl := h20 e20
        have e23 : d 23 = true := by first | exact hr.1 rfl | exact hr.2.1 rfl | exact hr.2.2.1 rfl | exact hr.2.2.2.1 rfl | exact hr.2.2.2.2.1 rfl
        obtain rfl := h23 e23
        have e17 : d 17 = true := by first | exact hr.1 rfl | exact hr.2.1 rfl | exact hr.2.2.1 rfl | exact hr.2.2.2.1 rfl | exact hr.2.2.2.2.1 rfl
        obtain rfl := h17 e17
        go_wp2_with fail
        exact ⟨s24, s25, s26, s27, s28, s29, s30, s31, s32, s33, s34, s35, s36, s37, s38, s39, s40, _, s42, s43, _, s45, s46, _, _, s49, s50, s51, s52, s4, rfl, HS.below ((Below.refl _ v).alloc (Nat.le_refl _) _), h0, h1, h2, h3, h4, h5, fun q => (h6 q).below ((Below.refl _ v).alloc (Nat.le_refl _) _), h7, h8, h9, h10, h11, fun q => (h12 q).below ((Below.refl _ v).alloc (Nat.le_refl _) _), h13, h14, h15, h16, fun _ => rfl, h18, h19, fun _ => rfl, h21, h22, fun _ => rfl, fun _ => Bx.new _ _ _ _, h25, h26, h27, h28, h29⟩
      case o25 =>
        intro d a v hd hr hJ; refine Pc6.elim hJ ?_; intro s24 s25 s26 s27 s28 s29 s30 s31 s32 s33 s34 s35 s36 s37 s38 s39 s40 s41 s42 s43 s44 s45 s46 s47 s48 s49 s50 s51 s52 s4 e HS h0 h1 h2 h3 h4 h5 h6 h7 h8 h9 h10 h11 h12 h13 h14 h15 h16 h17 h18 h19 h20 h21 h22 h23 h24 h25 h26 h27 h28 h29; subst e
        have e24 : d 24 = true := by first | exact hr.1 rfl | exact hr.2.1 rfl | exact hr.2.2.1 rfl | exact hr.2.2.2.1 rfl | exact hr.2.2.2.2.1 rfl
        obtain ⟨g24, t24, rfl, m24⟩ := h24 e24
        have e17 : d 17 = true := by first | exact hr.1 rfl | exact hr.2.1 rfl | exact hr.2.2.1 rfl | exact hr.2.2.2.1 rfl | exact hr.2.2.2.2.1 rfl
        obtain rfl := h17 e17
        go_wp2_with fail
        refine (sum_gap g24 t24 A (Option.map (fun x => x.add k) A) k (la - k) ca (ca - k) 3 f (fun i => f (k + i)) _ V E1.out m24 (HS.a.take Hk.out) Hf.out Hc1.out hca HS.t Hfk.out Hc2.out Hc3.out).mono ?_
        rintro e v' ⟨rfl, hw⟩
        go_wp2_with fail
        exact ⟨s24, s25, s26, s27, s28, s29, s30, s31, s32, s33, s34, s35, s36, s37, s38, s39, s40, _, s42, s43, s44, s45, s46, s47, _, _, s50, s51, s52, s4, rfl, HS.below hw, h0, h1, h2, h3, h4, h5, fun q => (h6 q).below hw, h7, h8, h9, h10, h11, fun q => (h12 q).below hw, h13, h14, h15, h16, fun _ => rfl, h18, h19, h20, h21, h22, h23, fun _ => Bx.below ⟨g24, t24, rfl, m24⟩ hw, fun _ => rfl, h26, h27, h28, h29⟩
      case o26 =>
        intro d a v hd hr hJ; refine Pc6.elim hJ ?_; intro s24 s25 s26 s27 s28 s29 s30 s31 s32 s33 s34 s35 s36 s37 s38 s39 s40 s41 s42 s43 s44 s45 s46 s47 s48 s49 s50 s51 s52 s4 e HS h0 h1 h2 h3 h4 h5 h6 h7 h8 h9 h10 h11 h12 h13 h14 h15 h16 h17 h18 h19 h20 h21 h22 h23 h24 h25 h26 h27 h28 h29; subst e
        have e17 : d 17 = true := by first | exact hr.1 rfl | exact hr.2.1 rfl | exact hr.2.2.1 rfl | exact hr.2.2.2.1 rfl | exact hr.2.2.2.2.1 rfl
        obtain rfl := h17 e17
        go_wp2_with fail
        exact ⟨s24, s25, s26, s27, s28, s29, s30, s31, s32, s33, s34, s35, s36, s37, s38, s39, s40, _, s42, s43, s44, s45, s46, s47, s48, s49, _, s51, s52, s4, rfl, HS, h0, h1, h2, h3, h4, h5, h6, h7, h8, h9, h10, h11, h12, h13, h14, h15, h16, fun _ => rfl, h18, h19, h20, h21, h22, h23, h24, h25, fun _ => rfl, h27, h28, h29⟩
      case o27 =>
        intro d a v hd hr hJ; refine Pc6.elim hJ ?_; intro s24 s25 s26 s27 s28 s29 s30 s31 s32 s33 s34 s35 s36 s37 s38 s39 s40 s41 s42 s43 s44 s45 s46 s47 s48 s49 s50 s51 s52 s4 e HS h0 h1 h2 h3 h4 h5 h6 h7 h8 h9 h10 h11 h12 h13 h14 h15 h16 h17 h18 h19 h20 h21 h22 h23 h24 h25 h26 h27 h28 h29; subst e
        have e25 : d 25 = true := by first | exact hr.1 rfl | exact hr.2.1 rfl | exact hr.2.2.1 rfl | exact hr.2.2.2.1 rfl | exact hr.2.2.2.2.1 rfl
        obtain rfl := h25 e25
        have e26 : d 26 = true := by first | exact hr.1 rfl | exact hr.2.1 rfl | exact hr.2.2.1 rfl | exact hr.2.2.2.1 rfl | exact hr.2.2.2.2.1 rfl
        obtain rfl := h26 e26
        have e17 : d 17 = true := by first | exact hr.1 rfl | exact hr.2.1 rfl | exact hr.2.2.1 rfl | exact hr.2.2.2.1 rfl | exact hr.2.2.2.2.1 rfl
        obtain rfl := h17 e17
        go_wp2_with fail
        exact ⟨s24, s25, s26, s27, s28, s29, s30, s31, s32, s33, s34, s35, s36, s37, s38, s39, s40, _, s42, s43, s44, s45, s46, s47, s48, _, _, _, s52, s4, rfl, HS, h0, h1, h2, h3, h4, h5, h6, h7, h8, h9, h10, h11, h12, h13, h14, h15, h16, fun _ => rfl, h18, h19, h20, h21, h22, h23, h24, fun _ => rfl, fun _ => rfl, fun _ => rfl, h28, h29⟩
      case o28 =>
        intro d a v hd hr hJ; refine Pc6.elim hJ ?_; intro s24 s25 s26 s27 s28 s29 s30 s31 s32 s33 s34 s35 s36 s37 s38 s39 s40 s41 s42 s43 s44 s45 s46 s47 s48 s49 s50 s51 s52 s4 e HS h0 h1 h2 h3 h4 h5 h6 h7 h8 h9 h10 h11 h12 h13 h14 h15 h16 h17 h18 h19 h20 h21 h22 h23 h24 h25 h26 h27 h28 h29; subst e
        have e17 : d 17 = true := by first | exact hr.1 rfl | exact hr.2.1 rfl | exact hr.2.2.1 rfl | exact hr.2.2.2.1 rfl | exact hr.2.2.2.2.1 rfl
        obtain rfl := h17 e17
        have e27 : d 27 = true := by first | exact hr.1 rfl | exact hr.2.1 rfl | exact hr.2.2.1 rfl | exact hr.2.2.2.1 rfl | exact hr.2.2.2.2.1 rfl
        obtain rfl := h27 e27
        go_wp2_with fail
        exact ⟨s24, s25, s26, s27, s28, s29, s30, s31, s32, s33, s34, s35, s36, s37, s38, s39, s40, _, s42, s43, s44, s45, s46, s47, s48, s49, s50, _, _, s4, rfl, HS, h0, h1, h2, h3, h4, h5, h6, h7, h8, h9, h10, h11, h12, h13, h14, h15, h16, fun _ => rfl, h18, h19, h20, h21, h22, h23, h24, h25, h26, fun _ => rfl, fun _ => rfl, h29⟩
      case o29 =>
        intro d a v hd hr hJ; refine Pc6.elim hJ ?_; intro s24 s25 s26 s27 s28 s29 s30 s31 s32 s33 s34 s35 s36 s37 s38 s39 s40 s41 s42 s43 s44 s45 s46 s47 s48 s49 s50 s51 s52 s4 e HS h0 h1 h2 h3 h4 h5 h6 h7 h8 h9 h10 h11 h12 h13 h14 h15 h16 h17 h18 h19 h20 h21 h22 h23 h24 h25 h26 h27 h28 h29; subst e
        have e28 : d 28 = true := by first | exact hr.1 rfl | exact hr.2.1 rfl | exact hr.2.2.1 rfl | exact hr.2.2.2.1 rfl | exact hr.2.2.2.2.1 rfl
        obtain rfl := h28 e28
        go_wp2_with fail
        exact ⟨s24, s25, s26, s27, s28, s29, s30, s31, s32, s33, s34, s35, s36, s37, s38, s39, s40, s41, s42, s43, s44, s45, s46, s47, s48, s49, s50, s51, _, _, rfl, HS, h0, h1, h2, h3, h4, h5, h6, h7, h8, h9, h10, h11, h12, h13, h14, h15, h16, h17, h18, h19, h20, h21, h22, h23, h24, h25, h26, h27, fun _ => rfl, fun _ => rfl⟩
    case he =>
      intro d a v hd hJ; refine Pc6.elim hJ ?_; intro s24 s25 s26 s27 s28 s29 s30 s31 s32 s33 s34 s35 s36 s37 s38 s39 s40 s41 s42 s43 s44 s45 s46 s47 s48 s49 s50 s51 s52 s4 e HS _ _ _ _ _ _ _ _ _ _ _ _ _ _ _ _ _ _ _ _ _ _ _ _ _ _ _ _ _ hz; subst e
      obtain rfl := hz (hd 29 (by decide))
      go_wp2_with fail
      go_ret
      exact ⟨rfl, HS.old⟩
end Go.Proofs.Ytlejmoaeijjnbaa

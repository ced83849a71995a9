/- The law CrcMixed. -/
import Derived.Test.YtlejmoaeijjnbaaLFar
import Derived.Test.YtlejmoaeijjnbaaApp
import Derived.Test.YtlejmoaeijjnbaaInv2
import Derived.Deep.RegionWith
import Derived.Deep.RegionLaw
import Derived.IntWalk
namespace Go.Proofs.Ytlejmoaeijjnbaa
open Go.RowKit
set_option linter.unusedVariables false

/-- Three rows of bytes, one over the other. -/
def mixF (f g h : Nat → Int) : Nat → Int := fun i => (((f i).toNat ^^^ (g i).toNat ^^^ (h i).toNat : Nat) : Int)
theorem mixF_byte {f g h : Nat → Int} (hf : IsByte f) (hg : IsByte g) (hh : IsByte h) : IsByte (mixF f g h) := fun i => by
  have a := byteNat hf i
  have b := byteNat hg i
  have c := byteNat hh i
  have d : (f i).toNat ^^^ (g i).toNat ^^^ (h i).toNat < 256 := Nat.xor_lt_two_pow (n := 8) (Nat.xor_lt_two_pow (n := 8) a.1 b.1) c.1
  unfold mixF
  generalize (f i).toNat ^^^ (g i).toNat ^^^ (h i).toNat = z at *
  omega
theorem stF_mix (f g h : Nat → Int) : ∀ n, stF ones (mixF f g h) n = stF ones f n ^^^ stF ones g n ^^^ stF ones h n
  | 0 => by simp only [stF]; rw [Nat.xor_self, Nat.zero_xor]
  | n + 1 => by
    simp only [stF]
    rw [stF_mix f g h n, ← shN_xor, ← shN_xor]
    congr 1
    unfold mixF
    rw [Int.toNat_natCast]
    generalize stF ones f n = a; generalize stF ones g n = b; generalize stF ones h n = c
    generalize (f n).toNat = x; generalize (g n).toNat = y; generalize (h n).toNat = z
    ac_rfl
theorem sumF_mix (f g h : Nat → Int) (n : Nat) : sumF (mixF f g h) n = sumF f n ^^^ sumF g n ^^^ sumF h n := by
  unfold sumF
  rw [stF_mix]
  generalize stF ones f n = a; generalize stF ones g n = b; generalize stF ones h n = c
  have e : a ^^^ ones ^^^ (b ^^^ ones) ^^^ (c ^^^ ones) = a ^^^ b ^^^ c ^^^ ones ^^^ (ones ^^^ ones) := by ac_rfl
  rw [e, Nat.xor_self, Nat.xor_zero]

theorem mix_step {f g h : Nat → Int} {k i : Nat} {v : Int} (hv : mixF f g h k = v) (hi : i < k + 1) : cat k (mixF f g h) (litF [v]) i = mixF f g h i := by
  by_cases e : i < k
  · exact cat_l _ _ e
  · obtain rfl : i = k := by omega
    have := cat_r (n := i) (mixF f g h) (litF [v]) 0
    rw [Nat.add_zero] at this
    rw [this, hv]; rfl

/-- A slot that holds the slice of a row that was made. -/
def Bx (v : World) (s : Value) (cells : Array Value) (n : Nat) : Prop := ∃ g t, s = .slice (some ⟨g, 0, none⟩) n n ∧ v.heap[g]? = some (.cells cells t (0, 0))
theorem Bx.below {v v' : World} {s : Value} {cells : Array Value} {n : Nat} (h : Bx v s cells n) (k : Below v.heap.size v v') : Bx v' s cells n := by
  obtain ⟨g, t, e, m⟩ := h
  exact ⟨g, t, e, (k.block g (lt_of_block m)).trans m⟩
theorem Bx.new (v : World) (cells : Array Value) (n : Nat) (t : TypeId) : Bx (v.alloc (.cells cells t)) (.slice (some ⟨v.heap.size, 0, none⟩) n n) cells n := ⟨_, _, rfl, heap_alloc_new v _⟩
/-- The rows of bytes. -/
structure MxSt (w : World) (A : Option Addr) (f : Nat → Int) (B : Option Addr) (g : Nat → Int) (C : Option Addr) (h : Nat → Int) (A4 : Option Addr) (n : Nat) (v : World) : Prop where
  old : Below w.heap.size w v
  a : Bs v A n f
  b : Bs v B n g
  c : Bs v C n h
  m : Bs v A4 n (mixF f g h)
theorem MxSt.below {w v v' : World} {A B C A4 : Option Addr} {f g h : Nat → Int} {n : Nat} (H : MxSt w A f B g C h A4 n v) (k : Below v.heap.size v v') : MxSt w A f B g C h A4 n v' :=
  ⟨H.old.trans (k.mono H.old.size), H.a.old k, H.b.old k, H.c.old k, H.m.old k⟩
theorem MxSt.drew {w v : World} {A B C A4 : Option Addr} {f g h : Nat → Int} {n : Nat} (H : MxSt w A f B g C h A4 n v) : MxSt w A f B g C h A4 n v.drew := ⟨H.old.drew, H.a, H.b, H.c, H.m⟩
theorem OwnB.form2 {w : World} {base n : Nat} {v : Value} {f : Nat → Int} (h : OwnB w base v n f) : ∃ A cap, v = .slice A n cap ∧ n ≤ cap ∧ ((cap : Int) ≤ 9223372036854775807) ∧ Bs w A n f := by
  rcases Nat.eq_zero_or_pos n with rfl | hn
  · obtain ⟨_, ⟨rfl, _⟩ | ⟨g, cap, cur, rfl, _, _, _, hm, _⟩⟩ := h
    · exact ⟨_, _, rfl, Nat.le_refl _, by omega, fun h => absurd h (by omega)⟩
    · exact ⟨_, _, rfl, Nat.zero_le _, by have : maxLen ≤ 9223372036854775807 := by decide
                                          omega, fun h => absurd h (by omega)⟩
  · obtain ⟨g, cap, rfl, _, hc, hm, hr⟩ := h.out hn
    exact ⟨_, _, rfl, hc, by have : maxLen ≤ 9223372036854775807 := by decide
                             omega, fun _ => ⟨_, _, rfl, hr.seg0⟩⟩
def Mx11 (w : World) (A : Option Addr) (la ca : Nat) (f : Nat → Int) (B : Option Addr) (lb cb : Nat) (g : Nat → Int) (C : Option Addr) (lc cc : Nat) (h : Nat → Int) (A4 : Option Addr) (n c4 : Nat) (p3 p4 p5 p9 p10 p11 p12 p13 p14 p15 p16 p17 p18 p19 p20 p21 p22 p23 p24 p25 p26 p27 p28 p29 p30 p31 p32 p33 p34 p35 p36 p37 p38 p39 p40 p41 p42 : Value) (d : Nat → Bool) (a : Act) (v : World) : Prop := ∃ s43 s44 s45 s46 s47 s48 s49 s50 s51 s52 s53 s54 s55 s56 s57 s58 s59 s60 s61 s62 s63 s6, a = { tmps := (Value.slice A la ca :: Value.slice B lb cb :: Value.slice C lc cc :: p3 :: p4 :: p5 :: s6 :: Value.int .i64 (n : Int) :: Value.slice A4 n c4 :: p9 :: p10 :: p11 :: p12 :: p13 :: p14 :: p15 :: p16 :: p17 :: p18 :: p19 :: p20 :: p21 :: p22 :: p23 :: p24 :: p25 :: p26 :: p27 :: p28 :: p29 :: p30 :: p31 :: p32 :: p33 :: p34 :: p35 :: p36 :: p37 :: p38 :: p39 :: p40 :: p41 :: p42 :: s43 :: s44 :: s45 :: s46 :: s47 :: s48 :: s49 :: s50 :: s51 :: s52 :: s53 :: s54 :: s55 :: s56 :: s57 :: s58 :: s59 :: s60 :: s61 :: s62 :: s63 :: []).toArray, defers := [] } ∧ MxSt w A f B g C h A4 n v ∧ (d 0 = true → s43 = Value.slice A4 n c4) ∧ (d 1 = true → Bx v s44 #[.slice A4 n c4] 1) ∧ (d 2 = true → s45 = Value.int .u32 ((sumF f n ^^^ sumF g n ^^^ sumF h n : Nat) : Int)) ∧ (d 3 = true → s46 = Value.slice A la ca) ∧ (d 4 = true → s47 = Value.int .i64 (n : Int)) ∧ (d 5 = true → s48 = Value.slice A n ca) ∧ (d 6 = true → Bx v s49 #[.slice A n ca] 1) ∧ (d 7 = true → s50 = Value.int .u32 ((sumF f n : Nat) : Int)) ∧ (d 8 = true → s51 = Value.slice B lb cb) ∧ (d 9 = true → s52 = Value.int .i64 (n : Int)) ∧ (d 10 = true → s53 = Value.slice B n cb) ∧ (d 11 = true → Bx v s54 #[.slice B n cb] 1) ∧ (d 12 = true → s55 = Value.int .u32 ((sumF g n : Nat) : Int)) ∧ (d 13 = true → s56 = Value.int .u32 ((sumF f n ^^^ sumF g n : Nat) : Int)) ∧ (d 14 = true → s57 = Value.slice C lc cc) ∧ (d 15 = true → s58 = Value.int .i64 (n : Int)) ∧ (d 16 = true → s59 = Value.slice C n cc) ∧ (d 17 = true → Bx v s60 #[.slice C n cc] 1) ∧ (d 18 = true → s61 = Value.int .u32 ((sumF h n : Nat) : Int)) ∧ (d 19 = true → s62 = Value.int .u32 ((sumF f n ^^^ sumF g n ^^^ sumF h n : Nat) : Int)) ∧ (d 20 = true → s63 = Value.bool true) ∧ (d 21 = true → s6 = Value.bool true)
set_option maxHeartbeats 4000000 in
theorem crcMixed_law (A : Option Addr) (la ca : Nat) (f : Nat → Int) (B : Option Addr) (lb cb : Nat) (g : Nat → Int) (C : Option Addr) (lc cc : Nat) (h : Nat → Int) (w : World)
    (hla : la ≤ ca) (hca : (ca : Int) ≤ 9223372036854775807) (hA : Bs w A la f) (hf : IsByte f)
    (hlb : lb ≤ cb) (hcb : (cb : Int) ≤ 9223372036854775807) (hB : Bs w B lb g) (hg : IsByte g)
    (hlc : lc ≤ cc) (hcc : (cc : Int) ≤ 9223372036854775807) (hC : Bs w C lc h) (hh : IsByte h) :
    Calls Try.prog 8 #[.slice A la ca, .slice B lb cb, .slice C lc cc] w fun e w' => e = .returned (.bool true) ∧ Below w.heap.size w w' := by
  obtain ⟨n, hn⟩ : ∃ n, n = min la (min lb lc) := ⟨_, rfl⟩
  have hna : n ≤ la := by omega
  have hnb : n ≤ lb := by omega
  have hnc : n ≤ lc := by omega
  have hmin : min (min (la : Int) lb) lc = (n : Int) := by omega
  have HA := hide (hA.take hna)
  have HB := hide (hB.take hnb)
  have HC := hide (hC.take hnc)
  have Hf := hide hf
  have Hg := hide hg
  have Hh := hide hh
  clear hA hB hC hf hg hh hn
  have km : ∀ (ts : Array TypeId) (t : TypeId) (W : World), (Builtin.min_ ts t #[.int .i64 (la : Int), .int .i64 (lb : Int), .int .i64 (lc : Int)]).run Try.prog W = .ok (.int .i64 (n : Int)) W := fun ts t W => by
    simp [Builtin.min_, Builtin.min2]
    repeat' split
    all_goals omega
  clear hmin
  by_cases hgr : (n : Int) > 20000
  · go_enter Try.func8, Try.ntmps8
    go_wp2_with (go_at_call 18; refine (awake02_any _).mono ?_; rintro e w1 ⟨rfl, h1⟩; have H1 : Hid (Below w.heap.size w w1) := h1; clear h1)
    go_ret
    exact ⟨rfl, H1.out⟩
  have hgr' : (n : Int) ≤ 20000 := by omega
  clear hgr
  go_enter Try.func8, Try.ntmps8
  go_wp2_with (go_at_call 18; refine (awake02_any _).mono ?_; rintro e w1 ⟨rfl, h1⟩; have H1 : Hid (Below w.heap.size w w1) := h1; clear h1)
  clear km
  go_loopw [8, 9] (fun v i wr => ∃ k : Nat, k ≤ n ∧ i = .int .i64 k ∧ OwnB wr w1.heap.size v k (mixF f g h) ∧ Below w1.heap.size w1 wr) (fun _ i _ => n - (intOf i).toNat)
  case atStart => exact ⟨0, by omega, rfl, OwnB.nil _ _ _, Below.refl _ _⟩
  case round =>
    obtain ⟨k, hk, rfl, hown, hB⟩ := hrel
    by_cases hlt : k < n
    · have HB1 := hide hB
      have Hown := hide hown
      have hsz := hB.size
      have hAw := (HA.out.old H1.out).old hB
      have hBw := (HB.out.old H1.out).old hB
      have hCw := (HC.out.old H1.out).old hB
      obtain ⟨ba, oa, rfl, sa⟩ := hAw.at_ (by omega)
      obtain ⟨bb, ob, rfl, sb⟩ := hBw.at_ (by omega)
      obtain ⟨bc, oc, rfl, sc⟩ := hCw.at_ (by omega)
      obtain ⟨x, hx, hxe⟩ : ∃ x : Nat, x < 256 ∧ f k = (x : Int) := ⟨_, (byteNat Hf.out _).1, (byteNat Hf.out _).2⟩
      obtain ⟨y, hy, hye⟩ : ∃ x : Nat, x < 256 ∧ g k = (x : Int) := ⟨_, (byteNat Hg.out _).1, (byteNat Hg.out _).2⟩
      obtain ⟨z, hz, hze⟩ : ∃ x : Nat, x < 256 ∧ h k = (x : Int) := ⟨_, (byteNat Hh.out _).1, (byteNat Hh.out _).2⟩
      have c0 := sa k hlt
      have c1 := sb k hlt
      have c2 := sc k hlt
      rw [hxe] at c0
      rw [hye] at c1
      rw [hze] at c2
      have i0 : (0 : Int) ≤ (k : Int) := by omega
      have i1 : (k : Int) < la := by omega
      have i2 : (k : Int) < lb := by omega
      have i3 : (k : Int) < lc := by omega
      have Hmk : Hid (mixF f g h k = ((x ^^^ y ^^^ z : Nat) : Int)) := by rw [Hid, mixF, hxe, hye, hze]; rfl
      have e1 := u8_xor_nat x y hx hy
      have hxy : x ^^^ y < 256 := Nat.xor_lt_two_pow (n := 8) hx hy
      have e2 := u8_xor_nat (x ^^^ y) z hxy hz
      have Lx : Hid ((#[Value.int IntKind.u8 ((x ^^^ y ^^^ z : Nat) : Int)] : Array Value).toList = bl 1 (litF [((x ^^^ y ^^^ z : Nat) : Int)])) := rfl
      clear sa sb sc hAw hBw hCw hB hown hxe hye hze HA HB HC
      go_wp2_with fail
      go_region_law (refine stepB rfl (.tmp 26) (.tmp 41) rfl w1.heap.size k 1 1 _ (mixF f g h) (litF [((x ^^^ y ^^^ z : Nat) : Int)]) (some ⟨wr.heap.size, 0, none⟩) rfl (Hown.out.alloc _).drew rfl (Bs.lit wr _ 1 (litF [((x ^^^ y ^^^ z : Nat) : Int)]) _ Lx.out).drew (by omega) (by simp; omega) ?_; intro v' w' ho' hb'; have Ho' := hide ho'; have Hb' := hide hb'; clear ho' hb')
      all_goals
        go_wp2
        go_roundw
        case rel => exact ⟨k + 1, by omega, by go_num, OwnB.congr Ho'.out (fun i hi => mix_step Hmk.out (by omega)), ((HB1.out.alloc hsz _).drew).trans Hb'.out⟩
        case measure => simp [intOf]; omega
    · obtain rfl : k = n := by omega
      obtain ⟨A4, c4, rfl, hc4, hcm, hb4⟩ := hown.form2
      have H2 : Hid (MxSt w A f B g C h A4 k wr) := ⟨B_then H1.out hB, (HA.out.old H1.out).old hB, (HB.out.old H1.out).old hB, (HC.out.old H1.out).old hB, hb4⟩
      have Hm := hide (mixF_byte Hf.out Hg.out Hh.out)
      have HL4 : Hid (k ≤ c4) := hc4
      have HC4 : Hid ((c4 : Int) ≤ 9223372036854775807) := hcm
      have HLa : Hid (k ≤ ca) := Nat.le_trans hna hla
      have HLb : Hid (k ≤ cb) := Nat.le_trans hnb hlb
      have HLc : Hid (k ≤ cc) := Nat.le_trans hnc hlc
      have HX1 : Hid (bits .xor .u32 (sumF f k : Int) (sumF g k : Int) = ((sumF f k ^^^ sumF g k : Nat) : Int)) := u32_xor_nat _ _ (sumF_lt Hf.out k) (sumF_lt Hg.out k)
      have HX2 : Hid (bits .xor .u32 ((sumF f k ^^^ sumF g k : Nat) : Int) (sumF h k : Int) = ((sumF f k ^^^ sumF g k ^^^ sumF h k : Nat) : Int)) := u32_xor_nat _ _ (Nat.xor_lt_two_pow (n := 32) (sumF_lt Hf.out k) (sumF_lt Hg.out k)) (sumF_lt Hh.out k)
      have HX3 := hide (sumF_mix f g h k)
      clear hown hB hb4 HA HB HC H1
      have i1 : (k : Int) ≤ ca := by have := HLa.out; omega
      have i2 : (k : Int) ≤ cb := by have := HLb.out; omega
      have i3 : (k : Int) ≤ cc := by have := HLc.out; omega
      have i0 : (0 : Int) ≤ k := by omega
      go_wp2_with fail
      refine wp_region_steps (by kernel_rfl) (by kernel_rfl) (Mx11 w A la ca f B lb cb g C lc cc h A4 k c4 _ _ _ _ _ _ _ _ _ _ _ _ _ _ _ _ _ _ _ _ _ _ _ _ _ _ _ _ _ _ _ _ _ _ _ _ _) ⟨_, _, _, _, _, _, _, _, _, _, _, _, _, _, _, _, _, _, _, _, _, _, rfl, H2.out.drew, (fun e => Bool.noConfusion e), (fun e => Bool.noConfusion e), (fun e => Bool.noConfusion e), (fun e => Bool.noConfusion e), (fun e => Bool.noConfusion e), (fun e => Bool.noConfusion e), (fun e => Bool.noConfusion e), (fun e => Bool.noConfusion e), (fun e => Bool.noConfusion e), (fun e => Bool.noConfusion e), (fun e => Bool.noConfusion e), (fun e => Bool.noConfusion e), (fun e => Bool.noConfusion e), (fun e => Bool.noConfusion e), (fun e => Bool.noConfusion e), (fun e => Bool.noConfusion e), (fun e => Bool.noConfusion e), (fun e => Bool.noConfusion e), (fun e => Bool.noConfusion e), (fun e => Bool.noConfusion e), (fun e => Bool.noConfusion e), (fun e => Bool.noConfusion e)⟩ ?hs ?he
      case hs =>
        refine ⟨?o0, ?o1, ?o2, ?o3, ?o4, ?o5, ?o6, ?o7, ?o8, ?o9, ?o10, ?o11, ?o12, ?o13, ?o14, ?o15, ?o16, ?o17, ?o18, ?o19, ?o20, ?o21, trivial⟩
        case o0 =>
          rintro d _ v hd hr ⟨s43, s44, s45, s46, s47, s48, s49, s50, s51, s52, s53, s54, s55, s56, s57, s58, s59, s60, s61, s62, s63, s6, rfl, HS, h0, h1, h2, h3, h4, h5, h6, h7, h8, h9, h10, h11, h12, h13, h14, h15, h16, h17, h18, h19, h20, h21⟩
          go_wp2_with fail
          exact ⟨_, s44, s45, s46, s47, s48, s49, s50, s51, s52, s53, s54, s55, s56, s57, s58, s59, s60, s61, s62, s63, s6, rfl, HS, fun _ => rfl, h1, h2, h3, h4, h5, h6, h7, h8, h9, h10, h11, h12, h13, h14, h15, h16, h17, h18, h19, h20, h21⟩
        case o1 =>
          rintro d _ v hd hr ⟨s43, s44, s45, s46, s47, s48, s49, s50, s51, s52, s53, s54, s55, s56, s57, s58, s59, s60, s61, s62, s63, s6, rfl, HS, h0, h1, h2, h3, h4, h5, h6, h7, h8, h9, h10, h11, h12, h13, h14, h15, h16, h17, h18, h19, h20, h21⟩
          have e0 : d 0 = true := by first | exact hr.1 rfl | exact hr.2.1 rfl | exact hr.2.2.1 rfl | exact hr.2.2.2.1 rfl | exact hr.2.2.2.2.1 rfl
          obtain rfl := h0 e0
          go_wp2_with fail
          exact ⟨_, _, s45, s46, s47, s48, s49, s50, s51, s52, s53, s54, s55, s56, s57, s58, s59, s60, s61, s62, s63, s6, rfl, HS.below ((Below.refl _ v).alloc (Nat.le_refl _) _), fun _ => rfl, fun _ => Bx.new _ _ _ _, h2, h3, h4, h5, fun q => (h6 q).below ((Below.refl _ v).alloc (Nat.le_refl _) _), h7, h8, h9, h10, fun q => (h11 q).below ((Below.refl _ v).alloc (Nat.le_refl _) _), h12, h13, h14, h15, h16, fun q => (h17 q).below ((Below.refl _ v).alloc (Nat.le_refl _) _), h18, h19, h20, h21⟩
        case o2 =>
          rintro d _ v hd hr ⟨s43, s44, s45, s46, s47, s48, s49, s50, s51, s52, s53, s54, s55, s56, s57, s58, s59, s60, s61, s62, s63, s6, rfl, HS, h0, h1, h2, h3, h4, h5, h6, h7, h8, h9, h10, h11, h12, h13, h14, h15, h16, h17, h18, h19, h20, h21⟩
          have e1 : d 1 = true := by first | exact hr.1 rfl | exact hr.2.1 rfl | exact hr.2.2.1 rfl | exact hr.2.2.2.1 rfl | exact hr.2.2.2.2.1 rfl
          obtain ⟨g1, t1, rfl, m1⟩ := h1 e1
          go_wp2_with fail
          refine (sum1_any g1 t1 A4 k c4 1 (mixF f g h) _ m1 HS.m Hm.out HL4.out HC4.out).mono ?_
          rintro e v' ⟨rfl, hw⟩
          rw [HX3.out]
          go_wp2_with fail
          exact ⟨s43, _, _, s46, s47, s48, s49, s50, s51, s52, s53, s54, s55, s56, s57, s58, s59, s60, s61, s62, s63, s6, rfl, HS.below hw, h0, fun _ => Bx.below ⟨g1, t1, rfl, m1⟩ hw, fun _ => rfl, h3, h4, h5, fun q => (h6 q).below hw, h7, h8, h9, h10, fun q => (h11 q).below hw, h12, h13, h14, h15, h16, fun q => (h17 q).below hw, h18, h19, h20, h21⟩
        case o3 =>
          rintro d _ v hd hr ⟨s43, s44, s45, s46, s47, s48, s49, s50, s51, s52, s53, s54, s55, s56, s57, s58, s59, s60, s61, s62, s63, s6, rfl, HS, h0, h1, h2, h3, h4, h5, h6, h7, h8, h9, h10, h11, h12, h13, h14, h15, h16, h17, h18, h19, h20, h21⟩
          go_wp2_with fail
          exact ⟨s43, s44, s45, _, s47, s48, s49, s50, s51, s52, s53, s54, s55, s56, s57, s58, s59, s60, s61, s62, s63, s6, rfl, HS, h0, h1, h2, fun _ => rfl, h4, h5, h6, h7, h8, h9, h10, h11, h12, h13, h14, h15, h16, h17, h18, h19, h20, h21⟩
        case o4 =>
          rintro d _ v hd hr ⟨s43, s44, s45, s46, s47, s48, s49, s50, s51, s52, s53, s54, s55, s56, s57, s58, s59, s60, s61, s62, s63, s6, rfl, HS, h0, h1, h2, h3, h4, h5, h6, h7, h8, h9, h10, h11, h12, h13, h14, h15, h16, h17, h18, h19, h20, h21⟩
          go_wp2_with fail
          exact ⟨s43, s44, s45, s46, _, s48, s49, s50, s51, s52, s53, s54, s55, s56, s57, s58, s59, s60, s61, s62, s63, s6, rfl, HS, h0, h1, h2, h3, fun _ => rfl, h5, h6, h7, h8, h9, h10, h11, h12, h13, h14, h15, h16, h17, h18, h19, h20, h21⟩
        case o5 =>
          rintro d _ v hd hr ⟨s43, s44, s45, s46, s47, s48, s49, s50, s51, s52, s53, s54, s55, s56, s57, s58, s59, s60, s61, s62, s63, s6, rfl, HS, h0, h1, h2, h3, h4, h5, h6, h7, h8, h9, h10, h11, h12, h13, h14, h15, h16, h17, h18, h19, h20, h21⟩
          have e3 : d 3 = true := by first | exact hr.1 rfl | exact hr.2.1 rfl | exact hr.2.2.1 rfl | exact hr.2.2.2.1 rfl | exact hr.2.2.2.2.1 rfl
          obtain rfl := h3 e3
          have e4 : d 4 = true := by first | exact hr.1 rfl | exact hr.2.1 rfl | exact hr.2.2.1 rfl | exact hr.2.2.2.1 rfl | exact hr.2.2.2.2.1 rfl
          obtain rfl := h4 e4
          go_wp2_with fail
          exact ⟨s43, s44, s45, _, _, _, s49, s50, s51, s52, s53, s54, s55, s56, s57, s58, s59, s60, s61, s62, s63, s6, rfl, HS, h0, h1, h2, fun _ => rfl, fun _ => rfl, fun _ => rfl, h6, h7, h8, h9, h10, h11, h12, h13, h14, h15, h16, h17, h18, h19, h20, h21⟩
        case o6 =>
          rintro d _ v hd hr ⟨s43, s44, s45, s46, s47, s48, s49, s50, s51, s52, s53, s54, s55, s56, s57, s58, s59, s60, s61, s62, s63, s6, rfl, HS, h0, h1, h2, h3, h4, h5, h6, h7, h8, h9, h10, h11, h12, h13, h14, h15, h16, h17, h18, h19, h20, h21⟩
          have e5 : d 5 = true := by first | exact hr.1 rfl | exact hr.2.1 rfl | exact hr.2.2.1 rfl | exact hr.2.2.2.1 rfl | exact hr.2.2.2.2.1 rfl
          obtain rfl := h5 e5
          go_wp2_with fail
          exact ⟨s43, s44, s45, s46, s47, _, _, s50, s51, s52, s53, s54, s55, s56, s57, s58, s59, s60, s61, s62, s63, s6, rfl, HS.below ((Below.refl _ v).alloc (Nat.le_refl _) _), h0, fun q => (h1 q).below ((Below.refl _ v).alloc (Nat.le_refl _) _), h2, h3, h4, fun _ => rfl, fun _ => Bx.new _ _ _ _, h7, h8, h9, h10, fun q => (h11 q).below ((Below.refl _ v).alloc (Nat.le_refl _) _), h12, h13, h14, h15, h16, fun q => (h17 q).below ((Below.refl _ v).alloc (Nat.le_refl _) _), h18, h19, h20, h21⟩
        case o7 =>
          rintro d _ v hd hr ⟨s43, s44, s45, s46, s47, s48, s49, s50, s51, s52, s53, s54, s55, s56, s57, s58, s59, s60, s61, s62, s63, s6, rfl, HS, h0, h1, h2, h3, h4, h5, h6, h7, h8, h9, h10, h11, h12, h13, h14, h15, h16, h17, h18, h19, h20, h21⟩
          have e6 : d 6 = true := by first | exact hr.1 rfl | exact hr.2.1 rfl | exact hr.2.2.1 rfl | exact hr.2.2.2.1 rfl | exact hr.2.2.2.2.1 rfl
          obtain ⟨g6, t6, rfl, m6⟩ := h6 e6
          go_wp2_with fail
          refine (sum1_any g6 t6 A k ca 1 f _ m6 HS.a Hf.out HLa.out hca).mono ?_
          rintro e v' ⟨rfl, hw⟩
          go_wp2_with fail
          exact ⟨s43, s44, s45, s46, s47, s48, _, _, s51, s52, s53, s54, s55, s56, s57, s58, s59, s60, s61, s62, s63, s6, rfl, HS.below hw, h0, fun q => (h1 q).below hw, h2, h3, h4, h5, fun _ => Bx.below ⟨g6, t6, rfl, m6⟩ hw, fun _ => rfl, h8, h9, h10, fun q => (h11 q).below hw, h12, h13, h14, h15, h16, fun q => (h17 q).below hw, h18, h19, h20, h21⟩
        case o8 =>
          rintro d _ v hd hr ⟨s43, s44, s45, s46, s47, s48, s49, s50, s51, s52, s53, s54, s55, s56, s57, s58, s59, s60, s61, s62, s63, s6, rfl, HS, h0, h1, h2, h3, h4, h5, h6, h7, h8, h9, h10, h11, h12, h13, h14, h15, h16, h17, h18, h19, h20, h21⟩
          go_wp2_with fail
          exact ⟨s43, s44, s45, s46, s47, s48, s49, s50, _, s52, s53, s54, s55, s56, s57, s58, s59, s60, s61, s62, s63, s6, rfl, HS, h0, h1, h2, h3, h4, h5, h6, h7, fun _ => rfl, h9, h10, h11, h12, h13, h14, h15, h16, h17, h18, h19, h20, h21⟩
        case o9 =>
          rintro d _ v hd hr ⟨s43, s44, s45, s46, s47, s48, s49, s50, s51, s52, s53, s54, s55, s56, s57, s58, s59, s60, s61, s62, s63, s6, rfl, HS, h0, h1, h2, h3, h4, h5, h6, h7, h8, h9, h10, h11, h12, h13, h14, h15, h16, h17, h18, h19, h20, h21⟩
          go_wp2_with fail
          exact ⟨s43, s44, s45, s46, s47, s48, s49, s50, s51, _, s53, s54, s55, s56, s57, s58, s59, s60, s61, s62, s63, s6, rfl, HS, h0, h1, h2, h3, h4, h5, h6, h7, h8, fun _ => rfl, h10, h11, h12, h13, h14, h15, h16, h17, h18, h19, h20, h21⟩
        case o10 =>
          rintro d _ v hd hr ⟨s43, s44, s45, s46, s47, s48, s49, s50, s51, s52, s53, s54, s55, s56, s57, s58, s59, s60, s61, s62, s63, s6, rfl, HS, h0, h1, h2, h3, h4, h5, h6, h7, h8, h9, h10, h11, h12, h13, h14, h15, h16, h17, h18, h19, h20, h21⟩
          have e8 : d 8 = true := by first | exact hr.1 rfl | exact hr.2.1 rfl | exact hr.2.2.1 rfl | exact hr.2.2.2.1 rfl | exact hr.2.2.2.2.1 rfl
          obtain rfl := h8 e8
          have e9 : d 9 = true := by first | exact hr.1 rfl | exact hr.2.1 rfl | exact hr.2.2.1 rfl | exact hr.2.2.2.1 rfl | exact hr.2.2.2.2.1 rfl
          obtain rfl := h9 e9
          go_wp2_with fail
          exact ⟨s43, s44, s45, s46, s47, s48, s49, s50, _, _, _, s54, s55, s56, s57, s58, s59, s60, s61, s62, s63, s6, rfl, HS, h0, h1, h2, h3, h4, h5, h6, h7, fun _ => rfl, fun _ => rfl, fun _ => rfl, h11, h12, h13, h14, h15, h16, h17, h18, h19, h20, h21⟩
        case o11 =>
          rintro d _ v hd hr ⟨s43, s44, s45, s46, s47, s48, s49, s50, s51, s52, s53, s54, s55, s56, s57, s58, s59, s60, s61, s62, s63, s6, rfl, HS, h0, h1, h2, h3, h4, h5, h6, h7, h8, h9, h10, h11, h12, h13, h14, h15, h16, h17, h18, h19, h20, h21⟩
          have e10 : d 10 = true := by first | exact hr.1 rfl | exact hr.2.1 rfl | exact hr.2.2.1 rfl | exact hr.2.2.2.1 rfl | exact hr.2.2.2.2.1 rfl
          obtain rfl := h10 e10
          go_wp2_with fail
          exact ⟨s43, s44, s45, s46, s47, s48, s49, s50, s51, s52, _, _, s55, s56, s57, s58, s59, s60, s61, s62, s63, s6, rfl, HS.below ((Below.refl _ v).alloc (Nat.le_refl _) _), h0, fun q => (h1 q).below ((Below.refl _ v).alloc (Nat.le_refl _) _), h2, h3, h4, h5, fun q => (h6 q).below ((Below.refl _ v).alloc (Nat.le_refl _) _), h7, h8, h9, fun _ => rfl, fun _ => Bx.new _ _ _ _, h12, h13, h14, h15, h16, fun q => (h17 q).below ((Below.refl _ v).alloc (Nat.le_refl _) _), h18, h19, h20, h21⟩
        case o12 =>
          rintro d _ v hd hr ⟨s43, s44, s45, s46, s47, s48, s49, s50, s51, s52, s53, s54, s55, s56, s57, s58, s59, s60, s61, s62, s63, s6, rfl, HS, h0, h1, h2, h3, h4, h5, h6, h7, h8, h9, h10, h11, h12, h13, h14, h15, h16, h17, h18, h19, h20, h21⟩
          have e11 : d 11 = true := by first | exact hr.1 rfl | exact hr.2.1 rfl | exact hr.2.2.1 rfl | exact hr.2.2.2.1 rfl | exact hr.2.2.2.2.1 rfl
          obtain ⟨g11, t11, rfl, m11⟩ := h11 e11
          go_wp2_with fail
          refine (sum1_any g11 t11 B k cb 1 g _ m11 HS.b Hg.out HLb.out hcb).mono ?_
          rintro e v' ⟨rfl, hw⟩
          go_wp2_with fail
          exact ⟨s43, s44, s45, s46, s47, s48, s49, s50, s51, s52, s53, _, _, s56, s57, s58, s59, s60, s61, s62, s63, s6, rfl, HS.below hw, h0, fun q => (h1 q).below hw, h2, h3, h4, h5, fun q => (h6 q).below hw, h7, h8, h9, h10, fun _ => Bx.below ⟨g11, t11, rfl, m11⟩ hw, fun _ => rfl, h13, h14, h15, h16, fun q => (h17 q).below hw, h18, h19, h20, h21⟩
        case o13 =>
          rintro d _ v hd hr ⟨s43, s44, s45, s46, s47, s48, s49, s50, s51, s52, s53, s54, s55, s56, s57, s58, s59, s60, s61, s62, s63, s6, rfl, HS, h0, h1, h2, h3, h4, h5, h6, h7, h8, h9, h10, h11, h12, h13, h14, h15, h16, h17, h18, h19, h20, h21⟩
          have e7 : d 7 = true := by first | exact hr.1 rfl | exact hr.2.1 rfl | exact hr.2.2.1 rfl | exact hr.2.2.2.1 rfl | exact hr.2.2.2.2.1 rfl
          obtain rfl := h7 e7
          have e12 : d 12 = true := by first | exact hr.1 rfl | exact hr.2.1 rfl | exact hr.2.2.1 rfl | exact hr.2.2.2.1 rfl | exact hr.2.2.2.2.1 rfl
          obtain rfl := h12 e12
          have X1 := HX1.out
          go_wp2_with fail
          exact ⟨s43, s44, s45, s46, s47, s48, s49, _, s51, s52, s53, s54, _, _, s57, s58, s59, s60, s61, s62, s63, s6, rfl, HS, h0, h1, h2, h3, h4, h5, h6, fun _ => rfl, h8, h9, h10, h11, fun _ => rfl, fun _ => rfl, h14, h15, h16, h17, h18, h19, h20, h21⟩
        case o14 =>
          rintro d _ v hd hr ⟨s43, s44, s45, s46, s47, s48, s49, s50, s51, s52, s53, s54, s55, s56, s57, s58, s59, s60, s61, s62, s63, s6, rfl, HS, h0, h1, h2, h3, h4, h5, h6, h7, h8, h9, h10, h11, h12, h13, h14, h15, h16, h17, h18, h19, h20, h21⟩
          go_wp2_with fail
          exact ⟨s43, s44, s45, s46, s47, s48, s49, s50, s51, s52, s53, s54, s55, s56, _, s58, s59, s60, s61, s62, s63, s6, rfl, HS, h0, h1, h2, h3, h4, h5, h6, h7, h8, h9, h10, h11, h12, h13, fun _ => rfl, h15, h16, h17, h18, h19, h20, h21⟩
        case o15 =>
          rintro d _ v hd hr ⟨s43, s44, s45, s46, s47, s48, s49, s50, s51, s52, s53, s54, s55, s56, s57, s58, s59, s60, s61, s62, s63, s6, rfl, HS, h0, h1, h2, h3, h4, h5, h6, h7, h8, h9, h10, h11, h12, h13, h14, h15, h16, h17, h18, h19, h20, h21⟩
          go_wp2_with fail
          exact ⟨s43, s44, s45, s46, s47, s48, s49, s50, s51, s52, s53, s54, s55, s56, s57, _, s59, s60, s61, s62, s63, s6, rfl, HS, h0, h1, h2, h3, h4, h5, h6, h7, h8, h9, h10, h11, h12, h13, h14, fun _ => rfl, h16, h17, h18, h19, h20, h21⟩
        case o16 =>
          rintro d _ v hd hr ⟨s43, s44, s45, s46, s47, s48, s49, s50, s51, s52, s53, s54, s55, s56, s57, s58, s59, s60, s61, s62, s63, s6, rfl, HS, h0, h1, h2, h3, h4, h5, h6, h7, h8, h9, h10, h11, h12, h13, h14, h15, h16, h17, h18, h19, h20, h21⟩
          have e14 : d 14 = true := by first | exact hr.1 rfl | exact hr.2.1 rfl | exact hr.2.2.1 rfl | exact hr.2.2.2.1 rfl | exact hr.2.2.2.2.1 rfl
          obtain rfl := h14 e14
          have e15 : d 15 = true := by first | exact hr.1 rfl | exact hr.2.1 rfl | exact hr.2.2.1 rfl | exact hr.2.2.2.1 rfl | exact hr.2.2.2.2.1 rfl
          obtain rfl := h15 e15
          go_wp2_with fail
          exact ⟨s43, s44, s45, s46, s47, s48, s49, s50, s51, s52, s53, s54, s55, s56, _, _, _, s60, s61, s62, s63, s6, rfl, HS, h0, h1, h2, h3, h4, h5, h6, h7, h8, h9, h10, h11, h12, h13, fun _ => rfl, fun _ => rfl, fun _ => rfl, h17, h18, h19, h20, h21⟩
        case o17 =>
          rintro d _ v hd hr ⟨s43, s44, s45, s46, s47, s48, s49, s50, s51, s52, s53, s54, s55, s56, s57, s58, s59, s60, s61, s62, s63, s6, rfl, HS, h0, h1, h2, h3, h4, h5, h6, h7, h8, h9, h10, h11, h12, h13, h14, h15, h16, h17, h18, h19, h20, h21⟩
          have e16 : d 16 = true := by first | exact hr.1 rfl | exact hr.2.1 rfl | exact hr.2.2.1 rfl | exact hr.2.2.2.1 rfl | exact hr.2.2.2.2.1 rfl
          obtain rfl := h16 e16
          go_wp2_with fail
          exact ⟨s43, s44, s45, s46, s47, s48, s49, s50, s51, s52, s53, s54, s55, s56, s57, s58, _, _, s61, s62, s63, s6, rfl, HS.below ((Below.refl _ v).alloc (Nat.le_refl _) _), h0, fun q => (h1 q).below ((Below.refl _ v).alloc (Nat.le_refl _) _), h2, h3, h4, h5, fun q => (h6 q).below ((Below.refl _ v).alloc (Nat.le_refl _) _), h7, h8, h9, h10, fun q => (h11 q).below ((Below.refl _ v).alloc (Nat.le_refl _) _), h12, h13, h14, h15, fun _ => rfl, fun _ => Bx.new _ _ _ _, h18, h19, h20, h21⟩
        case o18 =>
          rintro d _ v hd hr ⟨s43, s44, s45, s46, s47, s48, s49, s50, s51, s52, s53, s54, s55, s56, s57, s58, s59, s60, s61, s62, s63, s6, rfl, HS, h0, h1, h2, h3, h4, h5, h6, h7, h8, h9, h10, h11, h12, h13, h14, h15, h16, h17, h18, h19, h20, h21⟩
          have e17 : d 17 = true := by first | exact hr.1 rfl | exact hr.2.1 rfl | exact hr.2.2.1 rfl | exact hr.2.2.2.1 rfl | exact hr.2.2.2.2.1 rfl
          obtain ⟨g17, t17, rfl, m17⟩ := h17 e17
          go_wp2_with fail
          refine (sum1_any g17 t17 C k cc 1 h _ m17 HS.c Hh.out HLc.out hcc).mono ?_
          rintro e v' ⟨rfl, hw⟩
          go_wp2_with fail
          exact ⟨s43, s44, s45, s46, s47, s48, s49, s50, s51, s52, s53, s54, s55, s56, s57, s58, s59, _, _, s62, s63, s6, rfl, HS.below hw, h0, fun q => (h1 q).below hw, h2, h3, h4, h5, fun q => (h6 q).below hw, h7, h8, h9, h10, fun q => (h11 q).below hw, h12, h13, h14, h15, h16, fun _ => Bx.below ⟨g17, t17, rfl, m17⟩ hw, fun _ => rfl, h19, h20, h21⟩
        case o19 =>
          rintro d _ v hd hr ⟨s43, s44, s45, s46, s47, s48, s49, s50, s51, s52, s53, s54, s55, s56, s57, s58, s59, s60, s61, s62, s63, s6, rfl, HS, h0, h1, h2, h3, h4, h5, h6, h7, h8, h9, h10, h11, h12, h13, h14, h15, h16, h17, h18, h19, h20, h21⟩
          have e13 : d 13 = true := by first | exact hr.1 rfl | exact hr.2.1 rfl | exact hr.2.2.1 rfl | exact hr.2.2.2.1 rfl | exact hr.2.2.2.2.1 rfl
          obtain rfl := h13 e13
          have e18 : d 18 = true := by first | exact hr.1 rfl | exact hr.2.1 rfl | exact hr.2.2.1 rfl | exact hr.2.2.2.1 rfl | exact hr.2.2.2.2.1 rfl
          obtain rfl := h18 e18
          have X2 := HX2.out
          go_wp2_with fail
          exact ⟨s43, s44, s45, s46, s47, s48, s49, s50, s51, s52, s53, s54, s55, _, s57, s58, s59, s60, _, _, s63, s6, rfl, HS, h0, h1, h2, h3, h4, h5, h6, h7, h8, h9, h10, h11, h12, fun _ => rfl, h14, h15, h16, h17, fun _ => rfl, fun _ => rfl, h20, h21⟩
        case o20 =>
          rintro d _ v hd hr ⟨s43, s44, s45, s46, s47, s48, s49, s50, s51, s52, s53, s54, s55, s56, s57, s58, s59, s60, s61, s62, s63, s6, rfl, HS, h0, h1, h2, h3, h4, h5, h6, h7, h8, h9, h10, h11, h12, h13, h14, h15, h16, h17, h18, h19, h20, h21⟩
          have e2 : d 2 = true := by first | exact hr.1 rfl | exact hr.2.1 rfl | exact hr.2.2.1 rfl | exact hr.2.2.2.1 rfl | exact hr.2.2.2.2.1 rfl
          obtain rfl := h2 e2
          have e19 : d 19 = true := by first | exact hr.1 rfl | exact hr.2.1 rfl | exact hr.2.2.1 rfl | exact hr.2.2.2.1 rfl | exact hr.2.2.2.2.1 rfl
          obtain rfl := h19 e19
          go_wp2_with fail
          exact ⟨s43, s44, _, s46, s47, s48, s49, s50, s51, s52, s53, s54, s55, s56, s57, s58, s59, s60, s61, _, _, s6, rfl, HS, h0, h1, fun _ => rfl, h3, h4, h5, h6, h7, h8, h9, h10, h11, h12, h13, h14, h15, h16, h17, h18, fun _ => rfl, fun _ => rfl, h21⟩
        case o21 =>
          rintro d _ v hd hr ⟨s43, s44, s45, s46, s47, s48, s49, s50, s51, s52, s53, s54, s55, s56, s57, s58, s59, s60, s61, s62, s63, s6, rfl, HS, h0, h1, h2, h3, h4, h5, h6, h7, h8, h9, h10, h11, h12, h13, h14, h15, h16, h17, h18, h19, h20, h21⟩
          have e20 : d 20 = true := by first | exact hr.1 rfl | exact hr.2.1 rfl | exact hr.2.2.1 rfl | exact hr.2.2.2.1 rfl | exact hr.2.2.2.2.1 rfl
          obtain rfl := h20 e20
          go_wp2_with fail
          exact ⟨s43, s44, s45, s46, s47, s48, s49, s50, s51, s52, s53, s54, s55, s56, s57, s58, s59, s60, s61, s62, _, _, rfl, HS, h0, h1, h2, h3, h4, h5, h6, h7, h8, h9, h10, h11, h12, h13, h14, h15, h16, h17, h18, h19, fun _ => rfl, fun _ => rfl⟩
      case he =>
        rintro d _ v hd ⟨s43, s44, s45, s46, s47, s48, s49, s50, s51, s52, s53, s54, s55, s56, s57, s58, s59, s60, s61, s62, s63, s6, rfl, HS, -, -, -, -, -, -, -, -, -, -, -, -, -, -, -, -, -, -, -, -, -, hz⟩
        obtain rfl := hz (hd 21 (by decide))
        go_wp2_with fail
        go_ret
        exact ⟨rfl, HS.old⟩
end Go.Proofs.Ytlejmoaeijjnbaa

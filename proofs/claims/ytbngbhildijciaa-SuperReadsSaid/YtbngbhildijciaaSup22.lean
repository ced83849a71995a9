/- The walk of quernref06.ReadDescs. -/
import Derived.Test.YtbngbhildijciaaSup21
namespace Go.Proofs.Ytbngbhildijciaa
open Go.RowKit Go.BigFrame
set_option linter.unusedVariables false

def Rd7 (w : World) (f : Nat → Int) (a b c d_ : Int) (k : Nat) (V : Value) (p0 p1 p4 p5 p8 p9 p10 p11 p12 p13 p14 p15 p16 p35 p36 p37 p38 p39 p40 p41 p42 p43 p44 p45 p46 p47 p48 p49 p50 p51 p52 p53 p54 p55 p56 p57 p58 p59 p60 : Value) (d : Nat → Bool) (A : Act) (v : World) : Prop := ∃ s17 s18 s19 s20 s21 s22 s23 s24 s25 s26 s27 s28 s29 s30 s31 s32 s33 s34 s6, A = { tmps := (p0 :: p1 :: Value.pointer (some ⟨w.heap.size, 0, none⟩) :: Value.pointer (some ⟨w.heap.size + 1, 0, none⟩) :: p4 :: p5 :: s6 :: Value.int .i64 (k : Int) :: p8 :: p9 :: p10 :: p11 :: p12 :: p13 :: p14 :: p15 :: p16 :: s17 :: s18 :: s19 :: s20 :: s21 :: s22 :: s23 :: s24 :: s25 :: s26 :: s27 :: s28 :: s29 :: s30 :: s31 :: s32 :: s33 :: s34 :: p35 :: p36 :: p37 :: p38 :: p39 :: p40 :: p41 :: p42 :: p43 :: p44 :: p45 :: p46 :: p47 :: p48 :: p49 :: p50 :: p51 :: p52 :: p53 :: p54 :: p55 :: p56 :: p57 :: p58 :: p59 :: p60 :: []).toArray, defers := [] } ∧ (LSt w a b c d_ f v ∧ (d 17 = false → OwD v (w.heap.size + 2) V k (rdD f))) ∧ (d 0 = true → s17 = V) ∧ (d 1 = true → s18 = Value.agg (bytesOf 256 f)) ∧ (d 2 = true → s19 = Value.int .i64 (k : Int)) ∧ (d 3 = true → s20 = Value.int .i64 (8 * (k : Int))) ∧ (d 4 = true → s21 = Value.int .i64 (part f (8 * k) 2)) ∧ (d 5 = true → s22 = Value.agg (bytesOf 256 f)) ∧ (d 6 = true → s23 = Value.int .i64 (k : Int)) ∧ (d 7 = true → s24 = Value.int .i64 (8 * (k : Int))) ∧ (d 8 = true → s25 = Value.int .i64 (8 * (k : Int) + 2)) ∧ (d 9 = true → s26 = Value.int .i64 (part f (8 * k + 2) 2)) ∧ (d 10 = true → s27 = Value.agg (bytesOf 256 f)) ∧ (d 11 = true → s28 = Value.int .i64 (k : Int)) ∧ (d 12 = true → s29 = Value.int .i64 (8 * (k : Int))) ∧ (d 13 = true → s30 = Value.int .i64 (8 * (k : Int) + 4)) ∧ (d 14 = true → s31 = Value.int .i64 (part f (8 * k + 4) 2)) ∧ (d 15 = true → s32 = Value.agg #[.int .i64 (part f (8 * k) 2), .int .i64 (part f (8 * k + 2) 2), .int .i64 (part f (8 * k + 4) 2)]) ∧ (d 16 = true → d 17 = false → Bx v s33 (deC (rdD f k)) 1) ∧ (d 17 = true → OwD v (w.heap.size + 2) s34 (k + 1) (rdD f)) ∧ (d 18 = true → OwD v (w.heap.size + 2) s6 (k + 1) (rdD f)) ∧ (d 18 = true → d 17 = true) ∧ (d 17 = true → d 0 = true) ∧ (d 18 = false → s6 = V)
theorem Rd7.elim {w : World} {f : Nat → Int} {a b c d_ : Int} {k : Nat} {V : Value} {p0 p1 p4 p5 p8 p9 p10 p11 p12 p13 p14 p15 p16 p35 p36 p37 p38 p39 p40 p41 p42 p43 p44 p45 p46 p47 p48 p49 p50 p51 p52 p53 p54 p55 p56 p57 p58 p59 p60 : Value} {d : Nat → Bool} {A : Act} {v : World} (H : Rd7 w f a b c d_ k V p0 p1 p4 p5 p8 p9 p10 p11 p12 p13 p14 p15 p16 p35 p36 p37 p38 p39 p40 p41 p42 p43 p44 p45 p46 p47 p48 p49 p50 p51 p52 p53 p54 p55 p56 p57 p58 p59 p60 d A v) {GG : Prop} (k : ∀ s17 s18 s19 s20 s21 s22 s23 s24 s25 s26 s27 s28 s29 s30 s31 s32 s33 s34 s6, A = { tmps := (p0 :: p1 :: Value.pointer (some ⟨w.heap.size, 0, none⟩) :: Value.pointer (some ⟨w.heap.size + 1, 0, none⟩) :: p4 :: p5 :: s6 :: Value.int .i64 (k : Int) :: p8 :: p9 :: p10 :: p11 :: p12 :: p13 :: p14 :: p15 :: p16 :: s17 :: s18 :: s19 :: s20 :: s21 :: s22 :: s23 :: s24 :: s25 :: s26 :: s27 :: s28 :: s29 :: s30 :: s31 :: s32 :: s33 :: s34 :: p35 :: p36 :: p37 :: p38 :: p39 :: p40 :: p41 :: p42 :: p43 :: p44 :: p45 :: p46 :: p47 :: p48 :: p49 :: p50 :: p51 :: p52 :: p53 :: p54 :: p55 :: p56 :: p57 :: p58 :: p59 :: p60 :: []).toArray, defers := [] } → (LSt w a b c d_ f v ∧ (d 17 = false → OwD v (w.heap.size + 2) V k (rdD f))) → (d 0 = true → s17 = V) → (d 1 = true → s18 = Value.agg (bytesOf 256 f)) → (d 2 = true → s19 = Value.int .i64 (k : Int)) → (d 3 = true → s20 = Value.int .i64 (8 * (k : Int))) → (d 4 = true → s21 = Value.int .i64 (part f (8 * k) 2)) → (d 5 = true → s22 = Value.agg (bytesOf 256 f)) → (d 6 = true → s23 = Value.int .i64 (k : Int)) → (d 7 = true → s24 = Value.int .i64 (8 * (k : Int))) → (d 8 = true → s25 = Value.int .i64 (8 * (k : Int) + 2)) → (d 9 = true → s26 = Value.int .i64 (part f (8 * k + 2) 2)) → (d 10 = true → s27 = Value.agg (bytesOf 256 f)) → (d 11 = true → s28 = Value.int .i64 (k : Int)) → (d 12 = true → s29 = Value.int .i64 (8 * (k : Int))) → (d 13 = true → s30 = Value.int .i64 (8 * (k : Int) + 4)) → (d 14 = true → s31 = Value.int .i64 (part f (8 * k + 4) 2)) → (d 15 = true → s32 = Value.agg #[.int .i64 (part f (8 * k) 2), .int .i64 (part f (8 * k + 2) 2), .int .i64 (part f (8 * k + 4) 2)]) → (d 16 = true → d 17 = false → Bx v s33 (deC (rdD f k)) 1) → (d 17 = true → OwD v (w.heap.size + 2) s34 (k + 1) (rdD f)) → (d 18 = true → OwD v (w.heap.size + 2) s6 (k + 1) (rdD f)) → (d 18 = true → d 17 = true) → (d 17 = true → d 0 = true) → (d 18 = false → s6 = V) → GG) : GG := by
  obtain ⟨s17, s18, s19, s20, s21, s22, s23, s24, s25, s26, s27, s28, s29, s30, s31, s32, s33, s34, s6, e, HS, h0, h1, h2, h3, h4, h5, h6, h7, h8, h9, h10, h11, h12, h13, h14, h15, h16, h17, h18, h19, h20, h21⟩ := H
  exact k s17 s18 s19 s20 s21 s22 s23 s24 s25 s26 s27 s28 s29 s30 s31 s32 s33 s34 s6 e HS h0 h1 h2 h3 h4 h5 h6 h7 h8 h9 h10 h11 h12 h13 h14 h15 h16 h17 h18 h19 h20 h21

def RrEnd (w : World) (n : Nat) (b c : Int) (f : Nat → Int) (e : Ending) (w' : World) : Prop :=
  (∃ A c', e = .returned (.tuple #[.slice A (if okD n b c f then n else 0) c', .int .i64 (if okD n b c f then 0 else 60)]) ∧ Ds w' A (if okD n b c f then n else 0) (rdD f)) ∧ Below w.heap.size w w'
theorem RrEnd.yes {w w' : World} {n c' : Nat} {b c : Int} {f : Nat → Int} {A : Option Addr} (k : okD n b c f) (h : Ds w' A n (rdD f)) (B : Below w.heap.size w w') : RrEnd w n b c f (.returned (.tuple #[.slice A n c', .int .i64 0])) w' :=
  ⟨⟨A, c', by rw [if_pos k, if_pos k], by rw [if_pos k]; exact h⟩, B⟩
theorem RrEnd.no {w w' : World} {n : Nat} {b c : Int} {f : Nat → Int} (k : ¬ okD n b c f) (B : Below w.heap.size w w') : RrEnd w n b c f (.returned (.tuple #[.slice none 0 0, .int .i64 60])) w' :=
  ⟨⟨none, 0, by rw [if_neg k, if_neg k], by rw [if_neg k]; exact fun q => absurd q (by omega)⟩, B⟩
structure RT (w : World) (n : Nat) (b c d : Int) (f : Nat → Int) (A : Option Addr) (v : World) : Prop where
  st : LSt w n b c d f v
  ds : Ds v A n (rdD f)
theorem RT.steps {w : World} {n : Nat} {b c d : Int} {f : Nat → Int} {A : Option Addr} : ∀ v v', RT w n b c d f A v → Below v.heap.size v v' → RT w n b c d f A v' := fun v v' h k => ⟨h.st.upto k h.st.lt, h.ds.old k⟩
theorem LSt.drew {W v : World} {a b c d : Int} {f : Nat → Int} (h : LSt W a b c d f v) : LSt W a b c d f v.drew := ⟨h.geo, h.blk, h.old.drew⟩
theorem OwD.drew {w : World} {base n : Nat} {v : Value} {D : Nat → De} (h : OwD w base v n D) : OwD w.drew base v n D := h
set_option maxRecDepth 100000 in
set_option maxHeartbeats 1000000 in
theorem rrdescs_geo (a b c d : Int) (f : Nat → Int) (w : World) (h : ¬ mayP a b c d) :
    Calls Try.prog 19 #[geoV a b c d, blkV f] w fun e w' => e = .returned (.tuple #[.slice none 0 0, .int .i64 50]) ∧ Below w.heap.size w w' := by
  have H : Hid (mayB a b c d = false) := decide_eq_false h
  have S0 := hide (LSt.start w a b c d f 23 29)
  clear h
  unfold geoV blkV
  go_enter Try.func19, Try.ntmps19
  go_wp2_with (refine ldG rfl (.tmp 2) rfl _ _ _ _ _ rfl S0.out.geo ?_)
  refine (refMay_any a b c d _).mono ?_
  rintro e w1 ⟨rfl, hw⟩
  rw [H.out]
  have S1 := hide (S0.out.upto hw S0.out.lt)
  clear hw S0
  go_wp2_with fail
  go_ret2
  exact ⟨rfl, S1.out.old⟩
set_option maxRecDepth 100000 in
set_option maxHeartbeats 4000000 in
theorem rrdescs_ok (n : Nat) (b c d_ : Int) (f : Nat → Int) (w : World) (hf : IsByte f) (h : mayP n b c d_) :
    Calls Try.prog 19 #[geoV n b c d_, blkV f] w (RrEnd w n b c f) := by
  have H : Hid (mayB n b c d_ = true) := decide_eq_true h
  have HMa := hide h
  have hn4 : n ≤ 4 := by have := h.1; omega
  have hn1 : 1 ≤ n := by have := h.1; omega
  have HF := hide hf
  have HK := hide (okD_iff (a := n) (b := b) (c := c) hf (by omega) hn4)
  have S0 := hide (LSt.start w n b c d_ f 23 29)
  clear h
  unfold geoV blkV
  go_enter Try.func19, Try.ntmps19
  go_wp2_with (refine ldG rfl (.tmp 2) rfl _ _ _ _ _ rfl S0.out.geo ?_)
  refine (refMay_any n b c d_ _).mono ?_
  rintro e w1 ⟨rfl, hw⟩
  rw [H.out]
  have S1 := hide (S0.out.upto hw S0.out.lt)
  clear hw S0 hf
  go_wp2_with fail
  go_loopw [6, 7] (fun l i wr => ∃ k : Nat, k ≤ n ∧ i = .int .i64 k ∧ OwD wr (w.heap.size + 2) l k (rdD f) ∧ LSt w n b c d_ f wr ∧ ∀ j, j < k → part f (8 * j + 6) 2 = 0) (fun _ i _ => n - (intOf i).toNat)
  case atStart => exact ⟨0, by omega, rfl, OwD.nil _ _ _, S1.out, fun j hj => absurd hj (by omega)⟩
  case round =>
    obtain ⟨k, hk, rfl, hO, hS, hZ⟩ := hrel
    clear S1
    have S2 := hide hS
    have O2 := hide hO
    have Z2 := hide hZ
    clear hS hO hZ
    obtain ⟨g0, g1, g2, g3⟩ := S2.out.geo.cells
    by_cases hkn : k < n
    · have hk0 : (0 : Int) ≤ k := by omega
      have hk1 : (k : Int) < n := by omega
      have hk2 : (k : Int) ≤ 4 := by omega
      go_wp2_with fail
      have hf := HF.out
      refine wp_region_steps (by kernel_rfl) (by kernel_rfl) (Rd7 w f n b c d_ k _ _ _ _ _ _ _ _ _ _ _ _ _ _ _ _ _ _ _ _ _ _ _ _ _ _ _ _ _ _ _ _ _ _ _ _ _ _ _ _) ⟨_, _, _, _, _, _, _, _, _, _, _, _, _, _, _, _, _, _, _, rfl, ⟨S2.out.drew, fun _ => O2.out⟩, (fun e => Bool.noConfusion e), (fun e => Bool.noConfusion e), (fun e => Bool.noConfusion e), (fun e => Bool.noConfusion e), (fun e => Bool.noConfusion e), (fun e => Bool.noConfusion e), (fun e => Bool.noConfusion e), (fun e => Bool.noConfusion e), (fun e => Bool.noConfusion e), (fun e => Bool.noConfusion e), (fun e => Bool.noConfusion e), (fun e => Bool.noConfusion e), (fun e => Bool.noConfusion e), (fun e => Bool.noConfusion e), (fun e => Bool.noConfusion e), (fun e => Bool.noConfusion e), (fun e => Bool.noConfusion e), (fun e => Bool.noConfusion e), (fun e => Bool.noConfusion e), (fun e => Bool.noConfusion e), (fun e => Bool.noConfusion e), (fun _ => rfl)⟩ ?hs ?he
      case hs =>
        go_tidy
        refine ⟨?o0, ?o1, ?o2, ?o3, ?o4, ?o5, ?o6, ?o7, ?o8, ?o9, ?o10, ?o11, ?o12, ?o13, ?o14, ?o15, ?o16, ?o17, ?o18, trivial⟩
        case o0 =>
          intro d a v hd hr hJ; refine Rd7.elim hJ ?_; intro s17 s18 s19 s20 s21 s22 s23 s24 s25 s26 s27 s28 s29 s30 s31 s32 s33 s34 s6 e HS h0 h1 h2 h3 h4 h5 h6 h7 h8 h9 h10 h11 h12 h13 h14 h15 h16 h17 h18 h19 h20 h21; subst e
          have e18 : d 18 = false := by cases q : d 18 with | true => exact absurd (h20 (h19 q)) (by rw [hd]; decide) | false => rfl
          obtain rfl := h21 e18
          go_wp2_with fail
          exact ⟨_, s18, s19, s20, s21, s22, s23, s24, s25, s26, s27, s28, s29, s30, s31, s32, s33, s34, _, rfl, HS, fun _ => rfl, h1, h2, h3, h4, h5, h6, h7, h8, h9, h10, h11, h12, h13, h14, h15, h16, h17, h18, h19, fun _ => setB_same d 0, fun _ => rfl⟩
        case o1 =>
          intro d a v hd hr hJ; refine Rd7.elim hJ ?_; intro s17 s18 s19 s20 s21 s22 s23 s24 s25 s26 s27 s28 s29 s30 s31 s32 s33 s34 s6 e HS h0 h1 h2 h3 h4 h5 h6 h7 h8 h9 h10 h11 h12 h13 h14 h15 h16 h17 h18 h19 h20 h21; subst e
          go_wp2_with (refine ld256 rfl (.tmp 3) rfl _ _ rfl HS.1.blk ?_)
          exact ⟨s17, _, s19, s20, s21, s22, s23, s24, s25, s26, s27, s28, s29, s30, s31, s32, s33, s34, s6, rfl, HS, h0, fun _ => rfl, h2, h3, h4, h5, h6, h7, h8, h9, h10, h11, h12, h13, h14, h15, h16, h17, h18, h19, h20, h21⟩
        case o2 =>
          intro d a v hd hr hJ; refine Rd7.elim hJ ?_; intro s17 s18 s19 s20 s21 s22 s23 s24 s25 s26 s27 s28 s29 s30 s31 s32 s33 s34 s6 e HS h0 h1 h2 h3 h4 h5 h6 h7 h8 h9 h10 h11 h12 h13 h14 h15 h16 h17 h18 h19 h20 h21; subst e
          go_wp2_with fail
          exact ⟨s17, s18, _, s20, s21, s22, s23, s24, s25, s26, s27, s28, s29, s30, s31, s32, s33, s34, s6, rfl, HS, h0, h1, fun _ => rfl, h3, h4, h5, h6, h7, h8, h9, h10, h11, h12, h13, h14, h15, h16, h17, h18, h19, h20, h21⟩
        case o3 =>
          intro d a v hd hr hJ; refine Rd7.elim hJ ?_; intro s17 s18 s19 s20 s21 s22 s23 s24 s25 s26 s27 s28 s29 s30 s31 s32 s33 s34 s6 e HS h0 h1 h2 h3 h4 h5 h6 h7 h8 h9 h10 h11 h12 h13 h14 h15 h16 h17 h18 h19 h20 h21; subst e
          have e2 : d 2 = true := by first | exact hr.1 rfl | exact hr.2.1 rfl | exact hr.2.2.1 rfl | exact hr.2.2.2.1 rfl | exact hr.2.2.2.2.1 rfl
          obtain rfl := h2 e2
          go_wp2_with fail
          exact ⟨s17, s18, _, _, s21, s22, s23, s24, s25, s26, s27, s28, s29, s30, s31, s32, s33, s34, s6, rfl, HS, h0, h1, fun _ => rfl, fun _ => rfl, h4, h5, h6, h7, h8, h9, h10, h11, h12, h13, h14, h15, h16, h17, h18, h19, h20, h21⟩
        case o4 =>
          intro d a v hd hr hJ; refine Rd7.elim hJ ?_; intro s17 s18 s19 s20 s21 s22 s23 s24 s25 s26 s27 s28 s29 s30 s31 s32 s33 s34 s6 e HS h0 h1 h2 h3 h4 h5 h6 h7 h8 h9 h10 h11 h12 h13 h14 h15 h16 h17 h18 h19 h20 h21; subst e
          have e1 : d 1 = true := by first | exact hr.1 rfl | exact hr.2.1 rfl | exact hr.2.2.1 rfl | exact hr.2.2.2.1 rfl | exact hr.2.2.2.2.1 rfl
          obtain rfl := h1 e1
          have e3 : d 3 = true := by first | exact hr.1 rfl | exact hr.2.1 rfl | exact hr.2.2.1 rfl | exact hr.2.2.2.1 rfl | exact hr.2.2.2.2.1 rfl
          obtain rfl := h3 e3
          go_wp2_with fail
          refine (rshort_any f _ (8 * k) _ hf (by go_num) (by omega)).mono ?_
          rintro e v' ⟨rfl, hw⟩
          go_wp2_with fail
          exact ⟨s17, _, s19, _, _, s22, s23, s24, s25, s26, s27, s28, s29, s30, s31, s32, s33, s34, s6, rfl, ⟨HS.1.upto hw HS.1.lt, fun q => (HS.2 q).below hw⟩, h0, fun _ => rfl, h2, fun _ => rfl, fun _ => rfl, h5, h6, h7, h8, h9, h10, h11, h12, h13, h14, h15, fun q r => (h16 q r).below hw, fun q => (h17 q).below hw, fun q => (h18 q).below hw, h19, h20, h21⟩
        case o5 =>
          intro d a v hd hr hJ; refine Rd7.elim hJ ?_; intro s17 s18 s19 s20 s21 s22 s23 s24 s25 s26 s27 s28 s29 s30 s31 s32 s33 s34 s6 e HS h0 h1 h2 h3 h4 h5 h6 h7 h8 h9 h10 h11 h12 h13 h14 h15 h16 h17 h18 h19 h20 h21; subst e
          go_wp2_with (refine ld256 rfl (.tmp 3) rfl _ _ rfl HS.1.blk ?_)
          exact ⟨s17, s18, s19, s20, s21, _, s23, s24, s25, s26, s27, s28, s29, s30, s31, s32, s33, s34, s6, rfl, HS, h0, h1, h2, h3, h4, fun _ => rfl, h6, h7, h8, h9, h10, h11, h12, h13, h14, h15, h16, h17, h18, h19, h20, h21⟩
        case o6 =>
          intro d a v hd hr hJ; refine Rd7.elim hJ ?_; intro s17 s18 s19 s20 s21 s22 s23 s24 s25 s26 s27 s28 s29 s30 s31 s32 s33 s34 s6 e HS h0 h1 h2 h3 h4 h5 h6 h7 h8 h9 h10 h11 h12 h13 h14 h15 h16 h17 h18 h19 h20 h21; subst e
          go_wp2_with fail
          exact ⟨s17, s18, s19, s20, s21, s22, _, s24, s25, s26, s27, s28, s29, s30, s31, s32, s33, s34, s6, rfl, HS, h0, h1, h2, h3, h4, h5, fun _ => rfl, h7, h8, h9, h10, h11, h12, h13, h14, h15, h16, h17, h18, h19, h20, h21⟩
        case o7 =>
          intro d a v hd hr hJ; refine Rd7.elim hJ ?_; intro s17 s18 s19 s20 s21 s22 s23 s24 s25 s26 s27 s28 s29 s30 s31 s32 s33 s34 s6 e HS h0 h1 h2 h3 h4 h5 h6 h7 h8 h9 h10 h11 h12 h13 h14 h15 h16 h17 h18 h19 h20 h21; subst e
          have e6 : d 6 = true := by first | exact hr.1 rfl | exact hr.2.1 rfl | exact hr.2.2.1 rfl | exact hr.2.2.2.1 rfl | exact hr.2.2.2.2.1 rfl
          obtain rfl := h6 e6
          go_wp2_with fail
          exact ⟨s17, s18, s19, s20, s21, s22, _, _, s25, s26, s27, s28, s29, s30, s31, s32, s33, s34, s6, rfl, HS, h0, h1, h2, h3, h4, h5, fun _ => rfl, fun _ => rfl, h8, h9, h10, h11, h12, h13, h14, h15, h16, h17, h18, h19, h20, h21⟩
        case o8 =>
          intro d a v hd hr hJ; refine Rd7.elim hJ ?_; intro s17 s18 s19 s20 s21 s22 s23 s24 s25 s26 s27 s28 s29 s30 s31 s32 s33 s34 s6 e HS h0 h1 h2 h3 h4 h5 h6 h7 h8 h9 h10 h11 h12 h13 h14 h15 h16 h17 h18 h19 h20 h21; subst e
          have e7 : d 7 = true := by first | exact hr.1 rfl | exact hr.2.1 rfl | exact hr.2.2.1 rfl | exact hr.2.2.2.1 rfl | exact hr.2.2.2.2.1 rfl
          obtain rfl := h7 e7
          go_wp2_with fail
          exact ⟨s17, s18, s19, s20, s21, s22, s23, _, _, s26, s27, s28, s29, s30, s31, s32, s33, s34, s6, rfl, HS, h0, h1, h2, h3, h4, h5, h6, fun _ => rfl, fun _ => rfl, h9, h10, h11, h12, h13, h14, h15, h16, h17, h18, h19, h20, h21⟩
        case o9 =>
          intro d a v hd hr hJ; refine Rd7.elim hJ ?_; intro s17 s18 s19 s20 s21 s22 s23 s24 s25 s26 s27 s28 s29 s30 s31 s32 s33 s34 s6 e HS h0 h1 h2 h3 h4 h5 h6 h7 h8 h9 h10 h11 h12 h13 h14 h15 h16 h17 h18 h19 h20 h21; subst e
          have e5 : d 5 = true := by first | exact hr.1 rfl | exact hr.2.1 rfl | exact hr.2.2.1 rfl | exact hr.2.2.2.1 rfl | exact hr.2.2.2.2.1 rfl
          obtain rfl := h5 e5
          have e8 : d 8 = true := by first | exact hr.1 rfl | exact hr.2.1 rfl | exact hr.2.2.1 rfl | exact hr.2.2.2.1 rfl | exact hr.2.2.2.2.1 rfl
          obtain rfl := h8 e8
          go_wp2_with fail
          refine (rshort_any f _ (8 * k + 2) _ hf (by go_num) (by omega)).mono ?_
          rintro e v' ⟨rfl, hw⟩
          go_wp2_with fail
          exact ⟨s17, s18, s19, s20, s21, _, s23, s24, _, _, s27, s28, s29, s30, s31, s32, s33, s34, s6, rfl, ⟨HS.1.upto hw HS.1.lt, fun q => (HS.2 q).below hw⟩, h0, h1, h2, h3, h4, fun _ => rfl, h6, h7, fun _ => rfl, fun _ => rfl, h10, h11, h12, h13, h14, h15, fun q r => (h16 q r).below hw, fun q => (h17 q).below hw, fun q => (h18 q).below hw, h19, h20, h21⟩
        case o10 =>
          intro d a v hd hr hJ; refine Rd7.elim hJ ?_; intro s17 s18 s19 s20 s21 s22 s23 s24 s25 s26 s27 s28 s29 s30 s31 s32 s33 s34 s6 e HS h0 h1 h2 h3 h4 h5 h6 h7 h8 h9 h10 h11 h12 h13 h14 h15 h16 h17 h18 h19 h20 h21; subst e
          go_wp2_with (refine ld256 rfl (.tmp 3) rfl _ _ rfl HS.1.blk ?_)
          exact ⟨s17, s18, s19, s20, s21, s22, s23, s24, s25, s26, _, s28, s29, s30, s31, s32, s33, s34, s6, rfl, HS, h0, h1, h2, h3, h4, h5, h6, h7, h8, h9, fun _ => rfl, h11, h12, h13, h14, h15, h16, h17, h18, h19, h20, h21⟩
        case o11 =>
          intro d a v hd hr hJ; refine Rd7.elim hJ ?_; intro s17 s18 s19 s20 s21 s22 s23 s24 s25 s26 s27 s28 s29 s30 s31 s32 s33 s34 s6 e HS h0 h1 h2 h3 h4 h5 h6 h7 h8 h9 h10 h11 h12 h13 h14 h15 h16 h17 h18 h19 h20 h21; subst e
          go_wp2_with fail
          exact ⟨s17, s18, s19, s20, s21, s22, s23, s24, s25, s26, s27, _, s29, s30, s31, s32, s33, s34, s6, rfl, HS, h0, h1, h2, h3, h4, h5, h6, h7, h8, h9, h10, fun _ => rfl, h12, h13, h14, h15, h16, h17, h18, h19, h20, h21⟩
        case o12 =>
          intro d a v hd hr hJ; refine Rd7.elim hJ ?_; intro s17 s18 s19 s20 s21 s22 s23 s24 s25 s26 s27 s28 s29 s30 s31 s32 s33 s34 s6 e HS h0 h1 h2 h3 h4 h5 h6 h7 h8 h9 h10 h11 h12 h13 h14 h15 h16 h17 h18 h19 h20 h21; subst e
          have e11 : d 11 = true := by first | exact hr.1 rfl | exact hr.2.1 rfl | exact hr.2.2.1 rfl | exact hr.2.2.2.1 rfl | exact hr.2.2.2.2.1 rfl
          obtain rfl := h11 e11
          go_wp2_with fail
          exact ⟨s17, s18, s19, s20, s21, s22, s23, s24, s25, s26, s27, _, _, s30, s31, s32, s33, s34, s6, rfl, HS, h0, h1, h2, h3, h4, h5, h6, h7, h8, h9, h10, fun _ => rfl, fun _ => rfl, h13, h14, h15, h16, h17, h18, h19, h20, h21⟩
        case o13 =>
          intro d a v hd hr hJ; refine Rd7.elim hJ ?_; intro s17 s18 s19 s20 s21 s22 s23 s24 s25 s26 s27 s28 s29 s30 s31 s32 s33 s34 s6 e HS h0 h1 h2 h3 h4 h5 h6 h7 h8 h9 h10 h11 h12 h13 h14 h15 h16 h17 h18 h19 h20 h21; subst e
          have e12 : d 12 = true := by first | exact hr.1 rfl | exact hr.2.1 rfl | exact hr.2.2.1 rfl | exact hr.2.2.2.1 rfl | exact hr.2.2.2.2.1 rfl
          obtain rfl := h12 e12
          go_wp2_with fail
          exact ⟨s17, s18, s19, s20, s21, s22, s23, s24, s25, s26, s27, s28, _, _, s31, s32, s33, s34, s6, rfl, HS, h0, h1, h2, h3, h4, h5, h6, h7, h8, h9, h10, h11, fun _ => rfl, fun _ => rfl, h14, h15, h16, h17, h18, h19, h20, h21⟩
        case o14 =>
          intro d a v hd hr hJ; refine Rd7.elim hJ ?_; intro s17 s18 s19 s20 s21 s22 s23 s24 s25 s26 s27 s28 s29 s30 s31 s32 s33 s34 s6 e HS h0 h1 h2 h3 h4 h5 h6 h7 h8 h9 h10 h11 h12 h13 h14 h15 h16 h17 h18 h19 h20 h21; subst e
          have e10 : d 10 = true := by first | exact hr.1 rfl | exact hr.2.1 rfl | exact hr.2.2.1 rfl | exact hr.2.2.2.1 rfl | exact hr.2.2.2.2.1 rfl
          obtain rfl := h10 e10
          have e13 : d 13 = true := by first | exact hr.1 rfl | exact hr.2.1 rfl | exact hr.2.2.1 rfl | exact hr.2.2.2.1 rfl | exact hr.2.2.2.2.1 rfl
          obtain rfl := h13 e13
          go_wp2_with fail
          refine (rshort_any f _ (8 * k + 4) _ hf (by go_num) (by omega)).mono ?_
          rintro e v' ⟨rfl, hw⟩
          go_wp2_with fail
          exact ⟨s17, s18, s19, s20, s21, s22, s23, s24, s25, s26, _, s28, s29, _, _, s32, s33, s34, s6, rfl, ⟨HS.1.upto hw HS.1.lt, fun q => (HS.2 q).below hw⟩, h0, h1, h2, h3, h4, h5, h6, h7, h8, h9, fun _ => rfl, h11, h12, fun _ => rfl, fun _ => rfl, h15, fun q r => (h16 q r).below hw, fun q => (h17 q).below hw, fun q => (h18 q).below hw, h19, h20, h21⟩
        case o15 =>
          intro d a v hd hr hJ; refine Rd7.elim hJ ?_; intro s17 s18 s19 s20 s21 s22 s23 s24 s25 s26 s27 s28 s29 s30 s31 s32 s33 s34 s6 e HS h0 h1 h2 h3 h4 h5 h6 h7 h8 h9 h10 h11 h12 h13 h14 h15 h16 h17 h18 h19 h20 h21; subst e
          have e4 : d 4 = true := by first | exact hr.1 rfl | exact hr.2.1 rfl | exact hr.2.2.1 rfl | exact hr.2.2.2.1 rfl | exact hr.2.2.2.2.1 rfl
          obtain rfl := h4 e4
          have e9 : d 9 = true := by first | exact hr.1 rfl | exact hr.2.1 rfl | exact hr.2.2.1 rfl | exact hr.2.2.2.1 rfl | exact hr.2.2.2.2.1 rfl
          obtain rfl := h9 e9
          have e14 : d 14 = true := by first | exact hr.1 rfl | exact hr.2.1 rfl | exact hr.2.2.1 rfl | exact hr.2.2.2.1 rfl | exact hr.2.2.2.2.1 rfl
          obtain rfl := h14 e14
          go_wp2_with fail
          exact ⟨s17, s18, s19, s20, _, s22, s23, s24, s25, _, s27, s28, s29, s30, _, _, s33, s34, s6, rfl, HS, h0, h1, h2, h3, fun _ => rfl, h5, h6, h7, h8, fun _ => rfl, h10, h11, h12, h13, fun _ => rfl, fun _ => rfl, h16, h17, h18, h19, h20, h21⟩
        case o16 =>
          intro d a v hd hr hJ; refine Rd7.elim hJ ?_; intro s17 s18 s19 s20 s21 s22 s23 s24 s25 s26 s27 s28 s29 s30 s31 s32 s33 s34 s6 e HS h0 h1 h2 h3 h4 h5 h6 h7 h8 h9 h10 h11 h12 h13 h14 h15 h16 h17 h18 h19 h20 h21; subst e
          have e15 : d 15 = true := by first | exact hr.1 rfl | exact hr.2.1 rfl | exact hr.2.2.1 rfl | exact hr.2.2.2.1 rfl | exact hr.2.2.2.2.1 rfl
          obtain rfl := h15 e15
          go_wp2_with fail
          exact ⟨s17, s18, s19, s20, s21, s22, s23, s24, s25, s26, s27, s28, s29, s30, s31, _, _, s34, s6, rfl, ⟨HS.1.upto ((Below.refl _ v).alloc (Nat.le_refl _) _) HS.1.lt, fun q => (HS.2 q).below ((Below.refl _ v).alloc (Nat.le_refl _) _)⟩, h0, h1, h2, h3, h4, h5, h6, h7, h8, h9, h10, h11, h12, h13, h14, fun _ => rfl, fun _ _ => Bx.new _ _ _ _, fun q => (h17 q).below ((Below.refl _ v).alloc (Nat.le_refl _) _), fun q => (h18 q).below ((Below.refl _ v).alloc (Nat.le_refl _) _), h19, h20, h21⟩
        case o17 =>
          intro d a v hd hr hJ; refine Rd7.elim hJ ?_; intro s17 s18 s19 s20 s21 s22 s23 s24 s25 s26 s27 s28 s29 s30 s31 s32 s33 s34 s6 e HS h0 h1 h2 h3 h4 h5 h6 h7 h8 h9 h10 h11 h12 h13 h14 h15 h16 h17 h18 h19 h20 h21; subst e
          have e0 : d 0 = true := by first | exact hr.1 rfl | exact hr.2.1 rfl | exact hr.2.2.1 rfl | exact hr.2.2.2.1 rfl | exact hr.2.2.2.2.1 rfl
          obtain rfl := h0 e0
          have e16 : d 16 = true := by first | exact hr.1 rfl | exact hr.2.1 rfl | exact hr.2.2.1 rfl | exact hr.2.2.2.1 rfl | exact hr.2.2.2.2.1 rfl
          obtain ⟨g, t, rfl, hg⟩ := h16 e16 hd
          have hlt := HS.1.lt
          go_wp2_with (at_builtin; refine appOne rfl (.tmp 17) (.tmp 33) rfl (w.heap.size + 2) k 1 g t _ (rdD f) rfl rfl (HS.2 hd) hg (by omega) (by omega) ?_; intro v2 v' ho2 hb2)
          exact ⟨_, s18, s19, s20, s21, s22, s23, s24, s25, s26, s27, s28, s29, s30, s31, s32, _, _, s6, rfl, ⟨HS.1.upto hb2 (by omega), fun q => absurd q (by simp [setB])⟩, fun _ => rfl, h1, h2, h3, h4, h5, h6, h7, h8, h9, h10, h11, h12, h13, h14, h15, fun _ q => absurd q (by simp [setB]), fun _ => ho2, fun q => absurd (h19 q) (by rw [hd]; decide), fun _ => setB_same d 17, fun _ => e0, h21⟩
        case o18 =>
          intro d a v hd hr hJ; refine Rd7.elim hJ ?_; intro s17 s18 s19 s20 s21 s22 s23 s24 s25 s26 s27 s28 s29 s30 s31 s32 s33 s34 s6 e HS h0 h1 h2 h3 h4 h5 h6 h7 h8 h9 h10 h11 h12 h13 h14 h15 h16 h17 h18 h19 h20 h21; subst e
          go_wp2_with fail
          have e17 : d 17 = true := by first | exact hr.1 rfl | exact hr.2.1 rfl | exact hr.2.2.1 rfl | exact hr.2.2.2.1 rfl | exact hr.2.2.2.2.1 rfl
          exact ⟨s17, s18, s19, s20, s21, s22, s23, s24, s25, s26, s27, s28, s29, s30, s31, s32, s33, s34, _, rfl, HS, h0, h1, h2, h3, h4, h5, h6, h7, h8, h9, h10, h11, h12, h13, h14, h15, h16, h17, fun _ => h17 e17, fun _ => e17, h20, fun q => absurd q (by simp [setB])⟩
      case he =>
        intro d a v hd hJ; refine Rd7.elim hJ ?_; intro s17 s18 s19 s20 s21 s22 s23 s24 s25 s26 s27 s28 s29 s30 s31 s32 s33 s34 s6 e HS h0 h1 h2 h3 h4 h5 h6 h7 h8 h9 h10 h11 h12 h13 h14 h15 h16 h17 h18 h19 h20 h21; subst e
        have S3 := hide HS.1
        have O3 := hide (h18 (hd 18 (by decide)))
        clear h0 h1 h2 h3 h4 h5 h6 h7 h8 h9 h10 h11 h12 h13 h14 h15 h16 h17 h18 h19 h20 h21 hd HS g0 g1 g2 g3 hf S2 O2
        go_wp2_with (refine ld256 rfl (.tmp 3) rfl _ _ rfl S3.out.blk ?_)
        refine (rshort_any f _ (8 * k + 6) _ HF.out (by go_num) (by omega)).mono ?_
        rintro e v4 ⟨rfl, hw⟩
        have S4 := hide (S3.out.upto hw S3.out.lt)
        have O4 := hide (O3.out.below hw)
        clear hw S3 O3
        by_cases hz : part f (8 * k + 6) 2 = 0
        case neg =>
          have r1 : (part f (8 * k + 6) 2 != 0) = true := bne_iff_ne.2 hz
          have HE : Hid (¬ okD n b c f) := fun q => hz ((HK.out.1 q).1 k hkn)
          clear hz
          go_wp2_with fail
          go_ret2
          exact RrEnd.no HE.out S4.out.old
        have r1 : (part f (8 * k + 6) 2 != 0) = false := by rw [hz]; rfl
        have Z4 : Hid (∀ j, j < k + 1 → part f (8 * j + 6) 2 = 0) := fun j hj => by
          by_cases e : j = k
          · subst e; exact hz
          · exact Z2.out j (by omega)
        clear hz
        go_wp2_with fail
        go_roundw
        case rel => exact ⟨k + 1, by omega, by go_num, O4.out, S4.out, Z4.out⟩
        case measure => simp [intOf]; omega
    · obtain rfl : k = n := by omega
      obtain ⟨A, cp, rfl, hd, hc⟩ := O2.out.ds
      have T2 : Hid (RT w k b c d_ f A wr) := ⟨S2.out, hd⟩
      clear hd hc O2 S2
      have ne : Nonempty (Of (RT w k b c d_ f A)) := ⟨⟨_, T2.out⟩⟩
      have z0 : ∀ s : Of (RT w k b c d_ f A), s.val.cell? ⟨w.heap.size, 0, none⟩ = some (.int .i64 k) := fun s => s.ok.st.geo.cells.1
      have z1 : ∀ s : Of (RT w k b c d_ f A), s.val.cell? ⟨w.heap.size, 1, none⟩ = some (.int .i64 b) := fun s => s.ok.st.geo.cells.2.1
      have z2 : ∀ s : Of (RT w k b c d_ f A), s.val.cell? ⟨w.heap.size, 2, none⟩ = some (.int .i64 c) := fun s => s.ok.st.geo.cells.2.2.1
      have z3 : ∀ s : Of (RT w k b c d_ f A), s.val.cell? ⟨w.heap.size, 3, none⟩ = some (.int .i64 d_) := fun s => s.ok.st.geo.cells.2.2.2
      have HL : Hid (∀ V, Calls Try.prog 38 #[.agg (bytesOf 256 f), .int .i64 252] V fun e w' => e = .returned (.int .u32 (part f 252 4)) ∧ Below V.heap.size V w') := fun V => rlong_any f 252 252 V HF.out rfl (by omega)
      have HSu : Hid (∀ V, RT w k b c d_ f A V → Calls Try.prog 40 #[.slice (some ⟨w.heap.size + 1, 0, none⟩) 252 256] V fun e w' => e = .returned (.int .u32 ((sumF f 252 : Nat) : Int)) ∧ Below V.heap.size V w') := fun V h =>
        (refSum_any _ 252 256 f V (by omega) HF.out (h.st.blk.bs (by omega))).mono fun e w' ⟨q, r⟩ => ⟨q, r ▸ Below.refl _ _⟩
      have HZe : Hid (∀ V, RT w k b c d_ f A V → Calls Try.prog 41 #[.slice (some ⟨w.heap.size + 1, 8 * k, none⟩) (252 - 8 * k) (256 - 8 * k)] V fun e w' => e = .returned (.bool (sameB (fun i => f (8 * k + i)) zeroF (252 - 8 * k))) ∧ Below V.heap.size V w') := fun V h =>
        (rZero_any (some ⟨w.heap.size + 1, 8 * k, none⟩) (252 - 8 * k) (256 - 8 * k) (fun i => f (8 * k + i)) (by omega) V (h.st.blk.bsAt (p := 8 * k) (k := 252 - 8 * k) (by omega))).mono fun e w' ⟨q, r⟩ => ⟨q, r ▸ Below.refl _ _⟩
      have HMy : Hid (∀ V, RT w k b c d_ f A V → Calls Try.prog 32 #[.agg #[.int .i64 k, .int .i64 b, .int .i64 c, .int .i64 d_], .slice A k cp] V fun e w' => e = .returned (.bool (decide ((k : Int) = (k : Int) ∧ mayDs b c k (rdD f)))) ∧ Below V.heap.size V w') := fun V h => rmay_any k b c d_ A k cp (rdD f) V HMa.out h.ds
      have HB : Hid (decide ((k : Int) = (k : Int) ∧ mayDs b c k (rdD f)) = true ↔ mayDs b c k (rdD f)) := by unfold Hid; simp
      generalize decide ((k : Int) = (k : Int) ∧ mayDs b c k (rdD f)) = mb at *
      have HNo1 : Hid (¬ part f 252 4 = ((sumF f 252 : Nat) : Int) → ¬ okD k b c f) := fun h q => h (HK.out.1 q).2.1
      have HNo2 : Hid (sameB (fun i => f (8 * k + i)) zeroF (252 - 8 * k) = false → ¬ okD k b c f) := fun h q => by
        have := (HK.out.1 q).2.2.1
        rw [h] at this; cases this
      have HNo3 : Hid (mb = false → ¬ okD k b c f) := fun h q => by
        have := HB.out.2 (HK.out.1 q).2.2.2
        rw [h] at this; cases this
      have HYes : Hid (part f 252 4 = ((sumF f 252 : Nat) : Int) → sameB (fun i => f (8 * k + i)) zeroF (252 - 8 * k) = true → mb = true → okD k b c f) := fun h1 h2 h3 => HK.out.2 ⟨Z2.out, h1, h2, HB.out.1 h3⟩
      clear HB HK Z2
      have E := hide (Classical.em (part f 252 4 = ((sumF f 252 : Nat) : Int)))
      have E2 : Hid (sameB (fun i => f (8 * k + i)) zeroF (252 - 8 * k) = false ∨ sameB (fun i => f (8 * k + i)) zeroF (252 - 8 * k) = true) := by
        cases sameB (fun i => f (8 * k + i)) zeroF (252 - 8 * k)
        · exact .inl rfl
        · exact .inr rfl
      generalize sameB (fun i => f (8 * k + i)) zeroF (252 - 8 * k) = zb at *
      obtain rfl | rfl | rfl | rfl : k = 1 ∨ k = 2 ∨ k = 3 ∨ k = 4 := by omega
      all_goals
        clear hk hkn hn1 hn4
        obtain e1 | e1 := E.out
        case inr =>
          have r1 : (part f 252 4 != ((sumF f 252 : Nat) : Int)) = true := bne_iff_ne.2 e1
          have HE := hide (HNo1.out e1)
          clear e1 E E2
          go_wp2_with fail
          refine wp_region_sub (RT w _ b c d_ f A) (by kernel_rfl) (by kernel_rfl) ⟨T2.out.st.drew, T2.out.ds⟩ ?_
          repeat (first
            | go_big_quiet_skip
            | (go_big_quiet_want
               first
               | (refine qldB (.tmp 3) rfl _ f rfl (fun v h => h.st.blk) ?_)
               simp only [Act.put, List.setIfInBounds_toArray, List.set_cons_succ, List.set_cons_zero]
               go_big_quiet_on)
            | (go_big_quiet_want
               go_big_quiet_op
               first
               | go_big_quiet_on
               | go_big_quiet_call (first
                 | (go_at_call 38; (with_reducible exact sub_calls RT.steps (HL.out _)))
                 | (go_at_call 40; exact sub_calls RT.steps (HSu.out _ (Of.ok _)))
                 | (go_at_call 41; exact sub_calls RT.steps (HZe.out _ (Of.ok _)))
                 | (go_at_call 32; exact sub_calls RT.steps (HMy.out _ (Of.ok _))))))
          refine wpQuiet_nil ?_
          rintro w' ⟨s, rfl⟩
          clear z0 z1 z2 z3
          go_wp2_with fail
          go_ret2
          exact RrEnd.no HE.out s.ok.st.old
        have r1 : (part f 252 4 != ((sumF f 252 : Nat) : Int)) = false := by rw [e1]; exact bne_self_eq_false _
        have E1 := hide e1
        clear e1 E
        obtain rfl | rfl := E2.out
        case inl =>
          have HE := hide (HNo2.out rfl)
          clear E2
          go_wp2_with fail
          refine wp_region_sub (RT w _ b c d_ f A) (by kernel_rfl) (by kernel_rfl) ⟨T2.out.st.drew, T2.out.ds⟩ ?_
          repeat (first
            | go_big_quiet_skip
            | (go_big_quiet_want
               first
               | (refine qldB (.tmp 3) rfl _ f rfl (fun v h => h.st.blk) ?_)
               simp only [Act.put, List.setIfInBounds_toArray, List.set_cons_succ, List.set_cons_zero]
               go_big_quiet_on)
            | (go_big_quiet_want
               go_big_quiet_op
               first
               | go_big_quiet_on
               | go_big_quiet_call (first
                 | (go_at_call 38; (with_reducible exact sub_calls RT.steps (HL.out _)))
                 | (go_at_call 40; exact sub_calls RT.steps (HSu.out _ (Of.ok _)))
                 | (go_at_call 41; exact sub_calls RT.steps (HZe.out _ (Of.ok _)))
                 | (go_at_call 32; exact sub_calls RT.steps (HMy.out _ (Of.ok _))))))
          refine wpQuiet_nil ?_
          rintro w' ⟨s, rfl⟩
          clear z0 z1 z2 z3
          go_wp2_with fail
          go_ret2
          exact RrEnd.no HE.out s.ok.st.old
        cases mb
        case false =>
          have HE := hide (HNo3.out rfl)
          clear E2
          go_wp2_with fail
          refine wp_region_sub (RT w _ b c d_ f A) (by kernel_rfl) (by kernel_rfl) ⟨T2.out.st.drew, T2.out.ds⟩ ?_
          repeat (first
            | go_big_quiet_skip
            | (go_big_quiet_want
               first
               | (refine qldB (.tmp 3) rfl _ f rfl (fun v h => h.st.blk) ?_)
               simp only [Act.put, List.setIfInBounds_toArray, List.set_cons_succ, List.set_cons_zero]
               go_big_quiet_on)
            | (go_big_quiet_want
               go_big_quiet_op
               first
               | go_big_quiet_on
               | go_big_quiet_call (first
                 | (go_at_call 38; (with_reducible exact sub_calls RT.steps (HL.out _)))
                 | (go_at_call 40; exact sub_calls RT.steps (HSu.out _ (Of.ok _)))
                 | (go_at_call 41; exact sub_calls RT.steps (HZe.out _ (Of.ok _)))
                 | (go_at_call 32; exact sub_calls RT.steps (HMy.out _ (Of.ok _))))))
          refine wpQuiet_nil ?_
          rintro w' ⟨s, rfl⟩
          clear z0 z1 z2 z3
          go_wp2_with fail
          go_ret2
          exact RrEnd.no HE.out s.ok.st.old
        have HE := hide (HYes.out E1.out rfl rfl)
        clear E2
        go_wp2_with fail
        refine wp_region_sub (RT w _ b c d_ f A) (by kernel_rfl) (by kernel_rfl) ⟨T2.out.st.drew, T2.out.ds⟩ ?_
        repeat (first
          | go_big_quiet_skip
          | (go_big_quiet_want
             first
             | (refine qldB (.tmp 3) rfl _ f rfl (fun v h => h.st.blk) ?_)
             simp only [Act.put, List.setIfInBounds_toArray, List.set_cons_succ, List.set_cons_zero]
             go_big_quiet_on)
          | (go_big_quiet_want
             go_big_quiet_op
             first
             | go_big_quiet_on
             | go_big_quiet_call (first
               | (go_at_call 38; (with_reducible exact sub_calls RT.steps (HL.out _)))
               | (go_at_call 40; exact sub_calls RT.steps (HSu.out _ (Of.ok _)))
               | (go_at_call 41; exact sub_calls RT.steps (HZe.out _ (Of.ok _)))
               | (go_at_call 32; exact sub_calls RT.steps (HMy.out _ (Of.ok _))))))
        refine wpQuiet_nil ?_
        rintro w' ⟨s, rfl⟩
        clear z0 z1 z2 z3
        go_wp2_with fail
        go_ret2
        exact RrEnd.yes HE.out s.ok.ds s.ok.st.old
end Go.Proofs.Ytbngbhildijciaa

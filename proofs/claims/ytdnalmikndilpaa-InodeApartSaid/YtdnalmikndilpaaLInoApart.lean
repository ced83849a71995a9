/- The law InodeApart. -/
import Derived.Test.YtdnalmikndilpaaLInoUnlike
namespace Go.Proofs.Ytdnalmikndilpaa
open Go.RowKit
set_option linter.unusedVariables false

/-- What a block holds behind none, one or both of two puts. -/
def cont (f : Nat → Int) (n m : Int) (x y : Ino) (p q : Bool) : Nat → Int := bif p then putF (bif q then putF f m y else f) n x else (bif q then putF f m y else f)
theorem cont_two {f : Nat → Int} {n m : Int} {x y : Ino} (ne : n ≠ m) (p : Bool) : putF (cont f n m x y p false) m y = cont f n m x y p true := by
  cases p
  · rfl
  · exact put_comm ne
theorem cont_one {f : Nat → Int} {n m : Int} {x y : Ino} (q : Bool) : putF (cont f n m x y false q) n x = cont f n m x y true q := rfl
/-- Two copies of the block are made, in any order. -/
def A5 (r25 : Value) (w : World) (f : Nat → Int) (n m : Int) (x y : Ino) (d : Nat → Bool) (a : Act) (v : World) : Prop := ∃ s13 s14 s7 s8, a = { tmps := (blkV f :: Value.int .i64 n :: Value.int .i64 m :: inoV x :: inoV y :: Value.pointer (some ⟨w.heap.size, 0, none⟩) :: undef :: undef :: Value.pointer (some ⟨w.heap.size + 1, 0, none⟩) :: Value.pointer (some ⟨w.heap.size + 1 + 1, 0, none⟩) :: Value.bool false :: s7 :: s8 :: undef :: undef :: undef :: undef :: undef :: undef :: undef :: undef :: Value.bool true :: Value.bool false :: Value.int .i64 n :: Value.int .i64 m :: r25 :: s13 :: s14 :: undef :: undef :: undef :: undef :: undef :: undef :: undef :: undef :: undef :: undef :: undef :: undef :: undef :: undef :: undef :: undef :: undef :: undef :: undef :: undef :: undef :: undef :: undef :: undef :: undef :: undef :: undef :: undef :: undef :: undef :: undef :: undef :: undef :: undef :: undef :: undef :: undef :: undef :: undef :: undef :: undef :: undef :: undef :: undef :: undef :: undef :: undef :: undef :: undef :: undef :: undef :: undef :: undef :: undef :: undef :: undef :: undef :: undef :: undef :: []).toArray, defers := [] } ∧ USt w f x y v ∧
  (d 0 = true → s13 = blkV f) ∧ (d 1 = true → s14 = blkV f) ∧ Made w v (d 2) (d 4) s7 f ∧ Made w v (d 3) (d 5) s8 f ∧ (d 2 = true → d 3 = true → s7 ≠ s8) ∧ (d 4 = true → d 2 = true) ∧ (d 5 = true → d 3 = true)
/-- Two inodes are put into one block, in any order. -/
def A6 (r25 : Value) (w : World) (f : Nat → Int) (n m : Int) (x y : Ino) (A B : Nat) (c e : Int) (r13 r14 : Value) (d : Nat → Bool) (a : Act) (v : World) : Prop := ∃ s28 s29 s30 s31 s32 s33 s13 s14, a = { tmps := (blkV f :: Value.int .i64 n :: Value.int .i64 m :: inoV x :: inoV y :: Value.pointer (some ⟨w.heap.size, 0, none⟩) :: undef :: undef :: Value.pointer (some ⟨w.heap.size + 1, 0, none⟩) :: Value.pointer (some ⟨w.heap.size + 1 + 1, 0, none⟩) :: Value.bool false :: Value.pointer (some ⟨A, 0, none⟩) :: Value.pointer (some ⟨B, 0, none⟩) :: s13 :: s14 :: undef :: undef :: undef :: undef :: undef :: undef :: Value.bool true :: Value.bool false :: Value.int .i64 n :: Value.int .i64 m :: r25 :: r13 :: r14 :: s28 :: s29 :: s30 :: s31 :: s32 :: s33 :: undef :: undef :: undef :: undef :: undef :: undef :: undef :: undef :: undef :: undef :: undef :: undef :: undef :: undef :: undef :: undef :: undef :: undef :: undef :: undef :: undef :: undef :: undef :: undef :: undef :: undef :: undef :: undef :: undef :: undef :: undef :: undef :: undef :: undef :: undef :: undef :: undef :: undef :: undef :: undef :: undef :: undef :: undef :: undef :: undef :: undef :: undef :: undef :: undef :: undef :: undef :: undef :: undef :: []).toArray, defers := [] } ∧ USt w f x y v ∧
  (d 0 = true → s28 = .int .i64 n) ∧ (d 1 = true → s29 = inoV x) ∧ (d 2 = true → s30 = .int .i64 c) ∧ (d 3 = true → s31 = .int .i64 m) ∧ (d 4 = true → s32 = inoV y) ∧ (d 5 = true → s33 = .int .i64 e) ∧ (d 6 = true → s13 = .int .i64 c) ∧ (d 7 = true → s14 = .int .i64 e) ∧
  Row v A 256 (cont f n m x y (d 2) (d 5)) ∧ Row v B 256 f
def A7 (r25 : Value) (w : World) (f : Nat → Int) (n m : Int) (x y : Ino) (A B : Nat) (c e : Int) (F : Nat → Int) (r13 r14 r28 r29 r30 r31 r32 r33 : Value) (d : Nat → Bool) (a : Act) (v : World) : Prop := ∃ s28 s29 s30 s31 s32 s33 s13 s14, a = { tmps := (blkV f :: Value.int .i64 n :: Value.int .i64 m :: inoV x :: inoV y :: Value.pointer (some ⟨w.heap.size, 0, none⟩) :: undef :: undef :: Value.pointer (some ⟨w.heap.size + 1, 0, none⟩) :: Value.pointer (some ⟨w.heap.size + 1 + 1, 0, none⟩) :: Value.bool false :: Value.pointer (some ⟨A, 0, none⟩) :: Value.pointer (some ⟨B, 0, none⟩) :: Value.int .i64 c :: Value.int .i64 e :: s13 :: s14 :: undef :: undef :: undef :: undef :: Value.bool true :: Value.bool false :: Value.int .i64 n :: Value.int .i64 m :: r25 :: r13 :: r14 :: r28 :: r29 :: r30 :: r31 :: r32 :: r33 :: s28 :: s29 :: s30 :: s31 :: s32 :: s33 :: undef :: undef :: undef :: undef :: undef :: undef :: undef :: undef :: undef :: undef :: undef :: undef :: undef :: undef :: undef :: undef :: undef :: undef :: undef :: undef :: undef :: undef :: undef :: undef :: undef :: undef :: undef :: undef :: undef :: undef :: undef :: undef :: undef :: undef :: undef :: undef :: undef :: undef :: undef :: undef :: undef :: undef :: undef :: undef :: undef :: undef :: undef :: []).toArray, defers := [] } ∧ USt w f x y v ∧
  (d 0 = true → s28 = .int .i64 m) ∧ (d 1 = true → s29 = inoV y) ∧ (d 2 = true → s30 = .int .i64 e) ∧ (d 3 = true → s31 = .int .i64 n) ∧ (d 4 = true → s32 = inoV x) ∧ (d 5 = true → s33 = .int .i64 c) ∧ (d 6 = true → s13 = .int .i64 e) ∧ (d 7 = true → s14 = .int .i64 c) ∧
  Row v B 256 (cont f m n y x (d 2) (d 5)) ∧ Row v A 256 F
set_option maxRecDepth 100000 in
set_option maxHeartbeats 1600000 in
theorem inodeApart_same (f : Nat → Int) (n : Int) (x y : Ino) (w : World) : Calls Try.prog 6 #[blkV f, .int .i64 n, .int .i64 n, inoV x, inoV y] w fun e w' => e = .returned (.bool true) ∧ Below w.heap.size w w' := by
  unfold inoV blkV
  go_enter Try.func6, Try.ntmps6
  have S0 := hide (USt.start w f x y 23 27 27)
  go_wp2_with fail
  refine (awake_any _).mono ?_
  rintro e w1 ⟨rfl, hw⟩
  have S1 := hide (S0.out.below hw)
  clear hw S0
  go_wp2_with fail
  go_ret
  exact ⟨rfl, S1.out.old⟩
set_option maxRecDepth 100000 in
set_option maxHeartbeats 3200000 in
theorem inodeApart_law (f : Nat → Int) (n m : Int) (x y : Ino) (hf : IsByte f) (hx : InoOk x) (hy : InoOk y) (w : World) : Calls Try.prog 6 #[blkV f, .int .i64 n, .int .i64 m, inoV x, inoV y] w fun e w' => e = .returned (.bool true) ∧ Below w.heap.size w w' := by
  by_cases hne : n = m
  · subst hne; exact inodeApart_same f n x y w
  have HX := hide hx
  have HY := hide hy
  have HF := hide hf
  clear hf hx hy
  unfold inoV blkV
  go_enter Try.func6, Try.ntmps6
  have S0 := hide (USt.start w f x y 23 27 27)
  go_wp2_with fail
  refine (awake_any _).mono ?_
  rintro e w1 ⟨rfl, hw⟩
  have S1 := hide (S0.out.below hw)
  clear hw S0
  go_wp2_with fail
  generalize Value.bool (n == m) = r25
  refine wp_region_steps (by kernel_rfl) (by kernel_rfl) (A5 r25 w f n m x y) ?h0 ?hs ?he
  case h0 => exact ⟨_, _, _, _, rfl, S1.out.drew, by simp, by simp, by simp [Made], by simp [Made], by simp, by simp, by simp⟩
  case hs =>
    refine ⟨?o0, ?o1, ?o2, ?o3, ?o4, ?o5, trivial⟩
    case o0 =>
      rintro d _ v hd hr ⟨s13, s14, s7, s8, rfl, hS, h0, h1, h2, h3, h4, h5, h6⟩
      refine ld256 rfl (.tmp 5) rfl _ _ rfl hS.blk ?_
      refine ⟨_, s14, s7, s8, rfl, hS, fun _ => rfl, ?_⟩
      simp only [setB, Nat.reduceEqDiff, if_false]
      exact ⟨h1, h2, h3, h4, h5, h6⟩
    case o1 =>
      rintro d _ v hd hr ⟨s13, s14, s7, s8, rfl, hS, h0, h1, h2, h3, h4, h5, h6⟩
      refine ld256 rfl (.tmp 5) rfl _ _ rfl hS.blk ?_
      refine ⟨s13, _, s7, s8, rfl, hS, ?_⟩
      simp only [setB, Nat.reduceEqDiff, if_false]
      exact ⟨h0, fun _ => rfl, h2, h3, h4, h5, h6⟩
    case o2 =>
      rintro d _ v hd hr ⟨s13, s14, s7, s8, rfl, hS, h0, h1, h2, h3, h4, h5, h6⟩
      refine allocB rfl rfl ?_
      have k4 : d 4 = false := by cases e : d 4 <;> simp_all
      have hl := hS.lt
      refine ⟨s13, s14, _, s8, rfl, hS.alloc _, h0, h1, ?_, ?_, ?_, ?_, h6⟩
      · intro _
        refine ⟨v.heap.size, rfl, hl, ?_⟩
        rw [if_neg (by simp [setB, k4])]; exact Row.new _ _ _ _
      · exact h3.below ((Below.refl _ _).alloc (Nat.le_refl _) _)
      · intro _ q e
        obtain ⟨B, e1, _, e2⟩ := h3 q
        rw [e1] at e
        have := e2.lt
        simp at e <;> omega
      · intro q; simp [setB]
    case o3 =>
      rintro d _ v hd hr ⟨s13, s14, s7, s8, rfl, hS, h0, h1, h2, h3, h4, h5, h6⟩
      refine allocB rfl rfl ?_
      have k5 : d 5 = false := by cases e : d 5 <;> simp_all
      have hl := hS.lt
      refine ⟨s13, s14, s7, _, rfl, hS.alloc _, h0, h1, ?_, ?_, ?_, h5, ?_⟩
      · exact h2.below ((Below.refl _ _).alloc (Nat.le_refl _) _)
      · intro _
        refine ⟨v.heap.size, rfl, hl, ?_⟩
        rw [if_neg (by simp [setB, k5])]; exact Row.new _ _ _ _
      · intro q _ e
        obtain ⟨B, e1, _, e2⟩ := h2 q
        rw [e1] at e
        have := e2.lt
        simp at e <;> omega
      · intro q; simp [setB]
    case o4 =>
      rintro d _ v hd hr ⟨s13, s14, s7, s8, rfl, hS, h0, h1, h2, h3, h4, h5, h6⟩
      obtain ⟨d2, d0, -⟩ := hr
      have d0 := d0 rfl
      have d2 := d2 rfl
      obtain rfl := h0 d0
      obtain ⟨A, rfl, hA, hrow⟩ := h2 d2
      refine st256 rfl (.tmp 11) (.tmp 26) rfl A _ f rfl rfl hrow ?_
      intro v' hr' ho'
      refine ⟨_, s14, _, s8, rfl, hS.only ho' hA, h0, h1, ?_, ?_, h4, ?_, h6⟩
      · exact fun _ => ⟨A, rfl, hA, by rw [if_pos (setB_same d 4)]; exact hr'⟩
      · exact h3.only ho' fun q e => h4 d2 q e.symm
      · exact fun _ => d2
    case o5 =>
      rintro d _ v hd hr ⟨s13, s14, s7, s8, rfl, hS, h0, h1, h2, h3, h4, h5, h6⟩
      obtain ⟨d3, d1, -⟩ := hr
      have d1 := d1 rfl
      have d3 := d3 rfl
      obtain rfl := h1 d1
      obtain ⟨A, rfl, hA, hrow⟩ := h3 d3
      refine st256 rfl (.tmp 12) (.tmp 27) rfl A _ f rfl rfl hrow ?_
      intro v' hr' ho'
      refine ⟨s13, _, s7, _, rfl, hS.only ho' hA, h0, h1, ?_, ?_, h4, h5, ?_⟩
      · exact h2.only ho' fun q e => h4 q d3 e
      · exact fun _ => ⟨A, rfl, hA, by rw [if_pos (setB_same d 5)]; exact hr'⟩
      · exact fun _ => d3
  case he =>
    rintro d _ v hd ⟨r13, r14, s7, s8, rfl, hS, -, -, h2, h3, h4, -, -⟩
    have d2 := hd 2 (by decide)
    have d3 := hd 3 (by decide)
    have d4 := hd 4 (by decide)
    have d5 := hd 5 (by decide)
    obtain ⟨A, rfl, hA, hrA⟩ := h2 d2
    obtain ⟨B, rfl, hB, hrB⟩ := h3 d3
    have hAB : A ≠ B := fun e => h4 d2 d3 (by rw [e])
    rw [if_pos d4] at hrA
    rw [if_pos d5] at hrB
    clear h2 h3 h4 hd d2 d3 d4 d5 S1
    have S2 := hide hS
    have RA := hide hrA
    have RB := hide hrB
    clear hS hrA hrB
    go_wp2_with fail
    refine wp_region_steps (by kernel_rfl) (by kernel_rfl) (A6 r25 w f n m x y A B (putC n x) (putC m y) r13 r14) ?h0 ?hs ?he
    case h0 => exact ⟨_, _, _, _, _, _, _, _, rfl, S2.out.drew, by simp, by simp, by simp, by simp, by simp, by simp, by simp, by simp, RA.out, RB.out⟩
    case hs =>
      refine ⟨?o0, ?o1, ?o2, ?o3, ?o4, ?o5, ?o6, ?o7, trivial⟩
      case o0 =>
        rintro d _ v hd hr ⟨s28, s29, s30, s31, s32, s33, s13, s14, rfl, hS, h0, h1, h2, h3, h4, h5, h6, h7, h8, h9⟩
        go_wp2_with fail
        exact ⟨_, s29, s30, s31, s32, s33, s13, s14, rfl, hS, fun _ => rfl, h1, h2, h3, h4, h5, h6, h7, h8, h9⟩
      case o1 =>
        rintro d _ v hd hr ⟨s28, s29, s30, s31, s32, s33, s13, s14, rfl, hS, h0, h1, h2, h3, h4, h5, h6, h7, h8, h9⟩
        refine ldI rfl (.tmp 8) rfl _ _ rfl hS.ix ?_
        exact ⟨s28, _, s30, s31, s32, s33, s13, s14, rfl, hS, h0, fun _ => rfl, h2, h3, h4, h5, h6, h7, h8, h9⟩
      case o2 =>
        rintro d _ v hd hr ⟨s28, s29, s30, s31, s32, s33, s13, s14, rfl, hS, h0, h1, h2, h3, h4, h5, h6, h7, h8, h9⟩
        obtain ⟨d0, d1, -⟩ := hr
        obtain rfl := h0 (d0 rfl)
        obtain rfl := h1 (d1 rfl)
        go_wp2_with fail
        refine (iput_any A n _ x _ HX.out h8).mono ?_
        rintro e v' ⟨rfl, hr', ho'⟩
        go_wp2_with fail
        rw [hd] at hr'
        refine ⟨_, _, _, s31, s32, s33, s13, s14, rfl, hS.only ho' hA, fun _ => rfl, fun _ => rfl, fun _ => rfl, h3, h4, h5, h6, h7, ?_, h9.only ho' hAB.symm⟩
        exact hr'
      case o3 =>
        rintro d _ v hd hr ⟨s28, s29, s30, s31, s32, s33, s13, s14, rfl, hS, h0, h1, h2, h3, h4, h5, h6, h7, h8, h9⟩
        go_wp2_with fail
        exact ⟨s28, s29, s30, _, s32, s33, s13, s14, rfl, hS, h0, h1, h2, fun _ => rfl, h4, h5, h6, h7, h8, h9⟩
      case o4 =>
        rintro d _ v hd hr ⟨s28, s29, s30, s31, s32, s33, s13, s14, rfl, hS, h0, h1, h2, h3, h4, h5, h6, h7, h8, h9⟩
        refine ldI rfl (.tmp 9) rfl _ _ rfl hS.iy ?_
        exact ⟨s28, s29, s30, s31, _, s33, s13, s14, rfl, hS, h0, h1, h2, h3, fun _ => rfl, h5, h6, h7, h8, h9⟩
      case o5 =>
        rintro d _ v hd hr ⟨s28, s29, s30, s31, s32, s33, s13, s14, rfl, hS, h0, h1, h2, h3, h4, h5, h6, h7, h8, h9⟩
        obtain ⟨d3, d4, -⟩ := hr
        obtain rfl := h3 (d3 rfl)
        obtain rfl := h4 (d4 rfl)
        go_wp2_with fail
        refine (iput_any A m _ y _ HY.out h8).mono ?_
        rintro e v' ⟨rfl, hr', ho'⟩
        go_wp2_with fail
        rw [hd] at hr'
        refine ⟨s28, s29, s30, _, _, _, s13, s14, rfl, hS.only ho' hA, h0, h1, h2, fun _ => rfl, fun _ => rfl, fun _ => rfl, h6, h7, ?_, h9.only ho' hAB.symm⟩
        exact cont_two (n := n) (m := m) hne (d 2) ▸ hr'
      case o6 =>
        rintro d _ v hd hr ⟨s28, s29, s30, s31, s32, s33, s13, s14, rfl, hS, h0, h1, h2, h3, h4, h5, h6, h7, h8, h9⟩
        obtain ⟨d2, -⟩ := hr
        obtain rfl := h2 (d2 rfl)
        go_wp2_with fail
        exact ⟨s28, s29, _, s31, s32, s33, _, s14, rfl, hS, h0, h1, fun _ => rfl, h3, h4, h5, fun _ => rfl, h7, h8, h9⟩
      case o7 =>
        rintro d _ v hd hr ⟨s28, s29, s30, s31, s32, s33, s13, s14, rfl, hS, h0, h1, h2, h3, h4, h5, h6, h7, h8, h9⟩
        obtain ⟨d5, -⟩ := hr
        obtain rfl := h5 (d5 rfl)
        go_wp2_with fail
        exact ⟨s28, s29, s30, s31, s32, _, s13, _, rfl, hS, h0, h1, h2, h3, h4, fun _ => rfl, h6, fun _ => rfl, h8, h9⟩
    case he =>
      rintro d _ v hd ⟨r28, r29, r30, r31, r32, r33, s13, s14, rfl, hS, -, -, -, -, -, -, h6, h7, h8, h9⟩
      obtain rfl := h6 (hd 6 (by decide))
      obtain rfl := h7 (hd 7 (by decide))
      rw [hd 2 (by decide), hd 5 (by decide)] at h8
      clear S2 RA RB hd h6 h7
      have S2 := hide hS
      have RA := hide h8
      have RB := hide h9
      clear hS h8 h9
      go_wp2_with fail
      refine wp_region_steps (by kernel_rfl) (by kernel_rfl) (A7 r25 w f n m x y A B (putC n x) (putC m y) (cont f n m x y true true) r13 r14 r28 r29 r30 r31 r32 r33) ?h0 ?hs ?he
      case h0 => exact ⟨_, _, _, _, _, _, _, _, rfl, S2.out.drew, by simp, by simp, by simp, by simp, by simp, by simp, by simp, by simp, RB.out, RA.out⟩
      case hs =>
        refine ⟨?o0, ?o1, ?o2, ?o3, ?o4, ?o5, ?o6, ?o7, trivial⟩
        case o0 =>
          rintro d _ v hd hr ⟨s28, s29, s30, s31, s32, s33, s13, s14, rfl, hS, h0, h1, h2, h3, h4, h5, h6, h7, h8, h9⟩
          go_wp2_with fail
          exact ⟨_, s29, s30, s31, s32, s33, s13, s14, rfl, hS, fun _ => rfl, h1, h2, h3, h4, h5, h6, h7, h8, h9⟩
        case o1 =>
          rintro d _ v hd hr ⟨s28, s29, s30, s31, s32, s33, s13, s14, rfl, hS, h0, h1, h2, h3, h4, h5, h6, h7, h8, h9⟩
          refine ldI rfl (.tmp 9) rfl _ _ rfl hS.iy ?_
          exact ⟨s28, _, s30, s31, s32, s33, s13, s14, rfl, hS, h0, fun _ => rfl, h2, h3, h4, h5, h6, h7, h8, h9⟩
        case o2 =>
          rintro d _ v hd hr ⟨s28, s29, s30, s31, s32, s33, s13, s14, rfl, hS, h0, h1, h2, h3, h4, h5, h6, h7, h8, h9⟩
          obtain ⟨d0, d1, -⟩ := hr
          obtain rfl := h0 (d0 rfl)
          obtain rfl := h1 (d1 rfl)
          go_wp2_with fail
          refine (iput_any B m _ y _ HY.out h8).mono ?_
          rintro e v' ⟨rfl, hr', ho'⟩
          go_wp2_with fail
          rw [hd] at hr'
          refine ⟨_, _, _, s31, s32, s33, s13, s14, rfl, hS.only ho' hB, fun _ => rfl, fun _ => rfl, fun _ => rfl, h3, h4, h5, h6, h7, ?_, h9.only ho' hAB⟩
          exact hr'
        case o3 =>
          rintro d _ v hd hr ⟨s28, s29, s30, s31, s32, s33, s13, s14, rfl, hS, h0, h1, h2, h3, h4, h5, h6, h7, h8, h9⟩
          go_wp2_with fail
          exact ⟨s28, s29, s30, _, s32, s33, s13, s14, rfl, hS, h0, h1, h2, fun _ => rfl, h4, h5, h6, h7, h8, h9⟩
        case o4 =>
          rintro d _ v hd hr ⟨s28, s29, s30, s31, s32, s33, s13, s14, rfl, hS, h0, h1, h2, h3, h4, h5, h6, h7, h8, h9⟩
          refine ldI rfl (.tmp 8) rfl _ _ rfl hS.ix ?_
          exact ⟨s28, s29, s30, s31, _, s33, s13, s14, rfl, hS, h0, h1, h2, h3, fun _ => rfl, h5, h6, h7, h8, h9⟩
        case o5 =>
          rintro d _ v hd hr ⟨s28, s29, s30, s31, s32, s33, s13, s14, rfl, hS, h0, h1, h2, h3, h4, h5, h6, h7, h8, h9⟩
          obtain ⟨d3, d4, -⟩ := hr
          obtain rfl := h3 (d3 rfl)
          obtain rfl := h4 (d4 rfl)
          go_wp2_with fail
          refine (iput_any B n _ x _ HX.out h8).mono ?_
          rintro e v' ⟨rfl, hr', ho'⟩
          go_wp2_with fail
          rw [hd] at hr'
          refine ⟨s28, s29, s30, _, _, _, s13, s14, rfl, hS.only ho' hB, h0, h1, h2, fun _ => rfl, fun _ => rfl, fun _ => rfl, h6, h7, ?_, h9.only ho' hAB⟩
          exact cont_two (n := m) (m := n) (Ne.symm hne) (d 2) ▸ hr'
        case o6 =>
          rintro d _ v hd hr ⟨s28, s29, s30, s31, s32, s33, s13, s14, rfl, hS, h0, h1, h2, h3, h4, h5, h6, h7, h8, h9⟩
          obtain ⟨d2, -⟩ := hr
          obtain rfl := h2 (d2 rfl)
          go_wp2_with fail
          exact ⟨s28, s29, _, s31, s32, s33, _, s14, rfl, hS, h0, h1, fun _ => rfl, h3, h4, h5, fun _ => rfl, h7, h8, h9⟩
        case o7 =>
          rintro d _ v hd hr ⟨s28, s29, s30, s31, s32, s33, s13, s14, rfl, hS, h0, h1, h2, h3, h4, h5, h6, h7, h8, h9⟩
          obtain ⟨d5, -⟩ := hr
          obtain rfl := h5 (d5 rfl)
          go_wp2_with fail
          exact ⟨s28, s29, s30, s31, s32, _, s13, _, rfl, hS, h0, h1, h2, h3, h4, fun _ => rfl, h6, fun _ => rfl, h8, h9⟩
      case he =>
        rintro d _ v hd ⟨r34, r35, r36, r37, r38, r39, s13, s14, rfl, hS, -, -, -, -, -, -, h6, h7, h8, h9⟩
        obtain rfl := h6 (hd 6 (by decide))
        obtain rfl := h7 (hd 7 (by decide))
        rw [hd 2 (by decide), hd 5 (by decide)] at h8
        have q1 : cont f m n y x true true = putF (putF f n x) m y := rfl
        have q2 : cont f n m x y true true = putF (putF f n x) m y := (put_comm hne).symm
        rw [q1] at h8
        rw [q2] at h9
        clear S2 RA RB hd h6 h7 q1 q2
        have P5 : Hid (U5 w f x y A B (putF (putF f n x) m y) (putF (putF f n x) m y) v) := ⟨hS, h9, h8⟩
        clear hS h8 h9
        have HB : Hid (IsByte (putF (putF f n x) m y)) := putF_byte (putF_byte HF.out n HX.out) m HY.out
        have K1 : putC n x = 0 → getC (putF (putF f n x) m y) n = 0 ∧ inoE (getI (putF (putF f n x) m y) n) x = true := fun h => by
          obtain ⟨p, q⟩ := putC_may h
          rw [← put_comm (fun e => hne e.symm)]
          exact get_put _ p HX.out q
        have K2 : putC m y = 0 → getC (putF (putF f n x) m y) m = 0 ∧ inoE (getI (putF (putF f n x) m y) m) y = true := fun h => by
          obtain ⟨p, q⟩ := putC_may h
          exact get_put _ p HY.out q
        have c1 : putC n x = 0 ∨ putC n x = 2 ∨ putC n x = 70 := by unfold putC; split <;> (try split) <;> simp
        have c2 : putC m y = 0 ∨ putC m y = 2 ∨ putC m y = 70 := by unfold putC; split <;> (try split) <;> simp
        have G1 := fun V => iget_any (putF (putF f n x) m y) HB.out n V
        have G2 := fun V => iget_any (putF (putF f n x) m y) HB.out m V
        clear HF HB
        generalize putF (putF f n x) m y = F at *
        generalize putC n x = c at *
        generalize putC m y = e at *
        generalize getC F n = g at *
        generalize getC F m = h at *
        generalize getI F n = u at *
        generalize getI F m = z at *
        replace G1 := hide G1
        replace G2 := hide G2
        replace hne := hide hne
        replace hAB := hide hAB
        obtain ⟨rfl, rfl, k1⟩ | rfl | rfl : (c = 0 ∧ g = 0 ∧ (!inoE u x) = false) ∨ c = 2 ∨ c = 70 := by
          rcases c1 with c1 | c1 | c1
          · exact .inl ⟨c1, (K1 c1).1, by rw [(K1 c1).2]; rfl⟩
          · exact .inr (.inl c1)
          · exact .inr (.inr c1)
        all_goals
          clear K1 c1
          obtain ⟨rfl, rfl, k2⟩ | rfl | rfl : (e = 0 ∧ h = 0 ∧ inoE z y = true) ∨ e = 2 ∨ e = 70 := by
            rcases c2 with c2 | c2 | c2
            · exact .inl ⟨c2, (K2 c2).1, (K2 c2).2⟩
            · exact .inr (.inl c2)
            · exact .inr (.inr c2)
        all_goals
          clear K2 c2
          have sb : (!sameB F F 256) = false := by rw [sameB_self]; rfl
          go_wp2_with (first
            | (refine ldBg rfl (.tmp 11) rfl _ _ rfl P5.out.one ?_)
            | (refine ldBg rfl (.tmp 12) rfl _ _ rfl P5.out.two ?_)
            | (refine neqBg rfl (.tmp 49) (.tmp 50) rfl _ _ rfl rfl sb ?_))
          refine (G1.out _).mono ?_
          rintro e V1 ⟨rfl, hw⟩
          have P6 : Hid (U5 w f x y A B F F V1) := ⟨P5.out.st.below hw, P5.out.one.below hw P5.out.one.lt, P5.out.two.below hw P5.out.two.lt⟩
          clear hw P5
          go_wp2_with (first
            | (refine stI rfl (.tmp 17) (.tmp 57) rfl V1.heap.size (zeroI 0) u rfl rfl (IAt.new V1 _ (zeroI 0)) ?_
               intro V2 hr ho
               have I7 := hide hr
               have P7 : Hid (U5 w f x y A B F F V2) := ⟨(P6.out.st.alloc _).only ho P6.out.st.lt, (P6.out.one.alloc _).only ho (Nat.ne_of_lt P6.out.one.lt), (P6.out.two.alloc _).only ho (Nat.ne_of_lt P6.out.two.lt)⟩
               clear hr ho P6)
            | (refine ldIg rfl (.tmp 17) rfl _ _ rfl I7.out ?_)
            | (refine ldIg rfl (.tmp 8) rfl _ _ rfl P7.out.st.ix ?_)
            | (refine neqIg rfl (.tmp 65) (.tmp 66) rfl _ _ rfl rfl k1 ?_)
            | (refine ldBg rfl (.tmp 11) rfl _ _ rfl P7.out.one ?_))
          refine (G2.out _).mono ?_
          rintro e V3 ⟨rfl, hw⟩
          have P8 : Hid (U5 w f x y A B F F V3) := ⟨P7.out.st.below hw, P7.out.one.below hw P7.out.one.lt, P7.out.two.below hw P7.out.two.lt⟩
          clear hw P7 I7
          go_wp2_with (first
            | (refine stI rfl (.tmp 19) (.tmp 74) rfl V3.heap.size (zeroI 0) z rfl rfl (IAt.new V3 _ (zeroI 0)) ?_
               intro V4 hr ho
               have I9 := hide hr
               have P9 : Hid (U5 w f x y A B F F V4) := ⟨(P8.out.st.alloc _).only ho P8.out.st.lt, (P8.out.one.alloc _).only ho (Nat.ne_of_lt P8.out.one.lt), (P8.out.two.alloc _).only ho (Nat.ne_of_lt P8.out.two.lt)⟩
               clear hr ho P8)
            | (refine ldIg rfl (.tmp 19) rfl _ _ rfl I9.out ?_)
            | (refine ldIg rfl (.tmp 9) rfl _ _ rfl P9.out.st.iy ?_)
            | (refine eqlIg rfl (.tmp 82) (.tmp 83) rfl _ _ rfl rfl k2 ?_))
          go_ret
          exact ⟨rfl, P9.out.st.old⟩
end Go.Proofs.Ytdnalmikndilpaa
